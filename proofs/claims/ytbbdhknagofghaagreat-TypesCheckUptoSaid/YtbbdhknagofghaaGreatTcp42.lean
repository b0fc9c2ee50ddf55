import Derived.Test.YtbbdhknagofghaaGreatTcp41
set_option linter.all false
set_option maxHeartbeats 4000000
set_option maxRecDepth 100000
open Go.Proofs.Tryz
namespace Go.Proofs.YtbbdhknagofghaaGreat
open _root_.Nat renaming lt_of_lt_of_le→Bg, le_trans→Bj, le_refl→Bm
open _root_.Go.RowKit.Below renaming refl→Bi
open _root_.List renaming getElem?_eq_some_iff→Bp, length_cons→By, cons_append→BC, nil_append→BH, mem_of_getElem?→BQ, length_nil→BV
open _root_.Array renaming getElem?_eq_some_iff→Bs
open Go.RowKit
theorem iG {p:Pg}:∀ (l:List It) (n k:Nat) (x:It),l[k]? =some x→aH p x≠0→(∀ i y,i<k→l[i]? =some y→aH p y=0)→bq p l n=(((n+k:Nat):Int),aH p x)
 | [],_,_,_,h,_,_=>by simp at h
 |y::l,n,0,x,h,hx,_=>by
  simp at h;subst h
  rw [bq,if_neg hx];rfl
 |y::l,n,k+1,x,h,hx,ha=>by
  have h0:=ha 0 y (by omega) rfl
  rw [bq,if_pos h0,iG l (n+1) k x (by simpa using h) hx (fun i z hi hz=>ha (i+1) z (by omega) (by simpa using hz)),Nat.add_right_comm,Nat.add_assoc]
theorem iH {p:Pg}:∀ (l:List It) (n:Nat),(∀ i y,i<l.length→l[i]? =some y→aH p y=0)→bq p l n=(((n+l.length:Nat):Int),0)
 | [],n,_=>by simp [bq]
 |y::l,n,ha=>by
  have h0:=ha 0 y (by simp) rfl
  rw [bq,if_pos h0,iH l (n+1) (fun i z hi hz=>ha (i+1) z (by simp;omega) (by simpa using hz)),By,Nat.add_right_comm,Nat.add_assoc]
def zB (B:Nat) (x:It) (v:Value) (W:World):Prop:=B≤W.heap.size∧AG B x v W
theorem un {B Bf:Nat} (hB:B≤Bf) (x:It) (v:Value):OwnFrom Bf (fun (_:Unit) W=>zB B x v W):=by
 rintro _ X Y row ⟨h1,cs,rfl,h2⟩ hg hr
 exact ⟨Bj h1 hg.size,cs,rfl,dJ.keep h2 fun q hq=>World.cell?_of_block (hg.block q.block (Bg hq h1) (fun e=>by have:=(hr _ e.symm).1;omega))⟩
theorem wi {β:Type} (k:Nat) (cs:Array Value) (t:TypeId):Own (fun (_:β) W=>W.heap[k]? =some (.cells cs t)):=fun _ _ _ _ hs hg hr=>(grownBy_keeps_cells hg hr hs rfl).trans hs
theorem oT {w0:World} {B:Nat} (go:It→Bool) (A1 A2 A3 A4 A5 A6 A7:Option Addr) (p:Pg) (c1 c2 c3 c4 c5 c6 c7:Nat) (hP:bu w0 B A1 A2 A3 A4 A5 A6 A7 p) (hB0:B≤w0.heap.size) (bp:Nat) (w:World) (hBw:B≤w.heap.size) (hbp:w.heap[bp]? =some (.cells (aq p A1 A2 A3 A4 A5 A6 A7 c1 c2 c3 c4 c5 c6 c7) 30)):
  pQ prog 70 #[.pointer (some ⟨bp,0,none⟩)] (zB B) lv (ao p) go (fun W=>Below w0.heap.size w0 W) w:=by
 intro l J S W hW hJ hS hJK hY h0
 have hYl:Yl l B (ao p) (fun k=>((ao p)[k]?).elim true go) J S:=fun k x v W1 hx h1 hr=>by
  have:=hY k x v W1 hx h1 ⟨Bj hB0 (hJK k W1 h1).size,hr⟩
  show Ad _ l v W1 (((ao p)[k]?).elim true go) _ _
  rw [hx]
  exact this
 exact wh A1 A2 A3 A4 A5 A6 A7 p c1 c2 c3 c4 c5 c6 c7 hYl hJ (fun k W' h=>(hJK k W' h).mono hB0) (Bj hBw hW.size) hP bp W (Bm _) ((hW.block bp (Bs.1 hbp).1).trans hbp) h0
section
attribute [local go_sem] Oper.semAt_some
def uo (p:Pg) (w:World) (e:Ending) (w':World):Prop:=e=.returned (.tuple #[.int .i64 (aZ p).1,.int .i64 (aZ p).2])∧Below w.heap.size w w'
def AA (p:Pg) (w:World) (bp bi:Nat) (C:Array Value) (k:Nat) (W:World):Prop:=
 (Boxed W bi 3 (.int .i64 (k:Int))∧Boxed W (w.heap.size+1) 3 (.int .i64 0)∧Boxed W (w.heap.size+1+1) 33 (.int .i64 0)∧W.heap[bp]? =some (.cells C 30))∧
  (∀ i y,i<k→(ao p)[i]? =some y→aH p y=0)∧Below w.heap.size w W
theorem yg (p:Pg) (w:World) (bp bi:Nat) (C:Array Value) (B':Nat) (hB':w.heap.size≤B'):OwnFrom B' (AA p w bp bi C):=by
 refine OwnFrom.and (Own.from ?_ _) (OwnFrom.and (fun _ _ _ _ h _ _=>h) (ownFrom_below (Bm _) hB'))
 rintro k X Y row ⟨h1,h2,h3,h4⟩ hg hr
 exact ⟨boxed_own bi 3 (fun _:Unit=>.int .i64 (k:Int)) () X Y row h1 hg hr,boxed_own _ 3 (fun _:Unit=>.int .i64 0) () X Y row h2 hg hr,boxed_own _ 33 (fun _:Unit=>.int .i64 0) () X Y row h3 hg hr,wi bp C _ () X Y row h4 hg hr⟩
def AB (p:Pg) (w:World) (_:Nat) (W:World):Prop:=
 (Boxed W (w.heap.size+1) 3 (.int .i64 (aZ p).1)∧Boxed W (w.heap.size+1+1) 33 (.int .i64 (aZ p).2))∧Below w.heap.size w W
theorem yh (p:Pg) (w:World) (B':Nat) (hB':w.heap.size≤B'):OwnFrom B' (AB p w):=by
 refine OwnFrom.and (Own.from ?_ _) (ownFrom_below (Bm _) hB')
 rintro k X Y row ⟨h1,h2⟩ hg hr
 exact ⟨boxed_own _ 3 (fun _:Unit=>.int .i64 (aZ p).1) () X Y row h1 hg hr,boxed_own _ 33 (fun _:Unit=>.int .i64 (aZ p).2) () X Y row h2 hg hr⟩
def zC (w:World) (a b:Int) (W:World):Prop:=
 (Boxed W (w.heap.size+1) 3 (.int .i64 a)∧Boxed W (w.heap.size+1+1) 33 (.int .i64 b))∧Below w.heap.size w W
theorem rQ (w:World) (a b:Int):OwnFrom w.heap.size (fun (_:Unit) W=>zC w a b W):=by
 refine OwnFrom.and (Own.from ?_ _) (ownFrom_below (Bm _) (Bm _))
 rintro k X Y row ⟨h1,h2⟩ hg hr
 exact ⟨boxed_own _ 3 (fun _:Unit=>.int .i64 a) () X Y row h1 hg hr,boxed_own _ 33 (fun _:Unit=>.int .i64 b) () X Y row h2 hg hr⟩
theorem oU {W:World} {B' k:Nat} {o:Obj} (u:Value) (h:W.heap[k]? =some o) (hne:k≠B'):(W.setCell ⟨B',0,none⟩ u).heap[k]? =some o:=
 ((grownBy_setCell' W B' u).block k (Bs.1 h).1 (fun e=>hne (by injection e))).trans h
theorem pW (p:Pg) (w X:World) (a b:Int) (hv:aZ p=(a,b)) (h:zC w a b X) (tmps:Array Value) (h2:tmps[2]? =some (.pointer (some ⟨w.heap.size+1,0,none⟩))) (h3:tmps[3]? =some (.pointer (some ⟨w.heap.size+1+1,0,none⟩))):
  LeavesIn Fence.wide 3 prog Tryz.f17 tmps (uo p w) [] .returning X:=by
 have c1:=h.1.1.cell
 have c2:=h.1.2.cell
 refine ⟨.tuple #[.int .i64 a,.int .i64 b],?_,by rw [hv],h.2⟩
 simp only [results,results17]
 simp [h2,h3,go_sem,c1,c2]
theorem Kp.setCell {ex:TypeId→Bool} {W:World} {k i:Nat} {cs:Array Value} {t:TypeId} {fr:Nat×Nat} (hb:W.heap[k]? =some (.cells cs t fr)) (hex:ex t=true) (u:Value):Kp ex W (W.setCell ⟨k,i,none⟩ u):=
 Kp.of_grown (g:=k) ⟨rfl,rfl,rfl,by simp [World.setCell],fun j _ hne=>Below.heap_setCell W ⟨k,i,none⟩ u j (fun e=>hne (by rw [e]))⟩ hb hex
def up (v:Value) (W:World):World:=match v with
 | .agg cs=>W.alloc (.cells cs 49)
 |_=>W
theorem lD (v:Value) (W:World):Below W.heap.size W (up v W):=by
 unfold up
 split
 ·exact (Bi _ _).alloc (Bm _) _
 ·exact Bi _ _
theorem rR (A1 A2 A3 A4 A5 A6 A7:Option Addr) (p:Pg) (c1 c2 c3 c4 c5 c6 c7:Nat) (B:Nat) (w:World) (hB:B≤w.heap.size) (hP:bu w B A1 A2 A3 A4 A5 A6 A7 p)
  (hMay:∀ W,B≤W.heap.size→Below w.heap.size w W→Calls prog 30 #[.agg (aq p A1 A2 A3 A4 A5 A6 A7 c1 c2 c3 c4 c5 c6 c7)] W fun e W'=>e=.returned (.bool (bg p))∧Below W.heap.size W W'):
  Calls prog 17 #[.agg (aq p A1 A2 A3 A4 A5 A6 A7 c1 c2 c3 c4 c5 c6 c7)] w (uo p w):=by
 unfold aq
 obtain ⟨wa,hwa,hsa,hba,hca,-⟩:=al w (aq p A1 A2 A3 A4 A5 A6 A7 c1 c2 c3 c4 c5 c6 c7) 30
 obtain ⟨wb,hwb,hsb,hbb,hcb,-⟩:=al wa #[.int .i64 0] 3
 obtain ⟨wc,hwc,hsc,hbc,hcc,-⟩:=al wb #[.int .i64 0] 33
 have hz1:wb.heap.size=w.heap.size+1+1:=by omega
 have hP0:wc.heap[w.heap.size]? =some (.cells #[.slice A1 p.headers.length c1,.slice A2 p.metas.length c2,.slice A3 p.states.length c3,.slice A4 p.actions.length c4,.slice A5 p.tables.length c5,.slice A6 p.control.length c6,.slice A7 p.emit.length c7] 30):=(hbc.block _ (by omega)).trans ((hbb.block _ (by omega)).trans (by rw [←hwa];exact World.alloc_heap_new w _))
 have hR0:Boxed wc (w.heap.size+1) 3 (.int .i64 0):=(hbc.block _ (by omega)).trans (by rw [←hwb,←hsa];exact World.alloc_heap_new wa _)
 have hE0:Boxed wc (w.heap.size+1+1) 33 (.int .i64 0):=by rw [←hwc,←hz1];exact World.alloc_heap_new wb _
 have hw:Below w.heap.size w wc:=hba.trans ((hbb.mono (by omega)).trans (hbc.mono (by omega)))
 have hcz:=au hP0
 obtain ⟨z0,z1,z2,z3,z4,z5,z6⟩:=aF (w:=wc) (a:=w.heap.size) fun i=>hcz i
 have hMc:=aa (hMay wc (by have:=hw.size;omega) hw)
 have hzc:w.heap.size+3≤wc.heap.size:=by omega
 clear hca hcb hcc hba hbb hbc hcz hMay hz1
 replace hP0:=aa hP0
 replace hw:=aa hw
 replace hsc:=aa hsc
 refine (callsIn_wide (n:=3)).1 (callsIn_of_wp_marks func17 rfl trivial ?_)
 simp only [ntmps17,List.size_toArray,By,BV,Nat.reduceAdd,Nat.reduceSub,Array.replicate_succ,Array.replicate_zero,List.push_toArray,List.append_toArray,BH,BC]
 gi_wp2
 refine ⟨trivial,?_⟩
 refine (callsIn_wide.2 hMc.out).mono ?_
 rintro e w1 ⟨rfl,hb1⟩
 have hz1:=hb1.size
 have hR1:Boxed w1 (w.heap.size+1) 3 (.int .i64 0):=(hb1.block _ (by omega)).trans hR0
 have hE1:Boxed w1 (w.heap.size+1+1) 33 (.int .i64 0):=(hb1.block _ (by omega)).trans hE0
 have hP1:w1.heap[w.heap.size]? =some (.cells #[.slice A1 p.headers.length c1,.slice A2 p.metas.length c2,.slice A3 p.states.length c3,.slice A4 p.actions.length c4,.slice A5 p.tables.length c5,.slice A6 p.control.length c6,.slice A7 p.emit.length c7] 30):=(hb1.block _ (by omega)).trans hP0.out
 have hw1:=aa (hw.out.trans (hb1.mono (by omega)))
 cases hm:bg p with
 |false=>
  have hr1:=hR1.cell
  have hr2:=hR1.frozen
  have hr3:=hE1.cell
  have hr4:=hE1.frozen
  have hr5:=hR1.lt
  have hr6:=hE1.lt
  have hv:=aa (show aZ p=(-1,2) from by unfold aZ;rw [hm];rfl)
  replace hR1:=aa hR1
  replace hE1:=aa hE1
  replace hm:=aa hm
  clear hP1 hMc hP0
  have hR5:=aa ((hR1.out.set (.int .i64 (-1))).other (B':=w.heap.size+1+1) (by omega) (.int .i64 2))
  have hE5:=aa ((hE1.out.other (B':=w.heap.size+1) (by omega) (.int .i64 (-1))).set (.int .i64 2))
  have hB5:=aa ((hw1.out.setCell (p:=⟨w.heap.size+1,0,none⟩) (by simp) (.int .i64 (-1))).setCell (p:=⟨w.heap.size+1+1,0,none⟩) (by simp;omega) (.int .i64 2))
  gi_wp2
  exact pW p w _ _ _ hv.out ⟨⟨hR5.out,hE5.out⟩,hB5.out⟩ _ rfl rfl
 |true=>
  have hc1:=au hP1
  obtain ⟨y0,y1,y2,y3,y4,y5,y6⟩:=aF (w:=w1) (a:=w.heap.size) fun i=>hc1 i
  have hbl:=(Bs.1 hP1).1
  replace hR1:=aa hR1
  replace hE1:=aa hE1
  replace hP1:=aa hP1
  replace hm:=aa hm
  clear hMc hP0 hc1
  obtain ⟨w2,hw2⟩:∃ w2,w1.alloc (.cells #[.int .i64 0] 3)=w2:=⟨_,rfl⟩
  have hb2:Below w1.heap.size w1 w2:=by rw [←hw2];exact (Bi _ _).alloc (Bm _) _
  have hI2:Boxed w2 w1.heap.size 3 (.int .i64 0):=by rw [←hw2];exact Boxed.new w1 _ _
  have hP2:w2.heap[w.heap.size]? =some (.cells #[.slice A1 p.headers.length c1,.slice A2 p.metas.length c2,.slice A3 p.states.length c3,.slice A4 p.actions.length c4,.slice A5 p.tables.length c5,.slice A6 p.control.length c6,.slice A7 p.emit.length c7] 30):=(hb2.block _ (by omega)).trans hP1.out
  have hc2:=au hP2
  obtain ⟨x0,x1,x2,x3,x4,x5,x6⟩:=aF (w:=w2) (a:=w.heap.size) fun i=>hc2 i
  have hz2:w1.heap.size<w2.heap.size:=hI2.lt
  have hbl2:=(Bs.1 hP2).1
  replace hb2:=aa hb2
  replace hw2:=aa hw2
  replace hI2:=aa hI2
  clear x0 x1 x2 x3 x4 x5 x6
  replace hP2:=aa hP2
  clear hc2
  gi_wp2_with (refine ⟨trivial,?_⟩;gi_at_call 31;refine (callsIn_wide.2 (um A1 A2 A3 A4 A5 A6 A7 p c1 c2 c3 c4 c5 c6 c7 _)).mono ?_;rintro e w3 ⟨rfl,rfl⟩)
  obtain ⟨w3,hw3⟩:∃ w3,w2.alloc (.cells #[.slice A1 p.headers.length c1,.slice A2 p.metas.length c2,.slice A3 p.states.length c3,.slice A4 p.actions.length c4,.slice A5 p.tables.length c5,.slice A6 p.control.length c6,.slice A7 p.emit.length c7] 30)=w3:=⟨_,rfl⟩
  have hs2:w2.heap.size=w1.heap.size+1:=by rw [←hw2.out];simp
  have hb3:Below w2.heap.size w2 w3:=by rw [←hw3];exact (Bi _ _).alloc (Bm _) _
  have hI3:Boxed w3 w1.heap.size 3 (.int .i64 ((0:Nat):Int)):=(hb3.block _ (by omega)).trans hI2.out
  have hb23:Below w1.heap.size w1 w3:=hb2.out.trans (hb3.mono (by omega))
  have hR3:Boxed w3 (w.heap.size+1) 3 (.int .i64 0):=(hb23.block _ hR1.out.lt).trans hR1.out
  have hE3:Boxed w3 (w.heap.size+1+1) 33 (.int .i64 0):=(hb23.block _ hE1.out.lt).trans hE1.out
  have hP3:w3.heap[w.heap.size]? =some (.cells #[.slice A1 p.headers.length c1,.slice A2 p.metas.length c2,.slice A3 p.states.length c3,.slice A4 p.actions.length c4,.slice A5 p.tables.length c5,.slice A6 p.control.length c6,.slice A7 p.emit.length c7] 30):=(hb23.block _ hbl).trans hP1.out
  have hQ3:w3.heap[w1.heap.size+1]? =some (.cells #[.slice A1 p.headers.length c1,.slice A2 p.metas.length c2,.slice A3 p.states.length c3,.slice A4 p.actions.length c4,.slice A5 p.tables.length c5,.slice A6 p.control.length c6,.slice A7 p.emit.length c7] 30):=by rw [←hw3,←hs2];exact World.alloc_heap_new w2 _
  have hB3:Below w.heap.size w w3:=hw1.out.trans (hb23.mono (by omega))
  have hz3:w1.heap.size+1<w3.heap.size:=(Bs.1 hQ3).1
  have hseq:=oT (w0:=w) (B:=B) (fun x=>decide (aH p x=0)) A1 A2 A3 A4 A5 A6 A7 p c1 c2 c3 c4 c5 c6 c7 hP hB (w1.heap.size+1) w3 (by omega) hQ3
  have hcnt:(ao p).length≤4611686018427387904:=by rw [iF];exact vB hm.out
  rw [hw2.out,hw3]
  replace hs2:=aa hs2
  clear hw2 hw3 hb2 hI2 hP2 hb3 hb23 hQ3 hbl2 hbl y0 y1 y2 y3 y4 y5 y6
  refine oQ (gf:=70) (lb:=#[.pointer (some ⟨w1.heap.size+1,0,none⟩)]) rfl lC hseq (Bi _ _) rfl (fun x v=>un (by omega) x v) (AA p w w.heap.size w1.heap.size #[.slice A1 p.headers.length c1,.slice A2 p.metas.length c2,.slice A3 p.states.length c3,.slice A4 p.actions.length c4,.slice A5 p.tables.length c5,.slice A6 p.control.length c6,.slice A7 p.emit.length c7]) (AB p w) (yg p w _ _ _ _ (by omega)) (yh p w _ (by omega)) (fun k W' h=>h.2.2)
   ⟨⟨hI3,hR3,hE3,hP3⟩,fun i y hi=>absurd hi (Nat.not_lt_zero _),hB3⟩ (fun v W=> { tmps:=#[.agg #[.slice A1 p.headers.length c1,.slice A2 p.metas.length c2,.slice A3 p.states.length c3,.slice A4 p.actions.length c4,.slice A5 p.tables.length c5,.slice A6 p.control.length c6,.slice A7 p.emit.length c7],.pointer (some ⟨w.heap.size,0,none⟩),.pointer (some ⟨w.heap.size+1,0,none⟩),.pointer (some ⟨w.heap.size+1+1,0,none⟩),.pointer (some ⟨w1.heap.size,0,none⟩),.pointer (some ⟨W.heap.size,0,none⟩),undef,.agg #[.slice A1 p.headers.length c1,.slice A2 p.metas.length c2,.slice A3 p.states.length c3,.slice A4 p.actions.length c4,.slice A5 p.tables.length c5,.slice A6 p.control.length c6,.slice A7 p.emit.length c7],.bool true,.bool false,.agg #[.slice A1 p.headers.length c1,.slice A2 p.metas.length c2,.slice A3 p.states.length c3,.slice A4 p.actions.length c4,.slice A5 p.tables.length c5,.slice A6 p.control.length c6,.slice A7 p.emit.length c7],.func (.func 70) #[] #[.pointer (some ⟨w1.heap.size+1,0,none⟩)],v,undef,undef,undef,undef,undef,undef,undef,undef,undef,undef],defers:= []}) up lD ?hassign ?hbody ?hdone ?hstop
  case hassign=>
   rintro l x v W K ⟨-,cs,rfl,scs,rfl,hs⟩ hK
   obtain ⟨xk,xa,xb,st⟩:=x
   obtain ⟨kind,head,name,e,thn,els⟩:=st
   obtain ⟨es,A,cap,A',cap',rfl,-,-,-,he,hT,hE⟩:=RS.inv hs
   obtain ⟨op,lit,ehead,ename,hi,lo,args⟩:=e
   obtain ⟨Ae,ecap,rfl,-⟩:=RE.inv he
   have hK':=aa hK
   clear hK hs he hT hE
   simp only [AN,yu,uA,BC,BH] at hK' ⊢
   gi_wp2
   exact hK'.out
  case hbody=>
   rintro l k x v W0 W hl hx ⟨-,cs,rfl,hr0⟩ hkeep ⟨⟨hIb,hRb,hEb,hPb⟩,hall,hbw⟩ hr
   have hbox:=hkeep W0.heap.size _ (World.alloc_heap_new W0 (.cells cs.toArray 49)) rfl
   have hBW:B≤W.heap.size:=Bj hB hbw.size
   have hitm:oL W B cs x:=by
    obtain ⟨-,cs',e,h⟩:=hr
    have:cs.toArray=cs'.toArray:=by injection e
    have:cs=cs':=by simpa using this
    rw [this];exact h
   have hC:=aa (vx A1 A2 A3 A4 A5 A6 A7 p c1 c2 c3 c4 c5 c6 c7 B hm.out x (BQ hx) cs W hBW (hP.below (hbw.mono hB)) hitm)
   have hkl:=(Bp.1 hx).1
   have hx':=aa hx
   obtain ⟨scs,rfl,hs⟩:=hr0
   obtain ⟨s0,s1,s2,s3,s4,s5,s6,s7,s8,s9,s10,s11,s12,s13,rfl⟩:=aI hs
   have hcb:=au hbox
   obtain ⟨n0,n1,n2,n3,n4,n5,n6,n7,n8,n9,n10,n11,n12,n13,n14,n15,n16⟩:=bv hcb
   have hcp:=au hPb
   obtain ⟨q0,q1,q2,q3,q4,q5,q6⟩:=aF (w:=W) (a:=w.heap.size) fun i=>hcp i
   have hall':=aa hall
   have hbw':=aa hbw
   have hIb':=aa hIb
   have hRb':=aa hRb
   have hEb':=aa hEb
   have hPb':=aa hPb
   have hg0:=aa (show aH p x=0→(∀ i y,i<k+1→(ao p)[i]? =some y→aH p y=0) from fun h0 i y hi hy=>by
    by_cases e:i=k
    ·subst e
     rw [hx] at hy;injection hy with hy
     rw [←hy];exact h0
    ·exact hall i y (by omega) hy)
   have hg1:=aa (show aH p x≠0→aZ p=((k:Int),aH p x) from fun h0=>by
    unfold aZ
    rw [if_pos hm.out,iG (ao p) 0 k x hx h0 hall]
    simp)
   generalize aH p x=z at hC hg0 hg1 ⊢
   clear hkeep hbox hcb hcp hitm hs hr hx hall hbw hIb hRb hEb hPb hseq hP hP1
   gi_wp2_with fail
   refine ⟨trivial,?_⟩
   refine (callsIn_wide.2 hC.out).mono ?_
   rintro e w4 ⟨rfl,hb4⟩
   have hI4:Boxed w4 w1.heap.size 3 (.int .i64 (k:Int)):=(hb4.block _ hIb'.out.lt).trans hIb'.out
   have hR4:Boxed w4 (w.heap.size+1) 3 (.int .i64 0):=(hb4.block _ hRb'.out.lt).trans hRb'.out
   have hE4:Boxed w4 (w.heap.size+1+1) 33 (.int .i64 0):=(hb4.block _ hEb'.out.lt).trans hEb'.out
   have hP4:w4.heap[w.heap.size]? =some (.cells #[.slice A1 p.headers.length c1,.slice A2 p.metas.length c2,.slice A3 p.states.length c3,.slice A4 p.actions.length c4,.slice A5 p.tables.length c5,.slice A6 p.control.length c6,.slice A7 p.emit.length c7] 30):=(hb4.block _ (Bs.1 hPb'.out).1).trans hPb'.out
   have hB4:=aa (hbw'.out.trans (hb4.mono hbw'.out.size))
   have hk4:=aa (Kp.of_below lv hb4)
   have i1:=hI4.cell
   have i2:=hI4.frozen
   have i3:=hI4.lt
   have r1:=hR4.cell
   have r2:=hR4.frozen
   have r3:=hR4.lt
   have e1:=hE4.cell
   have e2:=hE4.frozen
   have e3:=hE4.lt
   have hki:(k:Int)≤4611686018427387904:=by omega
   replace hI4:=aa hI4
   replace hR4:=aa hR4
   replace hE4:=aa hE4
   replace hP4:=aa hP4
   by_cases hz0:z=0
   ·subst hz0
    have hN:=aa (hg0.out rfl)
    clear hC hg0 hg1 hb4
    gi_wp2
    refine ⟨hk4.out.trans (Kp.setCell hI4.out rfl _),⟨?_,?_,?_,?_⟩,hN.out,hB4.out.setCell (by simp;omega) _⟩
    ·have:=hI4.out.set (.int .i64 ((k:Int)+1))
     rw [show ((k+1:Nat):Int)=(k:Int)+1 by omega];exact this
    ·exact hR4.out.other (by omega) _
    ·exact hE4.out.other (by omega) _
    ·exact (grownBy_setCell' w4 w1.heap.size _).block _ (Bs.1 hP4.out).1 (by simp;omega)|>.trans hP4.out
   ·have hzb:(z !=0)=true:=by simpa using hz0
    have hN:=aa (hg1.out hz0)
    have hd:=aa hz0
    clear hC hg0 hg1 hb4 hz0
    gi_wp2
    have hR5:=(hR4.out.set (.int .i64 (k:Int))).other (B':=w.heap.size+1+1) (by omega) (.int .i64 z)
    have hE5:=(hE4.out.other (B':=w.heap.size+1) (by omega) (.int .i64 (k:Int))).set (.int .i64 z)
    refine ⟨hd.out,(hk4.out.trans (Kp.setCell hR4.out rfl _)).trans (Kp.setCell (hE4.out.other (B':=w.heap.size+1) (by omega) (.int .i64 (k:Int))) rfl _),⟨?_,?_⟩,(hB4.out.setCell (by simp) _).setCell (by simp;omega) _⟩
    ·rw [hN.out];exact hR5
    ·rw [hN.out];exact hE5
  case hdone=>
   rintro D W rfl ⟨⟨hIb,hRb,hEb,hPb⟩,hall,hbw⟩ hD hkD
   have hv:=aa (show aZ p=(((ao p).length:Int),0) from by
    unfold aZ
    rw [if_pos hm.out,iH (ao p) 0 (fun i y hi hy=>hall i y hi hy)]
    simp)
   have i1:=hIb.cell
   have r1:=hRb.cell
   have r2:=hRb.frozen
   have r3:=hRb.lt
   have e1:=hEb.cell
   have e2:=hEb.frozen
   have e3:=hEb.lt
   have hR5:=aa ((hRb.set (.int .i64 ((ao p).length:Int))).other (B':=w.heap.size+1+1) (by omega) (.int .i64 0))
   have hE5:=aa ((hEb.other (B':=w.heap.size+1) (by omega) (.int .i64 ((ao p).length:Int))).set (.int .i64 0))
   have hB5:=aa ((hbw.setCell (p:=⟨w.heap.size+1,0,none⟩) (by simp) (.int .i64 ((ao p).length:Int))).setCell (p:=⟨w.heap.size+1+1,0,none⟩) (by simp;omega) (.int .i64 0))
   have hM5:=aa hD
   clear hIb hRb hEb hPb hall hbw hkD hD hseq hP hP1
   dsimp only
   gi_wp2
   refine eI (B:=w.heap.size) (zC w ((ao p).length:Int) 0) (rQ w _ _) (fun X hX=>pW p w X _ _ hv.out hX _ rfl rfl) [w3.heap.size] _ ⟨by simp,fun D hD'=> ?_⟩ ⟨⟨hR5.out,hE5.out⟩,hB5.out⟩
   simp only [List.mem_singleton] at hD'
   subst hD'
   exact ⟨by omega,oU _ (oU _ hM5.out (by omega)) (by omega)⟩
  case hstop=>
   rintro D k W rfl hk ⟨⟨hRb,hEb⟩,hbw⟩ hD
   have hRb':=aa hRb
   have hEb':=aa hEb
   have hbw':=aa hbw
   have hM5:=aa hD
   clear hRb hEb hbw hD hseq hP hP1
   gi_wp2
   refine eI (B:=w.heap.size) (zC w (aZ p).1 (aZ p).2) (rQ w _ _) (fun X hX=>pW p w X _ _ rfl hX _ rfl rfl) [w3.heap.size] _ ⟨by simp,fun D hD'=> ?_⟩ ⟨⟨hRb'.out,hEb'.out⟩,hbw'.out⟩
   simp only [List.mem_singleton] at hD'
   subst hD'
   exact ⟨by omega,hM5.out⟩
end
end Go.Proofs.YtbbdhknagofghaaGreat
