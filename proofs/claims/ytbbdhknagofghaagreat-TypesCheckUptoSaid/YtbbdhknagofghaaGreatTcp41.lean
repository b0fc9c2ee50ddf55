import Derived.Test.YtbbdhknagofghaaGreatTcp40
import Derived.Test.YtbbdhknagofghaaGreatTcp25
set_option linter.all false
set_option maxHeartbeats 8000000
set_option maxRecDepth 100000
open Go.Proofs.Tryz
namespace Go.Proofs.YtbbdhknagofghaaGreat
open _root_.Go.RowKit.Below renaming refl→Bi
open _root_.Nat renaming le_trans→Bj, le_refl→Bm, le_of_eq→Br, add_sub_cancel_left→B7
open _root_.List renaming getElem?_eq_getElem→Bk, getElem?_eq_some_iff→Bp, length_append→Bq, length_cons→By, take_of_length_le→BB, cons_append→BC, nil_append→BH, getElem?_append_right→BN, take_succ_eq_append_getElem→BO, getElem?_cons_succ→BP, getElem?_append_left→BU, length_nil→BV, drop_succ_cons→BY
open _root_.Array renaming getElem?_eq_some_iff→Bs
open Go.RowKit
theorem kB {P:Program} {l:List Oper} {Q:Exit→Act→World→Prop} {a:Act} {w:World} {listed:Array Bool} (k fuel:Nat) (hs:Region.noSelect l.toArray=true) (hk:(l.drop k).length=fuel)
  (hB:Region.lexFrom .any l.toArray fuel k listed=true) (h:wpStill P l.toArray w (fun a'=>Q .normal a' w) (l.drop k) a):wpAny P .any l.toArray Q fuel listed a w:=by
 subst hk
 exact wpAny_of_still (Q:=fun a'=>Q .normal a' w) (fun _ h=>h) _ _ _ (wpAnyS_lex hs (l.drop k) k listed a (fun j=>by simp [List.getElem?_drop]) hB h)
theorem tC {P:Program} {Q:Exit→Act→World→Prop} {a:Act} {w:World} (h:wpAny P .any ([]:List Oper).toArray Q 0 #[] a w):Q .normal a w:=h.2
theorem vX {n:Nat} {g:Nat→Bool} {J S:Nat→World→Prop} {W W2 W4:World} {j a b:Nat} {e:Ending} (h:bK g j a=true) (hk:Kp lv W W2) (ht:eJ n g J S W2 (j+a) b e W4):eJ n g J S W j (a+b) e W4:=by
 obtain ⟨h1,h2,h3⟩:=ht
 have e1:bK g j (a+b)=bK g (j+a) b:=by rw [cW,h];rfl
 exact ⟨by rw [e1];exact h1,fun h'=>by rw [e1] at h';rw [←Nat.add_assoc];exact ⟨(h2 h').1,hk.trans (h2 h').2⟩,fun h'=>by rw [e1] at h';exact h3 h'⟩
theorem kC {n:Nat} {g:Nat→Bool} {J S:Nat→World→Prop} {W W4:World} {j a b:Nat} (h:bK g j a=false) (hS:∃ k,k<n∧S k W4):eJ n g J S W j (a+b) (.returned (.bool false)) W4:=
 dK (dZ h (Nat.le_add_right _ _)) hS
theorem tD {l B B0:Nat} {w0:World} {xs:List It} {g:Nat→Bool} {J S:Nat→World→Prop} (hY:Yl l B xs g J S) (hown:OwnFrom B0 J) (hJK:∀ k W,J k W→Below B w0 W) (hBB:B≤B0) (A1 A2 A3 A4 A5 A6 A7:Option Addr) (p:Pg) (c1 c2 c3 c4 c5 c6 c7:Nat) (hP:bu w0 B A1 A2 A3 A4 A5 A6 A7 p) (bp bo i j:Nat) (f:Ac) (hi:p.actions[i]? =some f)
  (W:World) (hB0:B0≤W.heap.size) (hh:eZ A1 A2 A3 A4 A5 A6 A7 p c1 c2 c3 c4 c5 c6 c7 l bp bo W) (hx:∀ k:Nat,k<f.params.length→xs[j+k]? =some ⟨9,(i:Int),(k:Int),de⟩)
  (hx2:∀ (k:Nat) (x:It),(am (i:Int) f.body)[k]? =some x→xs[j+f.params.length+k]? =some x) (hJ:J j W):
  Calls prog 76 #[.int .i64 (i:Int),.pointer (some ⟨bp,0,none⟩),.pointer (some ⟨bo,0,none⟩)] W (eJ xs.length g J S W j (f.params.length+(am (i:Int) f.body).length)):=by
 have hbW:=hJK _ _ hJ
 have hPW:=hP.below hbW
 have hil:=(Bp.1 hi).1
 have hiz:(i:Int)<(p.actions.length:Int):=by omega
 have lst:=hPW.actions.len
 obtain ⟨b,o,ecs,hA,hb,hel,hcell,B1,d1,B2,d2,rfl,hn,hF,hG⟩:=hPW.actions.2 i f hi
 subst hA
 have lf:=hF.len
 have lg:=hG.len
 have hG0:Sl 14 dR w0 B B2 f.body:=hG.keep be fun q hq=>(hbW.cell hq).symm
 have x2':w0.cell? ⟨b,o+i*3+2,none⟩=some (.slice B2 f.body.length d2):=(hbW.cell (p:=⟨b,o+i*3+2,none⟩) hb).symm.trans (hcell 2 _ rfl)
 obtain ⟨x0,x1,x2⟩:=dl hcell
 have hc:=au hh.prog
 have hcy:=au hh.yield
 obtain ⟨z0,z1,z2,z3,z4,z5,z6⟩:=aF (w:=W) (a:=bp) fun i=>hc i
 have y0:W.cell? ⟨bo,0,none⟩=some (.func (.yield l) #[] #[]):=hcy 0
 have hM:=fun (W1:World) (h:J j W1)=>d9 hY 9 (i:Int) f.params.length j lf hx W1 h
 have hT:=aa (fun (W1:World) (h0:B0≤W1.heap.size) (h:J (j+f.params.length) W1)=>lA hY hown hJK hBB f.body (i:Int) B2 d2 W1 (j+f.params.length) hG0 h0 hx2 h)
 have hJ1:=aa (cY hown hJ (show Below W.heap.size W W.drew from (Bi _ _).drew))
 have hkd:=aa (Kp.of_below lv (show Below W.heap.size W W.drew from (Bi _ _).drew))
 have hadd:=aa (cW g j f.params.length (am (i:Int) f.body).length)
 clear hcell hc hcy hJ hP hPW hF hG hi hx hbW hG0 hx2
 replace hh:=aa hh
 replace hJK:=aa hJK
 go_enter func76,ntmps76
 go_wp2_with fail
 cases hr:bK g j f.params.length with
 |true=>
  have hM1:=aa (fun (W1:World) (h:J j W1)=>(hM W1 h).mono (R':=fun e W'=>e=.returned (.bool true)∧J (j+f.params.length) W'∧Kp lv W1 W') fun e W' ⟨h1,h2,_⟩=>⟨by rw [h1,hr],h2 hr⟩)
  have hr':=aa hr
  clear hM hr
  go_region_with (first|(go_at_call 74;refine (hM1.out _ hJ1.out).mono ?_;rintro e W2 ⟨rfl,hJ2,hk2⟩;have c3:W2.cell? ⟨bp,3,none⟩=some (.slice (some ⟨b,o,none⟩) p.actions.length c4):=au (hh.out.kp (hkd.out.trans hk2)).prog 3;have cy:W2.cell? ⟨bo,0,none⟩=some (.func (.yield l) #[] #[]):=au (hh.out.kp (hkd.out.trans hk2)).yield 0;have cx:W2.cell? ⟨b,o+i*3+2,none⟩=some (.slice B2 f.body.length d2):=((hJK.out _ _ hJ2).cell (p:=⟨b,o+i*3+2,none⟩) hb).trans x2';have hk3:=aa (hkd.out.trans hk2);have hJ3:=aa hJ2;clear hJ2 hk2)|(go_at_call 77;refine (hT.out _ (by have:=hk3.out.size;omega) hJ3.out).mono ?_;rintro e W4 ⟨rfl,h1,h2⟩;replace h1:=aa h1;replace h2:=aa h2))
  all_goals
   go_wp2
   go_ret
   exact vX hr'.out hk3.out ⟨rfl,h1.out,h2.out⟩
 |false=>
  have hM1:=aa (fun (W1:World) (h:J j W1)=>(hM W1 h).mono (R':=fun e W'=>e=.returned (.bool false)∧∃ k,k<xs.length∧S k W') fun e W' ⟨h1,_,h3⟩=>⟨by rw [h1,hr],h3 hr⟩)
  have hr':=aa hr
  clear hM hr hT hadd
  go_region_with (go_at_call 74;refine (hM1.out _ hJ1.out).mono ?_;rintro e W2 ⟨rfl,hS2⟩;replace hS2:=aa hS2;dsimp only;rename_i Kq hKq;refine hKq _ _ ?_;clear hKq Kq;refine kB 10 _ (by kernel_rfl) (by kernel_rfl) (by kernel_rfl) ?_;simp only [BY,List.drop_zero];(iterate 12 ((with_reducible refine wpStill_step (fun K hK=> ?_));go_simp;(with_reducible refine hK _ ?_);clear hK K));(with_reducible apply wpStill_nil);(refine tC (P:=prog) ?_))
  all_goals
   go_wp2
   go_ret
   exact kC hr'.out hS2.out
section
attribute [local go_sem] Oper.semAt_some
theorem tE {l B B0:Nat} {w0:World} {xs:List It} {g:Nat→Bool} {J S:Nat→World→Prop} (hY:Yl l B xs g J S) (hown:OwnFrom B0 J) (hJK:∀ k W,J k W→Below B w0 W) (A1 A2 A3 A4 A5 A6 A7:Option Addr) (p:Pg) (c1 c2 c3 c4 c5 c6 c7:Nat) (hP:bu w0 B A1 A2 A3 A4 A5 A6 A7 p) (bp bo i j:Nat) (f:Sa) (hi:p.states[i]? =some f)
  (W:World) (hB0:B0≤W.heap.size) (hh:eZ A1 A2 A3 A4 A5 A6 A7 p c1 c2 c3 c4 c5 c6 c7 l bp bo W) (hx:∀ k:Nat,k<f.takes.length→xs[j+k]? =some ⟨5,(i:Int),(k:Int),de⟩)
  (hx2:xs[j+f.takes.length]? =some ⟨6,(i:Int),0,de⟩) (hx3:∀ k:Nat,k<f.cases_.length→xs[j+f.takes.length+1+k]? =some ⟨7,(i:Int),(k:Int),de⟩) (hJ:J j W):
  Calls prog 75 #[.int .i64 (i:Int),.pointer (some ⟨bp,0,none⟩),.pointer (some ⟨bo,0,none⟩)] W (eJ xs.length g J S W j (f.takes.length+(1+f.cases_.length))):=by
 have hPW:=hP.below (hJK _ _ hJ)
 have hil:=(Bp.1 hi).1
 have hiz:(i:Int)<(p.states.length:Int):=by omega
 have lst:=hPW.states.len
 obtain ⟨b,o,ecs,hA,hb,hel,hcell,B1,d1,B2,d2,B3,d3,rfl,hn,hd,hF,hG,hH⟩:=hPW.states.2 i f hi
 subst hA
 have lf:=hF.len
 have lg:=hG.len
 have lh:=hH.len
 obtain ⟨x0,x1,x2,x3,x4⟩:=cN hcell
 have hc:=au hh.prog
 have hcy:=au hh.yield
 obtain ⟨z0,z1,z2,z3,z4,z5,z6⟩:=aF (w:=W) (a:=bp) fun i=>hc i
 have y0:W.cell? ⟨bo,0,none⟩=some (.func (.yield l) #[] #[]):=hcy 0
 obtain ⟨W1,hW1⟩:∃ W1,W.alloc (.cells #[.string f.name,.slice B1 f.takes.length d1,.string f.dest,.slice B2 f.keys.length d2,.slice B3 f.cases_.length d3] 61)=W1:=⟨_,rfl⟩
 have hb1:Below W.heap.size W W1:=by rw [←hW1];exact (Bi _ _).alloc (Bm _) _
 have hbox:W1.heap[W.heap.size]? =some (.cells #[.string f.name,.slice B1 f.takes.length d1,.string f.dest,.slice B2 f.keys.length d2,.slice B3 f.cases_.length d3] 61):=by rw [←hW1];exact World.alloc_heap_new W _
 have hc1:=au hbox
 obtain ⟨v0,v1,v2,v3,v4⟩:=fR hc1
 have hh1:=hh.kp (Kp.of_below lv hb1)
 have y1:W1.cell? ⟨bo,0,none⟩=some (.func (.yield l) #[] #[]):=au hh1.yield 0
 have hW1s:W.heap.size<W1.heap.size:=(Bs.1 hbox).1
 have hk1:=aa (Kp.of_below lv hb1)
 have hM:=aa (d9 hY 5 (i:Int) f.takes.length j lf hx W1 (cY hown hJ hb1))
 have hM2:=aa (fun (W2:World) (h:J (j+f.takes.length+1) W2)=>d9 hY 7 (i:Int) f.cases_.length (j+f.takes.length+1) lh hx3 W2 h)
 have hY2:=aa (fun (W2:World) (h:J (j+f.takes.length) W2)=>hY _ _ _ W2 hx2 h (jK B 6 (i:Int) 0 W2))
 have hjl:=aa ((Bp.1 hx2).1)
 have hadd:=aa (cW g j f.takes.length (1+f.cases_.length))
 have hadd2:=aa (show bK g (j+f.takes.length) (1+f.cases_.length)=(g (j+f.takes.length)&&bK g (j+f.takes.length+1) f.cases_.length) from by rw [cW,jL])
 replace hbox:=aa hbox
 replace hh1:=aa hh1
 clear hcell hc hcy hJ hP hPW hF hG hH hh hi hx hx2 hx3 hJK hc1 hb1
 refine (callsIn_wide (n:=3)).1 (callsIn_of_wp_marks func75 rfl trivial ?_)
 simp only [ntmps75,List.size_toArray,By,BV,Nat.reduceAdd,Nat.reduceSub,Array.replicate_succ,Array.replicate_zero,List.push_toArray,List.append_toArray,BH,BC]
 gi_wp2
 refine ⟨trivial,?_⟩
 refine (callsIn_wide.2 hM.out).mono ?_
 rintro e W2 ⟨rfl,h1,h2⟩
 cases hr:bK g j f.takes.length with
 |false=>
  have hS2:=aa (h2 hr)
  replace hr:=aa hr
  clear h1 h2 hM2 hY2
  gi_wp2_with (refine ⟨(fun _ _=>trivial),?_⟩)
  all_goals exact ⟨_,results_tmp rfl _ _ _,kC hr.out hS2.out⟩
 |true=>
  obtain ⟨hJ2,hk2⟩:=h1 hr
  have hh2:=hh1.out.kp hk2
  have y2:W2.cell? ⟨bo,0,none⟩=some (.func (.yield l) #[] #[]):=au hh2.yield 0
  have hbox2:W2.heap[W.heap.size]? =some (.cells #[.string f.name,.slice B1 f.takes.length d1,.string f.dest,.slice B2 f.keys.length d2,.slice B3 f.cases_.length d3] 61):=hk2.same _ _ hbox.out (fun cs t fr e=>by cases e;rfl)
  have q4:W2.cell? ⟨W.heap.size,4,none⟩=some (.slice B3 f.cases_.length d3):=au hbox2 4
  have hz2:W.heap.size<W2.heap.size:=(Bs.1 hbox2).1
  obtain ⟨mm,fn,tmps,assign,body,hy,hR⟩:=hY2.out W2 hJ2
  have hkW2:=aa (hk1.out.trans hk2)
  replace hr:=aa hr
  replace hbox2:=aa hbox2
  replace hh2:=aa hh2
  clear h1 h2 hM hY2 hJ2 hk2
  gi_wp2
  refine (eC hR).mono ?_
  rintro e W3 ⟨rfl,h1,h2⟩
  cases hc:g (j+f.takes.length) with
  |false=>
   have hS3:=aa (h2 hc)
   have hrN:=aa (show bK g j (f.takes.length+(1+f.cases_.length))=false from by rw [hadd.out,hadd2.out,hc];simp)
   clear h1 h2 hc hM2
   gi_wp2_with (refine ⟨(fun _ _=>trivial),?_⟩)
   all_goals exact ⟨_,results_tmp rfl _ _ _,dK hrN.out ⟨_,hjl.out,hS3.out⟩⟩
  |true=>
   obtain ⟨hJ3,hk3⟩:=h1 hc
   have hh3:=hh2.out.kp hk3
   have y3:W3.cell? ⟨bo,0,none⟩=some (.func (.yield l) #[] #[]):=au hh3.yield 0
   have hbox3:W3.heap[W.heap.size]? =some (.cells #[.string f.name,.slice B1 f.takes.length d1,.string f.dest,.slice B2 f.keys.length d2,.slice B3 f.cases_.length d3] 61):=hk3.same _ _ hbox2.out (fun cs t fr e=>by cases e;rfl)
   have r4:W3.cell? ⟨W.heap.size,4,none⟩=some (.slice B3 f.cases_.length d3):=au hbox3 4
   have hz3:W.heap.size<W3.heap.size:=(Bs.1 hbox3).1
   have hkW3:=aa (hkW2.out.trans hk3)
   have hcall:=aa (hM2.out W3 hJ3)
   replace hc:=aa hc
   clear h1 h2 hM2 hJ3 hk3 hbox3 hh3
   gi_wp2_with fail
   refine ⟨trivial,?_⟩
   refine (callsIn_wide.2 hcall.out).mono ?_
   rintro e W4 ⟨rfl,h1,h2⟩
   cases hd:bK g (j+f.takes.length+1) f.cases_.length with
   |false=>
    have hS4:=aa (h2 hd)
    have hrN:=aa (show bK g j (f.takes.length+(1+f.cases_.length))=false from by rw [hadd.out,hadd2.out,hd];simp)
    clear h1 h2 hd
    gi_wp2
    exact ⟨_,results_tmp rfl _ _ _,dK hrN.out hS4.out⟩
   |true=>
    obtain ⟨hJ4,hk4⟩:=h1 hd
    have hrN:=aa (show bK g j (f.takes.length+(1+f.cases_.length))=true from by rw [hadd.out,hadd2.out,hr.out,hc.out,hd];rfl)
    have hJN:=aa (show J (j+(f.takes.length+(1+f.cases_.length))) W4 from by rw [show j+(f.takes.length+(1+f.cases_.length))=j+f.takes.length+1+f.cases_.length by omega];exact hJ4)
    have hkN:=aa (hkW3.out.trans hk4)
    clear h1 h2 hd hJ4 hk4
    gi_wp2
    exact ⟨_,results_tmp rfl _ _ _,fK hrN.out hJN.out hkN.out⟩
theorem tF {l B B0:Nat} {w0:World} {xs:List It} {g:Nat→Bool} {J S:Nat→World→Prop} (hY:Yl l B xs g J S) (hown:OwnFrom B0 J) (hJK:∀ k W,J k W→Below B w0 W) (A1 A2 A3 A4 A5 A6 A7:Option Addr) (p:Pg) (c1 c2 c3 c4 c5 c6 c7:Nat) (hP:bu w0 B A1 A2 A3 A4 A5 A6 A7 p) (bp bo i j:Nat) (f:Ta) (hi:p.tables[i]? =some f)
  (W:World) (hB0:B0≤W.heap.size) (hh:eZ A1 A2 A3 A4 A5 A6 A7 p c1 c2 c3 c4 c5 c6 c7 l bp bo W) (hx:∀ k:Nat,k<f.keys.length→xs[j+k]? =some ⟨12,(i:Int),(k:Int),de⟩)
  (hx3:∀ k:Nat,k<f.actions.length→xs[j+f.keys.length+k]? =some ⟨13,(i:Int),(k:Int),de⟩) (hx2:xs[j+f.keys.length+f.actions.length]? =some ⟨14,(i:Int),0,de⟩) (hJ:J j W):
  Calls prog 78 #[.int .i64 (i:Int),.pointer (some ⟨bp,0,none⟩),.pointer (some ⟨bo,0,none⟩)] W (eJ xs.length g J S W j (f.keys.length+(f.actions.length+1))):=by
 have hPW:=hP.below (hJK _ _ hJ)
 have hil:=(Bp.1 hi).1
 have hiz:(i:Int)<(p.tables.length:Int):=by omega
 have lst:=hPW.tables.len
 obtain ⟨b,o,ecs,hA,hb,hel,hcell,B1,d1,B2,d2,B3,d3,rfl,hn,hd,hF,hG,hH⟩:=hPW.tables.2 i f hi
 subst hA
 have lf:=hF.len
 have lg:=hG.len
 have lh:=hH.len
 obtain ⟨x0,x1,x2,x3,x4⟩:=cN hcell
 have hc:=au hh.prog
 have hcy:=au hh.yield
 obtain ⟨z0,z1,z2,z3,z4,z5,z6⟩:=aF (w:=W) (a:=bp) fun i=>hc i
 have y0:W.cell? ⟨bo,0,none⟩=some (.func (.yield l) #[] #[]):=hcy 0
 obtain ⟨W1,hW1⟩:∃ W1,W.alloc (.cells #[.string f.name,.slice B1 f.keys.length d1,.slice B2 f.actions.length d2,.string f.dname,.slice B3 f.dargs.length d3] 58)=W1:=⟨_,rfl⟩
 have hb1:Below W.heap.size W W1:=by rw [←hW1];exact (Bi _ _).alloc (Bm _) _
 have hbox:W1.heap[W.heap.size]? =some (.cells #[.string f.name,.slice B1 f.keys.length d1,.slice B2 f.actions.length d2,.string f.dname,.slice B3 f.dargs.length d3] 58):=by rw [←hW1];exact World.alloc_heap_new W _
 have hc1:=au hbox
 obtain ⟨v0,v1,v2,v3,v4⟩:=fR hc1
 have hh1:=hh.kp (Kp.of_below lv hb1)
 have y1:W1.cell? ⟨bo,0,none⟩=some (.func (.yield l) #[] #[]):=au hh1.yield 0
 have hW1s:W.heap.size<W1.heap.size:=(Bs.1 hbox).1
 have hk1:=aa (Kp.of_below lv hb1)
 have hM:=aa (d9 hY 12 (i:Int) f.keys.length j lf hx W1 (cY hown hJ hb1))
 have hM2:=aa (fun (W2:World) (h:J (j+f.keys.length) W2)=>d9 hY 13 (i:Int) f.actions.length (j+f.keys.length) lg hx3 W2 h)
 have hY2:=aa (fun (W2:World) (h:J (j+f.keys.length+f.actions.length) W2)=>hY _ _ _ W2 hx2 h (jK B 14 (i:Int) 0 W2))
 have hjl:=aa ((Bp.1 hx2).1)
 have hadd:=aa (cW g j f.keys.length (f.actions.length+1))
 have hadd2:=aa (oR g (j+f.keys.length) f.actions.length)
 replace hbox:=aa hbox
 replace hh1:=aa hh1
 clear hcell hc hcy hJ hP hPW hF hG hH hh hi hx hx2 hx3 hJK hc1 hb1
 refine (callsIn_wide (n:=3)).1 (callsIn_of_wp_marks func78 rfl trivial ?_)
 simp only [ntmps78,List.size_toArray,By,BV,Nat.reduceAdd,Nat.reduceSub,Array.replicate_succ,Array.replicate_zero,List.push_toArray,List.append_toArray,BH,BC]
 gi_wp2
 refine ⟨trivial,?_⟩
 refine (callsIn_wide.2 hM.out).mono ?_
 rintro e W2 ⟨rfl,h1,h2⟩
 cases hr:bK g j f.keys.length with
 |false=>
  have hS2:=aa (h2 hr)
  replace hr:=aa hr
  clear h1 h2 hM2 hY2
  gi_wp2_with (refine ⟨(fun _ _=>trivial),?_⟩)
  all_goals exact ⟨_,results_tmp rfl _ _ _,kC hr.out hS2.out⟩
 |true=>
  obtain ⟨hJ2,hk2⟩:=h1 hr
  have hh2:=hh1.out.kp hk2
  have y2:W2.cell? ⟨bo,0,none⟩=some (.func (.yield l) #[] #[]):=au hh2.yield 0
  have hbox2:W2.heap[W.heap.size]? =some (.cells #[.string f.name,.slice B1 f.keys.length d1,.slice B2 f.actions.length d2,.string f.dname,.slice B3 f.dargs.length d3] 58):=hk2.same _ _ hbox.out (fun cs t fr e=>by cases e;rfl)
  have q2:W2.cell? ⟨W.heap.size,2,none⟩=some (.slice B2 f.actions.length d2):=au hbox2 2
  have hz2:W.heap.size<W2.heap.size:=(Bs.1 hbox2).1
  have hkW2:=aa (hk1.out.trans hk2)
  have hcall:=aa (hM2.out W2 hJ2)
  replace hr:=aa hr
  replace hh2:=aa hh2
  clear h1 h2 hM hJ2 hk2 hbox2
  gi_wp2_with fail
  refine ⟨trivial,?_⟩
  refine (callsIn_wide.2 hcall.out).mono ?_
  rintro e W3 ⟨rfl,h1,h2⟩
  cases hc:bK g (j+f.keys.length) f.actions.length with
  |false=>
   have hS3:=aa (h2 hc)
   have hrN:=aa (show bK g j (f.keys.length+(f.actions.length+1))=false from by rw [hadd.out,hadd2.out,hc];simp)
   clear h1 h2 hc hM2 hY2
   gi_wp2_with (refine ⟨(fun _ _=>trivial),?_⟩)
   all_goals exact ⟨_,results_tmp rfl _ _ _,dK hrN.out hS3.out⟩
  |true=>
   obtain ⟨hJ3,hk3⟩:=h1 hc
   have hh3:=hh2.out.kp hk3
   have y3:W3.cell? ⟨bo,0,none⟩=some (.func (.yield l) #[] #[]):=au hh3.yield 0
   obtain ⟨mm,fn,tmps,assign,body,hy,hR⟩:=hY2.out W3 hJ3
   have hkW3:=aa (hkW2.out.trans hk3)
   replace hc:=aa hc
   clear h1 h2 hM2 hY2 hJ3 hk3 hh3
   gi_wp2
   refine (eC hR).mono ?_
   rintro e W4 ⟨rfl,h1,h2⟩
   cases hd:g (j+f.keys.length+f.actions.length) with
   |false=>
    have hS4:=aa (h2 hd)
    have hrN:=aa (show bK g j (f.keys.length+(f.actions.length+1))=false from by rw [hadd.out,hadd2.out,hd];simp)
    clear h1 h2 hd
    gi_wp2
    exact ⟨_,results_tmp rfl _ _ _,dK hrN.out ⟨_,hjl.out,hS4.out⟩⟩
   |true=>
    obtain ⟨hJ4,hk4⟩:=h1 hd
    have hrN:=aa (show bK g j (f.keys.length+(f.actions.length+1))=true from by rw [hadd.out,hadd2.out,hr.out,hc.out,hd];rfl)
    have hJN:=aa (show J (j+(f.keys.length+(f.actions.length+1))) W4 from by rw [show j+(f.keys.length+(f.actions.length+1))=j+f.keys.length+f.actions.length+1 by omega];exact hJ4)
    have hkN:=aa (hkW3.out.trans hk4)
    clear h1 h2 hd hJ4 hk4
    gi_wp2
    exact ⟨_,results_tmp rfl _ _ _,fK hrN.out hJN.out hkN.out⟩
end
section
def lO (len:Nat→Nat):Nat→Nat
 |0=>0
 |i+1=>lO len i+(1+len i)
section
variable {α:Type} {kind:Int} {l:List α} {g:Nat→α→List It} {f:α→Nat}
theorem rN (i:Nat) (hi:i<l.length):l.zipIdx.take (i+1)=l.zipIdx.take i++ [(l[i],i)]:=by
 rw [BO (by simpa using hi)]
 simp
theorem pV (hg:∀ i a,(g i a).length=f a):∀ i,i≤l.length→((l.zipIdx.take i).flatMap fun x=>(⟨kind,(x.2:Int),0,de⟩:It)::g x.2 x.1).length=lO (fun i=>(l[i]?).elim 0 f) i
 |0,_=>by simp [lO]
 |i+1,hi=>by
  have ih:=pV hg i (by omega)
  rw [rN i (by omega),List.flatMap_append,Bq,ih]
  simp [lO,Bk (show i<l.length by omega),hg]
  omega
theorem rO (hg:∀ i a,(g i a).length=f a):(aX kind l g).length=lO (fun i=>(l[i]?).elim 0 f) l.length:=by
 have:=pV (l:=l) (kind:=kind) hg l.length (Bm _)
 rw [BB (by simp)] at this
 exact this
theorem zA (hg:∀ i a,(g i a).length=f a) (i:Nat) (hi:i<l.length) (m:Nat) (hm:m<1+f l[i]):
  (aX kind l g)[lO (fun i=>(l[i]?).elim 0 f) i+m]? =((⟨kind,(i:Int),0,de⟩:It)::g i l[i])[m]? :=by
 have h1:=pV (l:=l) (kind:=kind) hg i (by omega)
 have e:aX kind l g=(l.zipIdx.take i).flatMap (fun x=>(⟨kind,(x.2:Int),0,de⟩:It)::g x.2 x.1)++(((⟨kind,(i:Int),0,de⟩:It)::g i l[i])++(l.zipIdx.drop (i+1)).flatMap fun x=>(⟨kind,(x.2:Int),0,de⟩:It)::g x.2 x.1):=by
  unfold aX
  have h2:=rN (l:=l) i hi
  conv=>lhs;rw [←List.take_append_drop (i+1) l.zipIdx,h2]
  simp
 rw [e,←h1,BN (Nat.le_add_right _ _),B7,BU (by simp [hg];omega)]
end
theorem AY {A M C:List It} (m:Nat) (hm:m<M.length):(A++(M++C))[A.length+m]? =M[m]? :=by
 rw [BN (Nat.le_add_right _ _),B7,BU hm]
theorem fN {kind:Int} {a n k:Nat} (hk:k<n):(aR kind a n)[k]? =some ⟨kind,(a:Int),(k:Int),de⟩:=by
 simp [aR,hk]
theorem eM {α:Type} {kind:Int} {L:List α} {gi:Nat→α→List It} {f:α→Nat} (hg:∀ i a,(gi i a).length=f a) {A C xs:List It} (hxs:xs=A++(aX kind L gi++C))
  {l B:Nat} {g:Nat→Bool} {J S:Nat→World→Prop} (hY:Yl l B xs g J S) (hn:L.length≤9223372036854775807) (fid:Nat) (lb:Array Value)
  (eg:∀ args w,(callFunc fid args).run prog w=.ok (.enter fid args) w) (W:World)
  (hin:∀ (i:Nat) (a:α) (j:Nat) (W1:World),L[i]? =some a→(∀ k,k<f a→xs[j+k]? =(gi i a)[k]?)→J j W1→Kp lv W W1→Calls prog fid (#[.int .i64 (i:Int)]++lb) W1 (eJ xs.length g J S W1 j (f a))) (hJ:J A.length W):
  Calls prog 72 #[.int .u8 kind,.int .i64 (L.length:Int),.func (.yield l) #[] #[],.func (.func fid) #[] lb] W (eJ xs.length g J S W A.length (aX kind L gi).length):=by
 rw [rO hg]
 have htot:∀ i k,lO (fun i=>(L[i]?).elim 0 f) i≤lO (fun i=>(L[i]?).elim 0 f) (i+k):=fun i k=>by
  induction k with
  |zero=>exact Bm _
  |succ k ih=>rw [←Nat.add_assoc,lO];omega
 have hle:∀ i (hi:i<L.length),lO (fun i=>(L[i]?).elim 0 f) i+(1+f L[i])≤(aX kind L gi).length:=fun i hi=>by
  have h1:=htot (i+1) (L.length-(i+1))
  rw [show i+1+(L.length-(i+1))=L.length by omega] at h1
  rw [rO hg]
  refine Bj (Br ?_) h1
  rw [lO,Bk hi];rfl
 have hat:∀ i (hi:i<L.length) (m:Nat),m<1+f L[i]→xs[A.length+(lO (fun i=>(L[i]?).elim 0 f) i+m)]? =((⟨kind,(i:Int),0,de⟩:It)::gi i L[i])[m]? :=fun i hi m hm=>by
  rw [hxs,AY _ (by have:=hle i hi;omega),zA hg i hi m hm]
 refine tq hY kind L.length hn A.length _ (fun i=>(L[i]?).elim 0 f) rfl (fun i=>rfl) fid lb eg W (fun i hi=> ?_) (fun i hi W1 hJ1 hk1=> ?_) hJ
 ·have:=hat i hi 0 (by omega)
  simpa using this
 ·have hf:(L[i]?).elim 0 f=f L[i]:=by rw [Bk hi];rfl
  show Calls _ _ _ _ (eJ _ _ _ _ _ _ ((L[i]?).elim 0 f))
  rw [hf]
  refine hin i L[i] _ W1 (Bk hi) (fun k hk=> ?_) hJ1 hk1
  have:=hat i hi (k+1) (by omega)
  rw [BP] at this
  rw [←this];congr 1;omega
end
theorem tG {l B B0:Nat} {w0:World} {g:Nat→Bool} {J S:Nat→World→Prop} (A1 A2 A3 A4 A5 A6 A7:Option Addr) (p:Pg) (c1 c2 c3 c4 c5 c6 c7:Nat) (hY:Yl l B (ao p) g J S) (hown:OwnFrom B0 J) (hJK:∀ k W,J k W→Below B w0 W) (hBB:B≤B0) (hP:bu w0 B A1 A2 A3 A4 A5 A6 A7 p) (bp bo:Nat)
  (W:World) (hB0:B0≤W.heap.size) (hh:eZ A1 A2 A3 A4 A5 A6 A7 p c1 c2 c3 c4 c5 c6 c7 l bp bo W) (hJ:J ([]:List It).length W):
  Calls prog 72 #[.int .u8 1,.int .i64 (p.headers.length:Int),.func (.yield l) #[] #[],.func (.func 73) #[] #[.pointer (some ⟨bp,0,none⟩),.pointer (some ⟨bo,0,none⟩)]] W (eJ (ao p).length g J S W ([]:List It).length (aC p).length):=by
 have hxs:ao p=([]:List It)++(aC p++(aG p++(aE p++(bD p++(bW p++(am (-1) p.control++(cP p))))))):=by simp [ao]
 refine eM (f:=fun h:Hd=>h.fields.length) (by intro i a;exact aj) hxs hY hP.headers.len 73 #[.pointer (some ⟨bp,0,none⟩),.pointer (some ⟨bo,0,none⟩)] rI W ?_ hJ
 intro i a j W1 ha hx hJ1 hk1
 exact rM hY hown hJK A1 A2 A3 A4 A5 A6 A7 p c1 c2 c3 c4 c5 c6 c7 hP bp bo i j a ha W1 (by have:=hk1.size;omega) (hh.kp hk1) (fun k hk=>by rw [hx k hk];exact fN hk) hJ1
theorem tH {l B B0:Nat} {w0:World} {g:Nat→Bool} {J S:Nat→World→Prop} (A1 A2 A3 A4 A5 A6 A7:Option Addr) (p:Pg) (c1 c2 c3 c4 c5 c6 c7:Nat) (hY:Yl l B (ao p) g J S) (hown:OwnFrom B0 J) (hJK:∀ k W,J k W→Below B w0 W) (hBB:B≤B0) (hP:bu w0 B A1 A2 A3 A4 A5 A6 A7 p) (bp bo:Nat)
  (W:World) (hB0:B0≤W.heap.size) (hh:eZ A1 A2 A3 A4 A5 A6 A7 p c1 c2 c3 c4 c5 c6 c7 l bp bo W) (hJ:J (aC p).length W):
  Calls prog 72 #[.int .u8 3,.int .i64 (p.metas.length:Int),.func (.yield l) #[] #[],.func (.func 71) #[] #[]] W (eJ (ao p).length g J S W (aC p).length (aG p).length):=by
 have hxs:ao p=(aC p)++(aG p++(aE p++(bD p++(bW p++(am (-1) p.control++(cP p)))))):=by simp [ao]
 refine eM (f:=fun _:Fd=>0) (by intro i a;rfl) hxs hY hP.metas.len 71 #[] lB W ?_ hJ
 intro i a j W1 ha hx hJ1 hk1
 exact nc (i:Int) W1 hJ1
theorem rP {l B B0:Nat} {w0:World} {g:Nat→Bool} {J S:Nat→World→Prop} (A1 A2 A3 A4 A5 A6 A7:Option Addr) (p:Pg) (c1 c2 c3 c4 c5 c6 c7:Nat) (hY:Yl l B (ao p) g J S) (hown:OwnFrom B0 J) (hJK:∀ k W,J k W→Below B w0 W) (hBB:B≤B0) (hP:bu w0 B A1 A2 A3 A4 A5 A6 A7 p) (bp bo:Nat)
  (W:World) (hB0:B0≤W.heap.size) (hh:eZ A1 A2 A3 A4 A5 A6 A7 p c1 c2 c3 c4 c5 c6 c7 l bp bo W) (hJ:J (aC p++aG p).length W):
  Calls prog 72 #[.int .u8 4,.int .i64 (p.states.length:Int),.func (.yield l) #[] #[],.func (.func 75) #[] #[.pointer (some ⟨bp,0,none⟩),.pointer (some ⟨bo,0,none⟩)]] W (eJ (ao p).length g J S W (aC p++aG p).length (aE p).length):=by
 have hxs:ao p=(aC p++aG p)++(aE p++(bD p++(bW p++(am (-1) p.control++(cP p))))):=by simp [ao]
 refine eM (f:=fun s:Sa=>s.takes.length+(1+s.cases_.length)) (by intro i a;simp [aj];omega) hxs hY hP.states.len 75 #[.pointer (some ⟨bp,0,none⟩),.pointer (some ⟨bo,0,none⟩)] rJ W ?_ hJ
 intro i a j W1 ha hx hJ1 hk1
 have hx1:∀ k:Nat,k<a.takes.length→(ao p)[j+k]? =some ⟨5,(i:Int),(k:Int),de⟩:=fun k hk=>by
  rw [hx k (by omega),BU (by rw [aj];exact hk)];exact fN hk
 have hx2:(ao p)[j+a.takes.length]? =some ⟨6,(i:Int),0,de⟩:=by
  rw [hx _ (by omega),BN (by rw [aj];omega),aj,Nat.sub_self];rfl
 have hx3:∀ k:Nat,k<a.cases_.length→(ao p)[j+a.takes.length+1+k]? =some ⟨7,(i:Int),(k:Int),de⟩:=fun k hk=>by
  rw [show j+a.takes.length+1+k=j+(a.takes.length+(k+1)) by omega,hx _ (by omega),BN (by rw [aj];omega),aj,B7,BP];exact fN hk
 exact tE hY hown hJK A1 A2 A3 A4 A5 A6 A7 p c1 c2 c3 c4 c5 c6 c7 hP bp bo i j a ha W1 (by have:=hk1.size;omega) (hh.kp hk1) hx1 hx2 hx3 hJ1
theorem vY {l B B0:Nat} {w0:World} {g:Nat→Bool} {J S:Nat→World→Prop} (A1 A2 A3 A4 A5 A6 A7:Option Addr) (p:Pg) (c1 c2 c3 c4 c5 c6 c7:Nat) (hY:Yl l B (ao p) g J S) (hown:OwnFrom B0 J) (hJK:∀ k W,J k W→Below B w0 W) (hBB:B≤B0) (hP:bu w0 B A1 A2 A3 A4 A5 A6 A7 p) (bp bo:Nat)
  (W:World) (hB0:B0≤W.heap.size) (hh:eZ A1 A2 A3 A4 A5 A6 A7 p c1 c2 c3 c4 c5 c6 c7 l bp bo W) (hJ:J (aC p++aG p++aE p).length W):
  Calls prog 72 #[.int .u8 8,.int .i64 (p.actions.length:Int),.func (.yield l) #[] #[],.func (.func 76) #[] #[.pointer (some ⟨bp,0,none⟩),.pointer (some ⟨bo,0,none⟩)]] W (eJ (ao p).length g J S W (aC p++aG p++aE p).length (bD p).length):=by
 have hxs:ao p=(aC p++aG p++aE p)++(bD p++(bW p++(am (-1) p.control++(cP p)))):=by simp [ao]
 refine eM (f:=fun s:Ac=>s.params.length+bE s.body) (by intro i a;simp [aj,dh]) hxs hY hP.actions.len 76 #[.pointer (some ⟨bp,0,none⟩),.pointer (some ⟨bo,0,none⟩)] rK W ?_ hJ
 intro i a j W1 ha hx hJ1 hk1
 have hx1:∀ k:Nat,k<a.params.length→(ao p)[j+k]? =some ⟨9,(i:Int),(k:Int),de⟩:=fun k hk=>by
  rw [hx k (by omega),BU (by rw [aj];exact hk)];exact fN hk
 have hx2:∀ (k:Nat) (x:It),(am (i:Int) a.body)[k]? =some x→(ao p)[j+a.params.length+k]? =some x:=fun k x hx2=>by
  have hk:=(Bp.1 hx2).1
  rw [dh] at hk
  rw [show j+a.params.length+k=j+(a.params.length+k) by omega,hx _ (by omega),BN (by rw [aj];omega),aj,B7];exact hx2
 rw [←dh (i:Int) a.body]
 exact tD hY hown hJK hBB A1 A2 A3 A4 A5 A6 A7 p c1 c2 c3 c4 c5 c6 c7 hP bp bo i j a ha W1 (by have:=hk1.size;omega) (hh.kp hk1) hx1 hx2 hJ1
theorem vZ {l B B0:Nat} {w0:World} {g:Nat→Bool} {J S:Nat→World→Prop} (A1 A2 A3 A4 A5 A6 A7:Option Addr) (p:Pg) (c1 c2 c3 c4 c5 c6 c7:Nat) (hY:Yl l B (ao p) g J S) (hown:OwnFrom B0 J) (hJK:∀ k W,J k W→Below B w0 W) (hBB:B≤B0) (hP:bu w0 B A1 A2 A3 A4 A5 A6 A7 p) (bp bo:Nat)
  (W:World) (hB0:B0≤W.heap.size) (hh:eZ A1 A2 A3 A4 A5 A6 A7 p c1 c2 c3 c4 c5 c6 c7 l bp bo W) (hJ:J (aC p++aG p++aE p++bD p).length W):
  Calls prog 72 #[.int .u8 11,.int .i64 (p.tables.length:Int),.func (.yield l) #[] #[],.func (.func 78) #[] #[.pointer (some ⟨bp,0,none⟩),.pointer (some ⟨bo,0,none⟩)]] W (eJ (ao p).length g J S W (aC p++aG p++aE p++bD p).length (bW p).length):=by
 have hxs:ao p=(aC p++aG p++aE p++bD p)++(bW p++(am (-1) p.control++(cP p))):=by simp [ao]
 refine eM (f:=fun s:Ta=>s.keys.length+(s.actions.length+1)) (by intro i a;simp [aj]) hxs hY hP.tables.len 78 #[.pointer (some ⟨bp,0,none⟩),.pointer (some ⟨bo,0,none⟩)] rL W ?_ hJ
 intro i a j W1 ha hx hJ1 hk1
 have hx1:∀ k:Nat,k<a.keys.length→(ao p)[j+k]? =some ⟨12,(i:Int),(k:Int),de⟩:=fun k hk=>by
  rw [hx k (by omega),BU (by rw [aj];exact hk)];exact fN hk
 have hx3:∀ k:Nat,k<a.actions.length→(ao p)[j+a.keys.length+k]? =some ⟨13,(i:Int),(k:Int),de⟩:=fun k hk=>by
  rw [show j+a.keys.length+k=j+(a.keys.length+k) by omega,hx _ (by omega),BN (by rw [aj];omega),aj,B7,BU (by rw [aj];exact hk)];exact fN hk
 have hx2:(ao p)[j+a.keys.length+a.actions.length]? =some ⟨14,(i:Int),0,de⟩:=by
  rw [show j+a.keys.length+a.actions.length=j+(a.keys.length+a.actions.length) by omega,hx _ (by omega),BN (by rw [aj];omega),aj,B7,BN (by rw [aj];omega),aj,Nat.sub_self];rfl
 exact tF hY hown hJK A1 A2 A3 A4 A5 A6 A7 p c1 c2 c3 c4 c5 c6 c7 hP bp bo i j a ha W1 (by have:=hk1.size;omega) (hh.kp hk1) hx1 hx3 hx2 hJ1
theorem wg {l B B0:Nat} {w0:World} {g:Nat→Bool} {J S:Nat→World→Prop} (A1 A2 A3 A4 A5 A6 A7:Option Addr) (p:Pg) (c1 c2 c3 c4 c5 c6 c7:Nat) (hY:Yl l B (ao p) g J S) (hown:OwnFrom B0 J) (hJK:∀ k W,J k W→Below B w0 W) (hBB:B≤B0) (hP:bu w0 B A1 A2 A3 A4 A5 A6 A7 p) (bp bo:Nat)
  (W:World) (hB0:B0≤W.heap.size) (hh:eZ A1 A2 A3 A4 A5 A6 A7 p c1 c2 c3 c4 c5 c6 c7 l bp bo W) (A:Option Addr) (hS:Sl 14 dR w0 B A p.control) (cap:Nat) (hJ:J (aC p++aG p++aE p++bD p++bW p).length W):
  Calls prog 77 #[.int .i64 (-1),.slice A p.control.length cap,.func (.yield l) #[] #[]] W (eJ (ao p).length g J S W (aC p++aG p++aE p++bD p++bW p).length (am (-1) p.control).length):=by
 have hxs:ao p=(aC p++aG p++aE p++bD p++bW p)++(am (-1) p.control++(cP p)):=by simp [ao]
 exact lA hY hown hJK hBB p.control (-1) A cap W _ hS hB0 (fun k x hx=>by rw [hxs,AY _ (Bp.1 hx).1];exact hx) hJ
theorem tI {l B B0:Nat} {w0:World} {g:Nat→Bool} {J S:Nat→World→Prop} (A1 A2 A3 A4 A5 A6 A7:Option Addr) (p:Pg) (c1 c2 c3 c4 c5 c6 c7:Nat) (hY:Yl l B (ao p) g J S) (hown:OwnFrom B0 J) (hJK:∀ k W,J k W→Below B w0 W) (hBB:B≤B0) (hP:bu w0 B A1 A2 A3 A4 A5 A6 A7 p) (bp bo:Nat)
  (W:World) (hB0:B0≤W.heap.size) (hh:eZ A1 A2 A3 A4 A5 A6 A7 p c1 c2 c3 c4 c5 c6 c7 l bp bo W) (hJ:J (aC p++aG p++aE p++bD p++bW p++am (-1) p.control).length W):
  Calls prog 72 #[.int .u8 15,.int .i64 (p.emit.length:Int),.func (.yield l) #[] #[],.func (.func 71) #[] #[]] W (eJ (ao p).length g J S W (aC p++aG p++aE p++bD p++bW p++am (-1) p.control).length (cP p).length):=by
 have hxs:ao p=(aC p++aG p++aE p++bD p++bW p++am (-1) p.control)++(cP p++ []):=by simp [ao]
 refine eM (f:=fun _:ByteArray=>0) (by intro i a;rfl) hxs hY hP.emit.len 71 #[] lB W ?_ hJ
 intro i a j W1 ha hx hJ1 hk1
 exact nc (i:Int) W1 hJ1
theorem um (A1 A2 A3 A4 A5 A6 A7:Option Addr) (p:Pg) (c1 c2 c3 c4 c5 c6 c7:Nat) (w:World):Calls prog 31 #[.agg (aq p A1 A2 A3 A4 A5 A6 A7 c1 c2 c3 c4 c5 c6 c7)] w fun e w'=>e=.returned (.func (.func 70) #[] #[.pointer (some ⟨w.heap.size,0,none⟩)])∧w'=w.alloc (.cells (aq p A1 A2 A3 A4 A5 A6 A7 c1 c2 c3 c4 c5 c6 c7) 30):=by
 unfold aq
 go_enter func31,ntmps31
 go_wp2
 go_ret
 exact ⟨rfl,rfl⟩
theorem lC:∀ args w,(callFunc 70 args).run prog w=.ok (.enter 70 args) w:=enters_of func70 (by kernel_rfl) rfl
def AR (n:Nat) (J S:Nat→World→Prop) (W:World) (e:Ending) (W':World):Prop:=(∃ v,e=.returned v)∧((J n W'∧Kp lv W W')∨∃ k,k<n∧S k W')
theorem wh {l B B0:Nat} {w0:World} {g:Nat→Bool} {J S:Nat→World→Prop} (A1 A2 A3 A4 A5 A6 A7:Option Addr) (p:Pg) (c1 c2 c3 c4 c5 c6 c7:Nat) (hY:Yl l B (ao p) g J S) (hown:OwnFrom B0 J) (hJK:∀ k W,J k W→Below B w0 W) (hBB:B≤B0) (hP:bu w0 B A1 A2 A3 A4 A5 A6 A7 p) (bp:Nat)
  (W:World) (hB0:B0≤W.heap.size) (hbp:W.heap[bp]? =some (.cells (aq p A1 A2 A3 A4 A5 A6 A7 c1 c2 c3 c4 c5 c6 c7) 30)) (hJ:J 0 W):
  Calls prog 70 #[.func (.yield l) #[] #[],.pointer (some ⟨bp,0,none⟩)] W (AR (ao p).length J S W):=by
 obtain ⟨W1,hW1⟩:∃ W1,W.alloc (.cells #[.func (.yield l) #[] #[]] 131)=W1:=⟨_,rfl⟩
 have hb1:Below W.heap.size W W1:=by rw [←hW1];exact (Bi _ _).alloc (Bm _) _
 have hh1:eZ A1 A2 A3 A4 A5 A6 A7 p c1 c2 c3 c4 c5 c6 c7 l bp W.heap.size W1:=⟨(hb1.block bp (Bs.1 hbp).1).trans hbp,by rw [←hW1];exact World.alloc_heap_new W _⟩
 have l1:=hP.headers.len
 have l2:=hP.metas.len
 have l3:=hP.states.len
 have l4:=hP.actions.len
 have l5:=hP.tables.len
 have l6:=hP.control.len
 have l7:=hP.emit.len
 have hJ1:J 0 W1:=cY hown hJ hb1
 have hk1:=aa (Kp.of_below lv hb1)
 have hz1:W.heap.size<W1.heap.size:=(Bs.1 hh1.yield).1
 have hbpl:bp<W1.heap.size:=(Bs.1 hh1.prog).1
 have hC1:=aa (fun (W2:World) (h0:B0≤W2.heap.size) (hh:eZ A1 A2 A3 A4 A5 A6 A7 p c1 c2 c3 c4 c5 c6 c7 l bp W.heap.size W2) (h:J ([]:List It).length W2)=>tG A1 A2 A3 A4 A5 A6 A7 p c1 c2 c3 c4 c5 c6 c7 hY hown hJK hBB hP bp W.heap.size W2 h0 hh h)
 have hC2:=aa (fun (W2:World) (h0:B0≤W2.heap.size) (hh:eZ A1 A2 A3 A4 A5 A6 A7 p c1 c2 c3 c4 c5 c6 c7 l bp W.heap.size W2) (h:J (aC p).length W2)=>tH A1 A2 A3 A4 A5 A6 A7 p c1 c2 c3 c4 c5 c6 c7 hY hown hJK hBB hP bp W.heap.size W2 h0 hh h)
 have hC3:=aa (fun (W2:World) (h0:B0≤W2.heap.size) (hh:eZ A1 A2 A3 A4 A5 A6 A7 p c1 c2 c3 c4 c5 c6 c7 l bp W.heap.size W2) (h:J (aC p++aG p).length W2)=>rP A1 A2 A3 A4 A5 A6 A7 p c1 c2 c3 c4 c5 c6 c7 hY hown hJK hBB hP bp W.heap.size W2 h0 hh h)
 have hC4:=aa (fun (W2:World) (h0:B0≤W2.heap.size) (hh:eZ A1 A2 A3 A4 A5 A6 A7 p c1 c2 c3 c4 c5 c6 c7 l bp W.heap.size W2) (h:J (aC p++aG p++aE p).length W2)=>vY A1 A2 A3 A4 A5 A6 A7 p c1 c2 c3 c4 c5 c6 c7 hY hown hJK hBB hP bp W.heap.size W2 h0 hh h)
 have hC5:=aa (fun (W2:World) (h0:B0≤W2.heap.size) (hh:eZ A1 A2 A3 A4 A5 A6 A7 p c1 c2 c3 c4 c5 c6 c7 l bp W.heap.size W2) (h:J (aC p++aG p++aE p++bD p).length W2)=>vZ A1 A2 A3 A4 A5 A6 A7 p c1 c2 c3 c4 c5 c6 c7 hY hown hJK hBB hP bp W.heap.size W2 h0 hh h)
 have hC6:=aa (fun (W2:World) (h0:B0≤W2.heap.size) (hh:eZ A1 A2 A3 A4 A5 A6 A7 p c1 c2 c3 c4 c5 c6 c7 l bp W.heap.size W2) (h:J (aC p++aG p++aE p++bD p++bW p).length W2)=>wg A1 A2 A3 A4 A5 A6 A7 p c1 c2 c3 c4 c5 c6 c7 hY hown hJK hBB hP bp W.heap.size W2 h0 hh A6 hP.control c6 h)
 have hC7:=aa (fun (W2:World) (h0:B0≤W2.heap.size) (hh:eZ A1 A2 A3 A4 A5 A6 A7 p c1 c2 c3 c4 c5 c6 c7 l bp W.heap.size W2) (h:J (aC p++aG p++aE p++bD p++bW p++am (-1) p.control).length W2)=>tI A1 A2 A3 A4 A5 A6 A7 p c1 c2 c3 c4 c5 c6 c7 hY hown hJK hBB hP bp W.heap.size W2 h0 hh h)
 have ho1:=aa (show ([]:List It).length+(aC p).length=(aC p).length from by simp [Bq])
 have ho2:=aa (show (aC p).length+(aG p).length=(aC p++aG p).length from by simp [Bq])
 have ho3:=aa (show (aC p++aG p).length+(aE p).length=(aC p++aG p++aE p).length from by simp [Bq];omega)
 have ho4:=aa (show (aC p++aG p++aE p).length+(bD p).length=(aC p++aG p++aE p++bD p).length from by simp [Bq];omega)
 have ho5:=aa (show (aC p++aG p++aE p++bD p).length+(bW p).length=(aC p++aG p++aE p++bD p++bW p).length from by simp [Bq];omega)
 have ho6:=aa (show (aC p++aG p++aE p++bD p++bW p).length+(am (-1) p.control).length=(aC p++aG p++aE p++bD p++bW p++am (-1) p.control).length from by simp [Bq];omega)
 have ho7:=aa (show (aC p++aG p++aE p++bD p++bW p++am (-1) p.control).length+(cP p).length=(ao p).length from by simp [ao,Bq];omega)
 obtain ⟨ta0,ta1,ta2,ta3,ta4,ta5,ta6⟩:=aF (au hh1.prog)
 have taq:W1.cell? ⟨W.heap.size,0,none⟩=some (.func (.yield l) #[] #[]):=au hh1.yield 0
 replace hh1:=aa hh1
 clear hY hJK hP hbp hJ hb1
 replace hown:=aa hown
 go_enter func70,ntmps70
 have hcall1:=aa (hC1.out W1 (by omega) hh1.out hJ1)
 clear hJ1 hC1
 go_wp2_with fail
 refine hcall1.out.mono ?_
 rintro e W2 ⟨rfl,h1,h2⟩
 cases hr:bK g ([]:List It).length (aC p).length
 rotate_right
 focus
  obtain ⟨hJn,hkn⟩:=h1 hr
  rw [ho1.out] at hJn
  have hh2:=hh1.out.kp hkn
  have hk2:=aa (hk1.out.trans hkn)
  have hzz:W.heap.size<W2.heap.size:=(Bs.1 hh2.yield).1
  have hzb:bp<W2.heap.size:=(Bs.1 hh2.prog).1
  have hcall2:=aa (hC2.out W2 (by omega) hh2 hJn)
  obtain ⟨tb0,tb1,tb2,tb3,tb4,tb5,tb6⟩:=aF (au hh2.prog)
  have tbq:W2.cell? ⟨W.heap.size,0,none⟩=some (.func (.yield l) #[] #[]):=au hh2.yield 0
  replace hh2:=aa hh2
  clear h1 h2 hr hJn hkn hC2 hcall1
  go_wp2_with fail
  refine hcall2.out.mono ?_
  rintro e W3 ⟨rfl,h1,h2⟩
  cases hr:bK g (aC p).length (aG p).length
  rotate_right
  focus
   obtain ⟨hJn,hkn⟩:=h1 hr
   rw [ho2.out] at hJn
   have hh3:=hh2.out.kp hkn
   have hk3:=aa (hk2.out.trans hkn)
   have hzz:W.heap.size<W3.heap.size:=(Bs.1 hh3.yield).1
   have hzb:bp<W3.heap.size:=(Bs.1 hh3.prog).1
   have hcall3:=aa (hC3.out W3 (by omega) hh3 hJn)
   obtain ⟨tc0,tc1,tc2,tc3,tc4,tc5,tc6⟩:=aF (au hh3.prog)
   have tcq:W3.cell? ⟨W.heap.size,0,none⟩=some (.func (.yield l) #[] #[]):=au hh3.yield 0
   replace hh3:=aa hh3
   clear h1 h2 hr hJn hkn hC3 hcall2
   go_wp2_with fail
   refine hcall3.out.mono ?_
   rintro e W4 ⟨rfl,h1,h2⟩
   cases hr:bK g (aC p++aG p).length (aE p).length
   rotate_right
   focus
    obtain ⟨hJn,hkn⟩:=h1 hr
    rw [ho3.out] at hJn
    have hh4:=hh3.out.kp hkn
    have hk4:=aa (hk3.out.trans hkn)
    have hzz:W.heap.size<W4.heap.size:=(Bs.1 hh4.yield).1
    have hzb:bp<W4.heap.size:=(Bs.1 hh4.prog).1
    have hcall4:=aa (hC4.out W4 (by omega) hh4 hJn)
    obtain ⟨td0,td1,td2,td3,td4,td5,td6⟩:=aF (au hh4.prog)
    have tdq:W4.cell? ⟨W.heap.size,0,none⟩=some (.func (.yield l) #[] #[]):=au hh4.yield 0
    replace hh4:=aa hh4
    clear h1 h2 hr hJn hkn hC4 hcall3
    go_wp2_with fail
    refine hcall4.out.mono ?_
    rintro e W5 ⟨rfl,h1,h2⟩
    cases hr:bK g (aC p++aG p++aE p).length (bD p).length
    rotate_right
    focus
     obtain ⟨hJn,hkn⟩:=h1 hr
     rw [ho4.out] at hJn
     have hh5:=hh4.out.kp hkn
     have hk5:=aa (hk4.out.trans hkn)
     have hzz:W.heap.size<W5.heap.size:=(Bs.1 hh5.yield).1
     have hzb:bp<W5.heap.size:=(Bs.1 hh5.prog).1
     have hcall5:=aa (hC5.out W5 (by omega) hh5 hJn)
     obtain ⟨te0,te1,te2,te3,te4,te5,te6⟩:=aF (au hh5.prog)
     have teq:W5.cell? ⟨W.heap.size,0,none⟩=some (.func (.yield l) #[] #[]):=au hh5.yield 0
     replace hh5:=aa hh5
     clear h1 h2 hr hJn hkn hC5 hcall4
     go_wp2_with fail
     refine hcall5.out.mono ?_
     rintro e W6 ⟨rfl,h1,h2⟩
     cases hr:bK g (aC p++aG p++aE p++bD p).length (bW p).length
     rotate_right
     focus
      obtain ⟨hJn,hkn⟩:=h1 hr
      rw [ho5.out] at hJn
      have hh6:=hh5.out.kp hkn
      have hk6:=aa (hk5.out.trans hkn)
      have hzz:W.heap.size<W6.heap.size:=(Bs.1 hh6.yield).1
      have hzb:bp<W6.heap.size:=(Bs.1 hh6.prog).1
      have hcall6:=aa (hC6.out W6 (by omega) hh6 hJn)
      obtain ⟨tf0,tf1,tf2,tf3,tf4,tf5,tf6⟩:=aF (au hh6.prog)
      have tfq:W6.cell? ⟨W.heap.size,0,none⟩=some (.func (.yield l) #[] #[]):=au hh6.yield 0
      replace hh6:=aa hh6
      clear h1 h2 hr hJn hkn hC6 hcall5
      go_wp2_with fail
      refine hcall6.out.mono ?_
      rintro e W7 ⟨rfl,h1,h2⟩
      cases hr:bK g (aC p++aG p++aE p++bD p++bW p).length (am (-1) p.control).length
      rotate_right
      focus
       obtain ⟨hJn,hkn⟩:=h1 hr
       rw [ho6.out] at hJn
       have hh7:=hh6.out.kp hkn
       have hk7:=aa (hk6.out.trans hkn)
       have hzz:W.heap.size<W7.heap.size:=(Bs.1 hh7.yield).1
       have hzb:bp<W7.heap.size:=(Bs.1 hh7.prog).1
       have hcall7:=aa (hC7.out W7 (by omega) hh7 hJn)
       obtain ⟨tg0,tg1,tg2,tg3,tg4,tg5,tg6⟩:=aF (au hh7.prog)
       have tgq:W7.cell? ⟨W.heap.size,0,none⟩=some (.func (.yield l) #[] #[]):=au hh7.yield 0
       replace hh7:=aa hh7
       clear h1 h2 hr hJn hkn hC7 hcall6
       go_wp2_with fail
       refine hcall7.out.mono ?_
       rintro e W8 ⟨rfl,h1,h2⟩
       cases hr:bK g (aC p++aG p++aE p++bD p++bW p++am (-1) p.control).length (cP p).length
       rotate_right
       focus
        obtain ⟨hJn,hkn⟩:=h1 hr
        rw [ho7.out] at hJn
        have hJN:=aa hJn
        have hkN:=aa (hk7.out.trans hkn)
        clear h1 h2 hr hJn hkn
        go_wp2
        go_end0
        exact ⟨⟨_,rfl⟩,.inl ⟨hJN.out,hkN.out⟩⟩
 all_goals
  have hS:=aa (h2 hr)
  clear h1 h2 hr
  go_wp2
  go_end0
  exact ⟨⟨_,rfl⟩,.inr hS.out⟩
end Go.Proofs.YtbbdhknagofghaaGreat
