import Derived.Test.YtbbdhknagofghaaGreatTcp13
import Derived.RangeFuncBox
set_option linter.all false
set_option maxHeartbeats 8000000
set_option maxRecDepth 200000
open Go.Proofs.Tryz
namespace Go.Proofs.YtbbdhknagofghaaGreat
open _root_.Nat renaming lt_of_lt_of_le→Bg, le_trans→Bj, le_refl→Bm
open _root_.Go.RowKit.Below renaming refl→Bi
open _root_.Bool renaming and_eq_true→Bn, false_and→Bu, and_assoc→BJ
open _root_.Array renaming getElem?_eq_some_iff→Bs
open _root_.List renaming mem_of_getElem?→BQ, isEmpty_eq_false_iff→B9
open Go.RowKit
theorem px {W:World} {a i:Nat} {cs:Array Value} {T:TypeId} (h:W.heap[a]? =some (.cells cs T)) (v:Value):(W.setCell ⟨a,i,none⟩ v).heap[a]? =some (.cells (cs.setIfInBounds i v) T):=by
 obtain ⟨hlt,hk⟩:=Bs.1 h
 show (W.heap.modify a _)[a]? =_
 rw [Array.getElem?_eq_getElem (by rw [Array.size_modify];exact hlt),Array.getElem_modify_self,hk]
 simp [Addr.spot]
theorem oB {W:World} {k:Nat} {cs:Array Value} {t:TypeId} (h:W.heap[k]? =some (.cells cs t)):∀ i,W.cell? ⟨k,i,none⟩=cs[i]? :=by
 intro i
 simp [World.cell?,h]
theorem xt {W:World} {a:Nat} {c0 c1 c2:Value} {T:TypeId} (h:W.heap[a]? =some (.cells #[c0,c1,c2] T)) (u v x:Value):(((W.setCell ⟨a,0,none⟩ u).setCell ⟨a,1,none⟩ v).setCell ⟨a,2,none⟩ x).heap[a]? =some (.cells #[u,v,x] T):=by
 have h1:=px (i:=0) h u
 have h2:=px (i:=1) h1 v
 have h3:=px (i:=2) h2 x
 simpa using h3
theorem km {W X:World} {g i:Nat} (h:W.grownBy X (some g)) (v:Value):W.grownBy (X.setCell ⟨g,i,none⟩ v) (some g):=
 ⟨h.os,h.tape,h.output,Bj h.size (KeepsWalks.setCell X _ v).size,fun k hk hne=>(Below.heap_setCell X ⟨g,i,none⟩ v k (fun e=>hne (by rw [e]))).trans (h.block k hk hne)⟩
theorem oC {W X:World} {g a i:Nat} (h:W.grownBy X (some g)) (ha:W.heap.size≤a) (v:Value):W.grownBy (X.setCell ⟨a,i,none⟩ v) (some g):=
 ⟨h.os,h.tape,h.output,Bj h.size (KeepsWalks.setCell X _ v).size,fun k hk hne=>(Below.heap_setCell X ⟨a,i,none⟩ v k (fun e=>by simp only at e;omega)).trans (h.block k hk hne)⟩
theorem k9 {w W X:World} {g:Nat} (hb:Below w.heap.size w W) (h:W.grownBy X (some g)):w.grownBy X (some g):=
 ⟨h.os.trans hb.os,h.tape.trans hb.tape,h.output.trans hb.output,Bj hb.size h.size,fun k hk hne=>(h.block k (Bg hk hb.size) hne).trans (hb.block k hk)⟩
theorem eR {w W:World} {g:Nat} (hb:Below w.heap.size w W):w.grownBy W (some g):=
 ⟨hb.os,hb.tape,hb.output,hb.size,fun k hk _=>hb.block k hk⟩
theorem mG {B:Nat} {w W X:World} {g:Nat} (hb:Below B w W) (h:W.grownBy X (some g)) (hg:B≤g) (hB:B≤W.heap.size):Below B w X:=
 ⟨h.os.trans hb.os,h.tape.trans hb.tape,h.output.trans hb.output,Bj hb.size h.size,fun k hk=>(h.block k (by omega) (fun e=>by injection e;omega)).trans (hb.block k hk)⟩
theorem mH {w W:World} {B g:Nat} {o:Obj} (h:w.heap[g]? =some o) (hb:Below B w W) (hg:g<B):W.heap[g]? =some o:=(hb.block g hg).trans h
theorem oD {W:World} {a i k:Nat} {o:Obj} (v:Value) (h:W.heap[k]? =some o) (hne:k≠a):(W.setCell ⟨a,i,none⟩ v).heap[k]? =some o:=
 (Below.heap_setCell W ⟨a,i,none⟩ v k hne).trans h
theorem vb (a b c d:Option Addr) (r:Rs Unit) (tb:Nat) (o:Obj) (w:World) (htb:tb<w.heap.size)
  (hBy:∀ W,Below w.heap.size w W→Calls prog 26 #[.pointer a,.pointer b,.pointer c,.pointer d] W fun e w'=>e=fq r∧W.grownBy w' (some tb)∧w'.heap[tb]? =some o):
  Calls prog 19 #[.func (.func 26) #[] #[.pointer a,.pointer b,.pointer c,.pointer d]] w fun e w'=>e=.returned (.int .i64 (bS r))∧w.grownBy w' (some tb)∧w'.heap[tb]? =some o:=by
 have hmf:∀ (fn:Fn) (first cap:Array Value) (w:World),(Instr.makeFunc fn first cap).run prog w=.ok (.func fn first cap) w:=fun _ _ _ _=>rfl
 obtain ⟨wb,hwb,hsb,hbb,hcb,hfb⟩:=al w #[.int .i64 0] 33
 have x0:wb.cell? ⟨w.heap.size,0,none⟩=some (.int .i64 0):=hcb 0
 have hf0:=hfb 0
 have hl1:w.heap.size<wb.heap.size:=by omega
 have hB:=aa (hBy wb hbb)
 clear hcb hfb hBy
 replace hsb:=aa hsb
 have hob:∀ w3:World,wb.grownBy w3 (some tb)→w3.heap[w.heap.size]? =wb.heap[w.heap.size]? :=fun w3 hg=>hg.block _ hl1 (fun e=>by injection e;omega)
 cases r with
 |ok u=>
  replace hB:=aa (show Calls prog _ _ wb fun e w'=>e=.returned (.tuple #[])∧wb.grownBy w' (some tb)∧w'.heap[tb]? =some o from hB.out)
  go_enter_defers func19,ntmps19
  go_wp2_with (go_at_call 26;refine hB.out.mono ?_;rintro e w3 ⟨rfl,hg3,ho3⟩;have y0:=(World.cell?_of_block (a:=⟨w.heap.size,0,none⟩) (hob w3 hg3)).trans x0;have y1:w3.frozen? ⟨w.heap.size,0,none⟩=false:=(World.frozen?_of_block (a:=⟨w.heap.size,0,none⟩) (hob w3 hg3)).trans hf0;have q3:=Bg hl1 hg3.size)
  refine leaves_cons (f:=34) (args:=#[.pointer (some ⟨w.heap.size,0,none⟩)]) (by simp) (by simp [go_sem]) ?_
  refine (mn ⟨w.heap.size,0,none⟩ _).mono ?_
  rintro e u' w'' ⟨rfl,rfl,rfl⟩
  have hlt:=q3
  have hcell:=y0
  simp [Leaves,settle,results,results19,go_sem,hcell,bS]
  exact ⟨oC (k9 hbb hg3) (Bm _) _,oD _ ho3 (by omega)⟩
 |error n=>
  replace hB:=aa (show Calls prog _ _ wb fun e w'=>e=ji n∧wb.grownBy w' (some tb)∧w'.heap[tb]? =some o from hB.out)
  go_enter_defers func19,ntmps19
  go_wp2_with (go_at_call 26;refine hB.out.mono ?_;rintro e w3 ⟨rfl,hg3,ho3⟩;have y0:=(World.cell?_of_block (a:=⟨w.heap.size,0,none⟩) (hob w3 hg3)).trans x0;have y1:w3.frozen? ⟨w.heap.size,0,none⟩=false:=(World.frozen?_of_block (a:=⟨w.heap.size,0,none⟩) (hob w3 hg3)).trans hf0;have q3:=Bg hl1 hg3.size)
  have hcell:=y0
  refine leaves_cons (f:=34) (args:=#[.pointer (some ⟨w.heap.size,0,none⟩)]) (by simp) (by simp [go_sem]) ?_
  refine (kP ⟨w.heap.size,0,none⟩ 0 n [] _ hcell y1).mono ?_
  rintro e u' w'' ⟨rfl,rfl,rfl⟩
  simp [Leaves,settle,results,results19,go_sem,hcell,bS]
  exact ⟨oC (k9 hbb hg3) (Bm _) _,oD _ ho3 (by omega)⟩
theorem vd (A1 A2 A3 A4 A5 A6 A7:Option Addr) (p:Pg) (c1 c2 c3 c4 c5 c6 c7:Nat) {m act:Int} {B:Nat} (hm:dz p=true) (e:Ex) (cs:List Value) (ge gp ga gt:Nat) (w:World) (hB:B≤w.heap.size) (h0:0<B) (hz:w.cell? ⟨0,0,none⟩=some (.int .i64 m)) (hP:bu w B A1 A2 A3 A4 A5 A6 A7 p) (hr:dL w B cs e)
  (hge:∀ i,w.cell? ⟨ge,i,none⟩=cs.toArray[i]?) (hgp:∀ i,w.cell? ⟨gp,i,none⟩=((aq p A1 A2 A3 A4 A5 A6 A7 c1 c2 c3 c4 c5 c6 c7):Array Value)[i]?) (hga:w.cell? ⟨ga,0,none⟩=some (.int .i64 act)) (hgt:w.heap[gt]? =some (.cells #[.int .i64 0,.bool false,.bool false] 75)):
  Calls prog 26 #[.pointer (some ⟨ge,0,none⟩),.pointer (some ⟨gp,0,none⟩),.pointer (some ⟨ga,0,none⟩),.pointer (some ⟨gt,0,none⟩)] w fun z w'=>z=fq (AK (iz p act e))∧w.grownBy w' (some gt)∧w'.heap[gt]? =some (.cells (gw (db (iz p act e)).1) 75):=by
 have hM:=aa (dD e cs w hB h0 hz hr)
 have hX0:=aa (fun (he:aT e=true) (W:World) (hW:Below w.heap.size w W)=>ud A1 A2 A3 A4 A5 A6 A7 p c1 c2 c3 c4 c5 c6 c7 act B hm e he cs W (Bj hB hW.size) (hP.below (hW.mono hB)) (ai.keep hr fun q hq=>(hW.mono hB).cell hq))
 have hl1:ge<w.heap.size:=by
  have:=hge 0
  obtain ⟨op,lit,head,name,hi,lo,args⟩:=e
  obtain ⟨A,cap,rfl,-⟩:=RE.inv hr
  obtain ⟨o,ho,-⟩:=cells_of_cell (this.trans rfl)
  exact (Bs.1 ho).1
 have hl2:gp<w.heap.size:=by
  obtain ⟨o,ho,-⟩:=cells_of_cell ((hgp 0).trans rfl)
  exact (Bs.1 ho).1
 have hl3:ga<w.heap.size:=by
  obtain ⟨o,ho,-⟩:=cells_of_cell hga
  exact (Bs.1 ho).1
 have hl4:gt<w.heap.size:=(Bs.1 hgt).1
 have hv:=aa (show iz p act e=if cj e then bI p act e else .error 2 from rfl)
 have hma:=aa (show cj e=true→aT e=true from fun h=>by simp only [cj,Bn] at h;exact h.2)
 generalize bI p act e=r at hv hX0
 generalize iz p act e=R at hv ⊢
 generalize cj e=me at hM hv hma
 generalize hae:aT e=ae at hX0 hma
 clear hP hz hae
 obtain ⟨op,lit,head,name,hi,lo,args⟩:=e
 obtain ⟨A,cap,rfl,-⟩:=RE.inv hr
 clear hr
 replace hX0:Hid (ae=true→∀ W,Below w.heap.size w W→Calls prog 29 #[.agg (dw p A1 A2 A3 A4 A5 A6 A7 c1 c2 c3 c4 c5 c6 c7 act),.agg (aO op lit head name hi lo A args.length cap)] W fun z w'=>z=fB r∧Below W.heap.size W w'):=hX0
 replace hM:Hid (Calls prog 28 #[.agg (aO op lit head name hi lo A args.length cap)] w fun z w'=>z=.returned (.bool me)∧Below w.heap.size w w'):=hM
 obtain ⟨e0,e1,e2,e3,e4,e5,e6,e7,e8⟩:=bU hge
 obtain ⟨u0,u1,u2,u3,u4,u5,u6⟩:=aF hgp
 have hc0:=oB hgt
 obtain ⟨t0,t1,t2⟩:=bF hc0
 have hfz:∀ i,w.frozen? ⟨gt,i,none⟩=false:=fun i=>by simp [World.frozen?,hgt]
 have f0:=hfz 0
 have f1:=hfz 1
 have f2:=hfz 2
 replace hgt:=aa hgt
 clear hge hgp hc0 hfz
 cases me with
 |false=>
  have hR:=aa (hv.out.trans (if_neg Bool.false_ne_true))
  go_enter func26,ntmps26
  go_wp2_with (first|(go_at_call 28;with_reducible refine hM.out.mono ?_;rintro e w1 ⟨rfl,hb1⟩)|(go_at_call 27;with_reducible refine (bJ _ _).mono ?_;rintro e w' ⟨rfl,rfl⟩))
  exact ⟨rfl,by rw [hR.out];rfl,eR hb1,by rw [hR.out];exact mH hgt.out hb1 hl4⟩
 |true=>
  have hX:=aa (hX0.out (hma.out rfl))
  have hR:=aa (hv.out.trans (if_pos rfl))
  clear hX0 hma hv
  cases r with
  |error n7=>
   have hX1:=aa (fun (W:World) (hW:Below w.heap.size w W)=>(show Calls prog _ _ W fun e w'=>e=ji n7∧Below W.heap.size W w' from hX.out W hW))
   clear hX
   go_enter func26,ntmps26
   go_wp2_with (first|(go_at_call 28;with_reducible refine hM.out.mono ?_;rintro e w1 ⟨rfl,hb1⟩;have kb1:=ab hb1)|(go_at_call 27;with_reducible refine (aP _ _).mono ?_;rintro e w' ⟨rfl,rfl⟩)|(go_at_call 29;with_reducible refine (hX1.out _ hb1).mono ?_;rintro e w3 ⟨rfl,hb3⟩))
   have hb13:=hb1.trans (hb3.mono hb1.size)
   exact ⟨rfl,by rw [hR.out];rfl,eR hb13,by rw [hR.out];exact mH hgt.out hb13 hl4⟩
  |ok t=>
   obtain ⟨tw,tr,tf⟩:=t
   have hX1:=aa (fun (W:World) (hW:Below w.heap.size w W)=>(show Calls prog _ _ W fun e w'=>e=.returned (.agg #[.int .i64 tw,.bool tr,.bool tf])∧Below W.heap.size W w' from hX.out W hW))
   clear hX
   go_enter func26,ntmps26
   go_wp2_with (first|(go_at_call 28;with_reducible refine hM.out.mono ?_;rintro e w1 ⟨rfl,hb1⟩;have kb1:=ab hb1)|(go_at_call 27;with_reducible refine (aP _ _).mono ?_;rintro e w' ⟨rfl,rfl⟩)|(go_at_call 29;with_reducible refine (hX1.out _ hb1).mono ?_;rintro e w3 ⟨rfl,hb3⟩;have hb13:=hb1.trans (hb3.mono hb1.size);have kb3:=ab hb13;have q3:=Bg hl4 hb13.size))
   (try simp only [Exit.inBlock,Exit.then])
   refine bodyPost_end (results_none rfl _ _ _) rfl ?_
   exact ⟨by rw [hR.out];rfl,km (km (km (eR hb13) _) _) _,by rw [hR.out];exact xt (mH hgt.out hb13 hl4) _ _ _⟩
theorem yT (A1 A2 A3 A4 A5 A6 A7:Option Addr) (p:Pg) (c1 c2 c3 c4 c5 c6 c7:Nat) {m act:Int} {B:Nat} (hm:dz p=true) (e:Ex) (cs:List Value) (w:World) (hB:B≤w.heap.size) (h0:0<B) (hz:w.cell? ⟨0,0,none⟩=some (.int .i64 m)) (hP:bu w B A1 A2 A3 A4 A5 A6 A7 p) (hr:dL w B cs e):
  Calls prog 16 #[.agg (aq p A1 A2 A3 A4 A5 A6 A7 c1 c2 c3 c4 c5 c6 c7),.int .i64 act,.agg cs.toArray] w fun z w'=>z=.returned (.tuple #[.agg (gw (db (iz p act e)).1),.int .i64 (db (iz p act e)).2])∧Below w.heap.size w w':=by
 unfold aq
 have hmf:∀ (fn:Fn) (first cap:Array Value) (w:World),(Instr.makeFunc fn first cap).run prog w=.ok (.func fn first cap) w:=fun _ _ _ _=>rfl
 obtain ⟨op,lit,head,name,hi,lo,args⟩:=e
 have hr':=hr
 obtain ⟨A,cap,rfl,-⟩:=RE.inv hr'
 clear hr'
 show Calls _ _ #[.agg #[.slice A1 p.headers.length c1,.slice A2 p.metas.length c2,.slice A3 p.states.length c3,.slice A4 p.actions.length c4,.slice A5 p.tables.length c5,.slice A6 p.control.length c6,.slice A7 p.emit.length c7],.int .i64 act,.agg #[.int .u8 op,.int .i64 lit.1,.int .u64 lit.2.1,.int .u64 lit.2.2,.string head,.string name,.int .i64 hi,.int .i64 lo,.slice A args.length cap]] _ _
 obtain ⟨wp,hwp,hsp,hbp,hcp,-⟩:=al w (aq p A1 A2 A3 A4 A5 A6 A7 c1 c2 c3 c4 c5 c6 c7) 30
 obtain ⟨wa,hwa,hsa,hba,hca,-⟩:=al wp #[.int .i64 act] 3
 obtain ⟨we,hwe,hse,hbe,hce,-⟩:=al wa (aO op lit head name hi lo A args.length cap) 45
 obtain ⟨wt,hwt,hst,hbt,hct,hft⟩:=al we #[.int .i64 0,.bool false,.bool false] 75
 have hEt:Below wt.heap.size wt wt:=Bi _ _
 have hEe:Below we.heap.size we wt:=hbt.trans (hEt.mono (by omega))
 have hEa:Below wa.heap.size wa wt:=hbe.trans (hEe.mono (by omega))
 have hEp:Below wp.heap.size wp wt:=hba.trans (hEa.mono (by omega))
 have hw:=aa (hbp.trans (hEp.mono (by omega)))
 have cp:=fun i=>(bx hEp w.heap.size i (by omega)).trans (hcp i)
 have ca:=(bx hEa wp.heap.size 0 (by omega)).trans (hca 0)
 have ce:=fun i=>(bx hEe wa.heap.size i (by omega)).trans (hce i)
 have ht:wt.heap[we.heap.size]? =some (.cells #[.int .i64 0,.bool false,.bool false] 75):=by rw [←hwt];exact World.alloc_heap_new we _
 have hC:=aa (vb (some ⟨wa.heap.size,0,none⟩) (some ⟨w.heap.size,0,none⟩) (some ⟨wp.heap.size,0,none⟩) (some ⟨we.heap.size,0,none⟩) (AK (iz p act (.mk op lit head name hi lo args))) we.heap.size (.cells (gw (db (iz p act (.mk op lit head name hi lo args))).1) 75) wt (by omega) fun W hW=>
  vd A1 A2 A3 A4 A5 A6 A7 p c1 c2 c3 c4 c5 c6 c7 (m:=m) (act:=act) (B:=B) hm (.mk op lit head name hi lo args) _ wa.heap.size w.heap.size wp.heap.size we.heap.size W (by have:=hW.size;have:=hw.out.size;omega) h0 ((bx hW 0 0 (by omega)).trans ((bx hw.out 0 0 (by omega)).trans hz)) (hP.below ((hw.out.trans (hW.mono (by omega))).mono hB)) (ai.keep hr fun q hq=>((hw.out.trans (hW.mono (by omega))).mono hB).cell hq)
   (fun i=>(bx hW wa.heap.size i (by omega)).trans (ce i)) (fun i=>(bx hW w.heap.size i (by omega)).trans (cp i)) ((bx hW wp.heap.size 0 (by omega)).trans ca) ((hW.block _ (by omega)).trans ht))
 rw [yD] at hC
 generalize db (iz p act (.mk op lit head name hi lo args))=R at hC ⊢
 obtain ⟨⟨tw,tr,tf⟩,n⟩:=R
 simp only [gw] at hC ⊢
 have hl4:we.heap.size<wt.heap.size:=by omega
 have hlw:w.heap.size≤we.heap.size:=by omega
 have hlt:w.heap.size≤wt.heap.size:=by omega
 simp only [hsa,hse,hsp] at hC hl4 hlw
 clear hr hP hz hcp hca hce hct hft cp ca ce ht hEt hEe hEa hEp hbp hba hbe hbt
 replace hst:=aa hst
 go_enter func16,ntmps16
 go_wp2_with (go_at_call 19;refine hC.out.mono ?_;rintro e w3 ⟨rfl,hg3,ho3⟩;have hc3:=oB ho3;obtain ⟨t0,t1,t2⟩:=bF hc3;have f0:w3.frozen? ⟨w.heap.size+1+1+1,0,none⟩=false:=(by simp [World.frozen?,ho3]);have f1:w3.frozen? ⟨w.heap.size+1+1+1,1,none⟩=false:=(by simp [World.frozen?,ho3]);have f2:w3.frozen? ⟨w.heap.size+1+1+1,2,none⟩=false:=(by simp [World.frozen?,ho3]);have q3:=Bg hl4 hg3.size)
 refine bodyPost_ret (v:=.tuple #[.agg #[.int .i64 tw,.bool tr,.bool tf],.int .i64 n]) (by simp [results,results16,go_sem,t0,t1,t2]) rfl ⟨rfl,?_⟩
 exact ad (mG hw.out hg3 hlw hlt) hlw _ _ _
theorem bR (l:Lt):l=fW↔l.1=0∧l.2.1=0∧l.2.2=0:=by
 obtain ⟨a,b,c⟩:=l
 simp [fW]
theorem ve (s:Se) (w:World) (hk:u8 s.kind) (hv:em s.v) (hm:em s.m):
  Calls prog 138 #[.agg #[.int .u8 s.kind,.int .i64 s.v.1,.int .u64 s.v.2.1,.int .u64 s.v.2.2,.int .i64 s.m.1,.int .u64 s.m.2.1,.int .u64 s.m.2.2]] w fun e w'=>e=.returned (.bool (fA s))∧Below w.heap.size w w':=by
 obtain ⟨kind,v,m⟩:=s
 show Calls _ _ #[.agg #[.int .u8 kind,.int .i64 v.1,.int .u64 v.2.1,.int .u64 v.2.2,.int .i64 m.1,.int .u64 m.2.1,.int .u64 m.2.2]] _ _
 replace hv:em v:=hv
 replace hm:em m:=hm
 obtain ⟨wa,hwa,hsa,hba,hca,-⟩:=al w #[.int .u8 kind,.int .i64 v.1,.int .u64 v.2.1,.int .u64 v.2.2,.int .i64 m.1,.int .u64 m.2.1,.int .u64 m.2.2] 97
 obtain ⟨x0,x1,x2,x3,x4,x5,x6⟩:=aF hca
 have hw:=aa (hba.alloc (show w.heap.size≤wa.heap.size by omega) (.cells #[.int .i64 0,.int .u64 0,.int .u64 0] 42))
 clear hca hba
 
 have zero_:∀ l:Lt,l=fW→(l.1=0)=True∧(l.2.1=0)=True∧(l.2.2=0)=True:=fun l h=>by rw [bR] at h;exact ⟨eq_true h.1,eq_true h.2.1,eq_true h.2.2⟩
 have zz:=aa zero_
 clear zero_
 by_cases k1:kind=1
 focus
  subst k1
  have hs:fA ⟨1,v,m⟩=(decide (v=fW)&&decide (m=fW)):=rfl
  by_cases hz:v=fW
  focus
   obtain ⟨p1,p2,p3⟩:=zz.out v hz
   by_cases hy:m=fW
   focus
    obtain ⟨r1,r2,r3⟩:=zz.out m hy
    have hvv:=aa (show fA ⟨1,v,m⟩=true from by rw [hs,decide_eq_true hz,decide_eq_true hy];rfl)
    clear hs hz hy
   rotate_right
   focus
    have hvv:=aa (show fA ⟨1,v,m⟩=false from by rw [hs,decide_eq_false hy];simp)
    have hyy:=aa (fun h=>hy ((bR m).2 h))
    clear hs hz hy
    by_cases r1:m.1=0
    focus
     by_cases r2:m.2.1=0
     focus
      by_cases r3:m.2.2=0
      focus exact absurd ⟨r1,r2,r3⟩ hyy.out
      rotate_right
      replace r1:=eq_true r1
      replace r2:=eq_true r2
     rotate_right
     replace r1:=eq_true r1
  rotate_right
  focus
   have hvv:=aa (show fA ⟨1,v,m⟩=false from by rw [hs,decide_eq_false hz];rfl)
   have hyy:=aa (fun h=>hz ((bR v).2 h))
   clear hs hz
   by_cases r1:v.1=0
   focus
    by_cases r2:v.2.1=0
    focus
     by_cases r3:v.2.2=0
     focus exact absurd ⟨r1,r2,r3⟩ hyy.out
     rotate_right
     replace r1:=eq_true r1
     replace r2:=eq_true r2
    rotate_right
    replace r1:=eq_true r1
  all_goals
   go_enter func138,ntmps138
   go_wp2
   go_ret
   exact ⟨ah hvv.out.symm,hw.out⟩
 rotate_right
 focus
  have hLa:=fun W=>il v W hv
  by_cases k2:kind=2
  focus
   subst k2
   have hs:fA ⟨2,v,m⟩=(cr v&&decide (m=fW)):=rfl
   cases hb:cr v
   rw [hb] at hLa
   have hLv:=aa hLa
   have hvv:=aa (show fA ⟨2,v,m⟩=false from by rw [hs,hb];rfl)
   clear hs hb k1 hLa
   rotate_right
   focus
    rw [hb] at hLa
    have hLv:=aa hLa
    clear hLa k1
    by_cases hy:m=fW
    focus
     obtain ⟨r1,r2,r3⟩:=zz.out m hy
     have hvv:=aa (show fA ⟨2,v,m⟩=true from by rw [hs,hb,decide_eq_true hy];rfl)
     clear hs hb hy
    rotate_right
    focus
     have hvv:=aa (show fA ⟨2,v,m⟩=false from by rw [hs,decide_eq_false hy];simp)
     clear hb
     have hyy:=aa (fun h=>hy ((bR m).2 h))
     clear hs hy
     by_cases r1:m.1=0
     focus
      by_cases r2:m.2.1=0
      focus
       by_cases r3:m.2.2=0
       focus exact absurd ⟨r1,r2,r3⟩ hyy.out
       rotate_right
       replace r1:=eq_true r1
       replace r2:=eq_true r2
      rotate_right
      replace r1:=eq_true r1
  rotate_right
  focus
   by_cases k3:kind=3
   focus
    subst k3
    have hs:fA ⟨3,v,m⟩=(cr v&&cr m):=rfl
    have hMa:=fun W=>il m W hm
    cases hb:cr v
    rw [hb] at hLa
    have hLv:=aa hLa
    have hvv:=aa (show fA ⟨3,v,m⟩=false from by rw [hs,hb];rfl)
    clear hs hb k1 k2 hLa hMa
    rotate_right
    focus
     rw [hb] at hLa
     have hLv:=aa hLa
     have hLm:=aa hMa
     have hvv:=aa (show fA ⟨3,v,m⟩=cr m from by rw [hs,hb];rfl)
     clear hs hb k1 k2 hLa hMa
     generalize cr m=z at hvv hLm
     go_enter func138,ntmps138
     go_wp2_with fail
     refine (hLv.out _).mono ?_
     rintro e w1 ⟨rfl,hb1⟩
     have hc1:=cM hb1
     go_wp2_with fail
     refine (hLm.out _).mono ?_
     rintro e w2 ⟨rfl,hb2⟩
     go_wp2
     go_ret
     exact ⟨ah hvv.out.symm,(hw.out.trans (hb1.mono (by simp;omega))).trans (hb2.mono (by have:=hb1.size;simp at this;omega))⟩
   rotate_right
   focus
    have hvv:=aa (show fA ⟨kind,v,m⟩=false from by unfold fA;rw [if_neg k1,if_neg k2,if_neg k3])
    clear hLa
    go_enter func138,ntmps138
    go_wp2
    go_ret
    exact ⟨ah hvv.out.symm,hw.out⟩
 all_goals
  go_enter func138,ntmps138
  go_wp2_with (go_at_call 49;refine (hLv.out _).mono ?_;rintro e w1 ⟨rfl,hb1⟩;have hc1:=cM hb1)
  go_ret
  exact ⟨ah hvv.out.symm,hw.out.trans (hb1.mono (by simp;omega))⟩
theorem jA (A:Option Addr) (n cap:Nat) (w:World) (hn:n≤9223372036854775807):
  Calls prog 231 #[.slice A n cap,.slice none 0 0,.func (.func 223) #[] #[]] w fun e w'=>e=.returned (.bool (n==0))∧w=w':=by
 by_cases h:n=0
 ·subst h
  go_enter func231,ntmps231
  go_wp2
  go_loop [17] (fun i=>i=.int .i64 0) (fun _=>0)
  case atStart=>rfl
  case round=>
   subst hrel
   go_wp2
   go_ret
   exact ⟨rfl,rfl⟩
 ·have h1:(n==0)=false:=beq_eq_false_iff_ne.2 h
  have h2:((n:Int) !=0)=true:=by simpa using h
  go_enter func231,ntmps231
  go_wp2
  go_ret
  exact ⟨ah h1.symm,rfl⟩
def py (op:Int) (lit:Lt) (head name:ByteArray) (hi lo:Int) (n:Nat):Bool:=decide (op=0)&&decide (lit=fW)&&decide (head=aB)&&decide (name=aB)&&decide (hi=0)&&decide (lo=0)&&(n==0)
theorem qU (op:Int) (lit:Lt) (head name:ByteArray) (hi lo:Int) (A:Option Addr) (n cap:Nat) (w:World) (hn:n≤9223372036854775807):
  Calls prog 223 #[.agg (aO op lit head name hi lo A n cap),.agg #[.int .u8 0,.int .i64 0,.int .u64 0,.int .u64 0,.string (ByteArray.mk #[]),.string (ByteArray.mk #[]),.int .i64 0,.int .i64 0,.slice none 0 0]] w fun r w'=>r=.returned (.bool (py op lit head name hi lo n))∧Below w.heap.size w w':=by
 unfold aO
 have hE:=aa fun W=>jA A n cap W hn
 obtain ⟨wa,hwa,hsa,hba,hca,-⟩:=al w (aO op lit head name hi lo A n cap) 45
 obtain ⟨wb,hwb,hsb,hbb,hcb,-⟩:=al wa #[.int .u8 0,.int .i64 0,.int .u64 0,.int .u64 0,.string (ByteArray.mk #[]),.string (ByteArray.mk #[]),.int .i64 0,.int .i64 0,.slice none 0 0] 45
 have hw:=aa (hba.trans (hbb.mono (by omega)))
 have hqz:∀ i,wb.cell? ⟨w.heap.size,i,none⟩=(#[.int .u8 op,.int .i64 lit.1,.int .u64 lit.2.1,.int .u64 lit.2.2,.string head,.string name,.int .i64 hi,.int .i64 lo,.slice A n cap]:Array Value)[i]? :=fun i=>(bx hbb w.heap.size i (by omega)).trans (hca i)
 simp only [hsa] at hcb
 obtain ⟨x0,x1,x2,x3,x4,x5,x6,x7,x8⟩:=bU hqz
 obtain ⟨y0,y1,y2,y3,y4,y5,y6,y7,y8⟩:=bU hcb
 replace hsb:=aa hsb
 clear hca hcb hqz hba hbb
 by_cases h1:op=0
 focus
  have o1:(op==0)=true:=beq_iff_eq.2 h1
  by_cases h2:lit=fW
  focus
   obtain ⟨p1,p2,p3⟩:=(bR lit).1 h2
   replace p1:=eq_true p1
   replace p2:=eq_true p2
   replace p3:=eq_true p3
   by_cases h3:head=aB
   focus
    have s1:(head.toList== [])=true:=by rw [ak.1 h3];rfl
    have s2:head.toList.isEmpty=true:=by rw [ak.1 h3];rfl
    by_cases h4:name=aB
    focus
     have s3:(name.toList== [])=true:=by rw [ak.1 h4];rfl
     have s4:name.toList.isEmpty=true:=by rw [ak.1 h4];rfl
     by_cases h5:hi=0
     focus
      have s5:(hi==0)=true:=beq_iff_eq.2 h5
      by_cases h6:lo=0
      have s6:(lo==0)=true:=beq_iff_eq.2 h6
      have hv:=aa (show py op lit head name hi lo n=(n==0) from by simp [py,h1,h2,h3,h4,h5,h6])
      clear h1 h2 h3 h4 h5 h6
      rotate_right
      have s6:(lo==0)=false:=beq_eq_false_iff_ne.2 h6
      have hv:=aa (show py op lit head name hi lo n=false from by simp [py,h6])
      clear h1 h2 h3 h4 h5 h6
     rotate_right
     have s5:(hi==0)=false:=beq_eq_false_iff_ne.2 h5
     have hv:=aa (show py op lit head name hi lo n=false from by simp [py,h5])
     clear h1 h2 h3 h4 h5
    rotate_right
    have s3:(name.toList== [])=false:=by rw [beq_eq_false_iff_ne];exact fun h=>h4 (ak.2 h)
    have s4:name.toList.isEmpty=false:=by rw [B9];exact fun h=>h4 (ak.2 h)
    have hv:=aa (show py op lit head name hi lo n=false from by simp [py,h4])
    clear h1 h2 h3 h4
   rotate_right
   have s1:(head.toList== [])=false:=by rw [beq_eq_false_iff_ne];exact fun h=>h3 (ak.2 h)
   have s2:head.toList.isEmpty=false:=by rw [B9];exact fun h=>h3 (ak.2 h)
   have hv:=aa (show py op lit head name hi lo n=false from by simp [py,h3])
   clear h1 h2 h3
  rotate_right
  focus
   have hv0:=aa h2
   by_cases p1:lit.1=0
   focus
    by_cases p2:lit.2.1=0
    focus
     by_cases p3:lit.2.2=0
     focus exact absurd ((bR lit).2 ⟨p1,p2,p3⟩) h2
     rotate_right
     replace p1:=eq_true p1
     replace p2:=eq_true p2
     have hv:=aa (show py op lit head name hi lo n=false from by simp [py,h2])
     clear h1 h2
    rotate_right
    replace p1:=eq_true p1
    have hv:=aa (show py op lit head name hi lo n=false from by simp [py,h2])
    clear h1 h2
   rotate_right
   focus
    skip
    have hv:=aa (show py op lit head name hi lo n=false from by simp [py,h2])
    clear h1 h2
 rotate_right
 have o1:(op==0)=false:=beq_eq_false_iff_ne.2 h1
 have hv:=aa (show py op lit head name hi lo n=false from by simp [py,h1])
 clear h1
 all_goals
  go_enter func223,ntmps223
  go_wp2_with (go_at_call 231;refine (hE.out _).mono ?_;rintro e w' ⟨rfl,rfl⟩)
  go_ret
  exact ⟨ah hv.out.symm,hw.out⟩
theorem gd (e:Ex) (cs:List Value) (w:World) {B:Nat} (he:dL w B cs e):Calls prog 202 #[.agg cs.toArray] w fun r w'=>r=.returned (.bool (dU e))∧Below w.heap.size w w':=by
 obtain ⟨op,lit,head,name,hi,lo,args⟩:=e
 obtain ⟨A,cap,rfl,-,-,-,-,-,-,hs⟩:=RE.inv he
 have hla:=hs.len
 have hE:=fun W=>jA A args.length cap W hla
 show Calls _ _ #[.agg #[.int .u8 op,.int .i64 lit.1,.int .u64 lit.2.1,.int .u64 lit.2.2,.string head,.string name,.int .i64 hi,.int .i64 lo,.slice A args.length cap]] _ _
 generalize hn:args.length=n at*
 have hno:dU (.mk op lit head name hi lo args)=(decide (op=0)&&decide (lit=fW)&&decide (head=aB)&&decide (name=aB)&&decide (hi=0)&&decide (lo=0)&&(n==0)):=by
  rw [←hn];simp only [dU];cases args<;>simp
 replace hno:=aa hno
 clear he hs hn
 have hX:=aa fun W=>qU op lit head name hi lo A n cap W hla
 have hz:Below w.heap.size w (w.alloc (.cells #[.int .u8 op,.int .i64 lit.1,.int .u64 lit.2.1,.int .u64 lit.2.2,.string head,.string name,.int .i64 hi,.int .i64 lo,.slice A n cap] 45)):=(Bi _ _).alloc (Bm _) _
 replace hz:=aa hz
 replace hE:=aa hE
 go_enter func202,ntmps202
 go_wp2_with (go_at_call 223;refine (hX.out _).mono ?_;rintro e w1 ⟨rfl,hb1⟩)
 go_ret
 exact ⟨ah hno.out.symm,hz.out.trans (hb1.mono (by simp))⟩
def jB (m:Int) (B:Nat) (s:St):Prop:=∀ (cs:List Value) (w:World) (deep:Nat),deep≤8→B≤w.heap.size→0<B→w.cell? ⟨0,0,none⟩=some (.int .i64 m)→dR w B cs s→
 Calls prog 148 #[.agg cs.toArray,.int .i64 (deep:Int)] w fun r w'=>r=.returned (.bool (aM s deep))∧Below w.heap.size w w'
theorem jC:∀ args w,(callFunc 147 args).run prog w=.ok (.enter 147 args) w:=enters_of func147 (by kernel_rfl) rfl
theorem zR {cs:List Value} (h:cs.length=14):∃ a0 a1 a2 a3 a4 a5 a6 a7 a8 a9 a10 a11 a12 a13,cs= [a0,a1,a2,a3,a4,a5,a6,a7,a8,a9,a10,a11,a12,a13]:=by
 match cs,h with
 | [a0,a1,a2,a3,a4,a5,a6,a7,a8,a9,a10,a11,a12,a13],_=>exact ⟨a0,a1,a2,a3,a4,a5,a6,a7,a8,a9,a10,a11,a12,a13,rfl⟩
theorem vg {m:Int} {B:Nat} {s:St} (ih:jB m B s) (cs:List Value) (w:World) (deep bd:Nat) (hd:deep≤8) (hB:B≤w.heap.size) (h0:0<B) (hz:w.cell? ⟨0,0,none⟩=some (.int .i64 m)) (hr:dR w B cs s) (hel:cs.length=14)
  (hl:w.cell? ⟨bd,0,none⟩=some (.int .i64 (deep:Int))):
  Calls prog 147 #[.agg cs.toArray,.pointer (some ⟨bd,0,none⟩)] w fun r w'=>r=.returned (.bool (aM s deep))∧Below w.heap.size w w':=by
 obtain ⟨a0,a1,a2,a3,a4,a5,a6,a7,a8,a9,a10,a11,a12,a13,rfl⟩:=zR hel
 have hX0:=fun (W:World) (hb:Below w.heap.size w W)=>ih _ W deep hd (by have:=hb.size;omega) h0 ((bx hb 0 0 (by omega)).trans hz) (be.keep hr fun q hq=>(hb.mono hB).cell hq)
 obtain ⟨wa,hwa,hsa,hba,hca,-⟩:=al w #[a0,a1,a2,a3,a4,a5,a6,a7,a8,a9,a10,a11,a12,a13] 47
 have hbl:bd<w.heap.size:=World.block_lt_of_cell? w _ hl
 have hX:Hid (Calls prog 148 #[.agg #[a0,a1,a2,a3,a4,a5,a6,a7,a8,a9,a10,a11,a12,a13],.int .i64 (deep:Int)] wa fun r w'=>r=.returned (.bool (aM s deep))∧Below wa.heap.size wa w'):=aa (hX0 wa hba)
 have l0:wa.cell? ⟨bd,0,none⟩=some (.int .i64 (deep:Int)):=(hba.cell (p:=⟨bd,0,none⟩) hbl).trans hl
 obtain ⟨y0,y1,y2,y3,y4,y5,y6,y7,y8,y9,y10,y11,y12,y13⟩:=dm hca
 show Calls _ _ #[.agg #[a0,a1,a2,a3,a4,a5,a6,a7,a8,a9,a10,a11,a12,a13],.pointer (some ⟨bd,0,none⟩)] _ _
 replace hba:=aa hba
 have hle:w.heap.size≤wa.heap.size:=by omega
 generalize aM s deep=z at hX ⊢
 clear hca hX0 ih hr hel
 go_enter func147,ntmps147
 go_wp2_with (go_at_call 148;refine hX.out.mono ?_;rintro e w1 ⟨rfl,hb1⟩)
 go_ret
 exact ⟨rfl,hba.out.trans (hb1.mono hle)⟩
theorem lU {m:Int} {B:Nat} (l:List St) (ih:∀ x∈l,jB m B x) (A:Option Addr) (cap:Nat) (w:World) (deep:Nat) (hd:deep≤9) (hB:B≤w.heap.size) (h0:0<B) (hz:w.cell? ⟨0,0,none⟩=some (.int .i64 m)) (hS:Sl 14 dR w B A l):
  Calls prog 68 #[.slice A l.length cap,.int .i64 (deep:Int)] w fun r w'=>r=.returned (.bool (aY l deep))∧Below w.heap.size w w':=by
 have hl:=hS.len
 obtain ⟨wa,hwa,hsa,hba,hca,-⟩:=al w #[.int .i64 (deep:Int)] 3
 have n0:wa.cell? ⟨w.heap.size,0,none⟩=some (.int .i64 (deep:Int)):=hca 0
 have hza:wa.cell? ⟨0,0,none⟩=some (.int .i64 m):=(bx hba 0 0 (by omega)).trans hz
 have hAll:deep≤8→Calls prog 146 #[.slice A l.length cap,.func (.func 147) #[] #[.pointer (some ⟨w.heap.size,0,none⟩)]] wa fun e w'=>e=.returned (.bool (gG l deep))∧Below wa.heap.size wa w':=fun hd8=>by
  rw [gH]
  exact xc be 147 #[.pointer (some ⟨w.heap.size,0,none⟩)] jC (fun s=>aM s deep) A cap l wa (by omega) (hS.below be (hba.mono hB))
   (fun i x cs W hx hb hr hel=>vg (ih x (BQ hx)) cs W deep w.heap.size hd8 (by have:=hb.size;omega) h0 ((bx hb 0 0 (by omega)).trans hza) hr hel ((bx hb w.heap.size 0 (by omega)).trans n0))
 have hm:aY l deep=(decide (l.length=0) ||(decide (deep≤8)&&decide (l.length≤32)&&gG l deep)):=by
  unfold aY
  cases l<;>simp
 rw [hm]
 generalize gG l deep=z at hAll ⊢
 replace hba:=aa hba
 have hle:w.heap.size≤wa.heap.size:=by omega
 clear hca ih hz hza hS hm
 by_cases hn:l.length=0
 ·rw [decide_eq_true hn]
  have hnz:(l.length:Int)=0:=by omega
  clear hAll
  go_enter func68,ntmps68
  go_wp2
  go_ret
  exact ⟨rfl,hba.out⟩
 ·rw [decide_eq_false hn]
  have hnz:¬(l.length:Int)=0:=by omega
  by_cases hd8:deep≤8
  ·rw [decide_eq_true hd8]
   have hdz:(deep:Int)≤8:=by omega
   have hX:=aa (hAll hd8)
   by_cases h32:l.length≤32
   ·rw [decide_eq_true h32]
    have h3z:(l.length:Int)≤32:=by omega
    clear hAll
    have eg:=jC
    go_enter func68,ntmps68
    go_wp2_with (go_at_call 146;refine hX.out.mono ?_;rintro e w1 ⟨rfl,hb1⟩)
    go_ret
    exact ⟨by simp,hba.out.trans (hb1.mono hle)⟩
   ·rw [decide_eq_false h32]
    have h3z:¬(l.length:Int)≤32:=by omega
    clear hAll hX
    go_enter func68,ntmps68
    go_wp2
    go_ret
    exact ⟨by simp,hba.out⟩
  ·rw [decide_eq_false hd8]
   have hdz:¬(deep:Int)≤8:=by omega
   clear hAll
   go_enter func68,ntmps68
   go_wp2
   go_ret
   exact ⟨by simp,hba.out⟩
theorem qV {kind:Int} {head name:ByteArray} {e:Ex} {thn els:List St} {deep:Nat} (h2:kind≠2) (hb:thn.length+els.length≠0):aM (.mk kind head name e thn els) deep=false:=by
 have hn:(thn.isEmpty&&els.isEmpty)=false:=by
  cases thn<;>cases els<;>simp_all
 simp only [aM,hn,if_neg h2,Bu]
 simp
theorem qW {m:Int} {B:Nat} (kind:Int) (head name:ByteArray) (e:Ex) (thn els:List St) (cs:List Value) (w:World) (deep:Nat) (hr:dR w B cs (.mk kind head name e thn els)) (hel:cs.length=14) (h2:kind≠2) (hb:thn.length+els.length≠0)
  (hsm:thn.length+els.length≤9223372036854775807):
  Calls prog 148 #[.agg cs.toArray,.int .i64 (deep:Int)] w fun r w'=>r=.returned (.bool (aM (.mk kind head name e thn els) deep))∧Below w.heap.size w w':=by
 rw [qV h2 hb]
 obtain ⟨es,A1,c1,A2,c2,rfl,h0,h1,h2',he,hT,hE⟩:=RS.inv hr
 have l1:=hT.len
 have l2:=hE.len
 obtain ⟨op,lit,eh,en,hi,lo,args⟩:=e
 obtain ⟨A,cap,rfl,-,-,-,-,-,-,hs⟩:=RE.inv he
 have hla:=hs.len
 clear hr he hT hE hs hel
 obtain ⟨wa,hwa,hsa,hba,hca,-⟩:=al w (nA kind head name op lit eh en hi lo A args.length cap A1 thn.length c1 A2 els.length c2) 47
 obtain ⟨y0,y1,y2,y3,y4,y5,y6,y7,y8,y9,y10,y11,y12,y13⟩:=dm hca
 clear hca
 replace hba:=aa hba
 have hbz:((thn.length:Int)+(els.length:Int)>0):=by omega
 have hbw:(thn.length:Int)+(els.length:Int)≤9223372036854775807:=by omega
 have h2b:(kind !=2)=true:=by simpa using h2
 show Calls _ _ #[.agg #[.int .u8 kind,.string head,.string name,.int .u8 op,.int .i64 lit.1,.int .u64 lit.2.1,.int .u64 lit.2.2,.string eh,.string en,.int .i64 hi,.int .i64 lo,.slice A args.length cap,.slice A1 thn.length c1,.slice A2 els.length c2],.int .i64 (deep:Int)] _ _
 go_enter func148,ntmps148
 go_wp2
 go_ret
 exact ⟨rfl,hba.out⟩
theorem sO {kind:Int} {head name:ByteArray} {e:Ex} {thn els:List St} {deep:Nat} (h1:kind≠1) (h2:kind≠2) (h3:kind≠3) (h4:kind≠4) (h5:kind≠5) (h6:kind≠6) (h7:kind≠7):aM (.mk kind head name e thn els) deep=false:=by
 simp [aM,h1,h2,h3,h4,h5,h6,h7]
theorem sP {m:Int} {B:Nat} (kind:Int) (head name:ByteArray) (e:Ex) (thn els:List St) (cs:List Value) (w:World) (deep:Nat) (hr:dR w B cs (.mk kind head name e thn els)) (hel:cs.length=14) (h1k:kind≠1) (h2:kind≠2) (h3k:kind≠3) (h4k:kind≠4) (h5k:kind≠5) (h6k:kind≠6) (h7k:kind≠7) (hb:thn.length+els.length=0)
  (hsm:thn.length+els.length≤9223372036854775807):
  Calls prog 148 #[.agg cs.toArray,.int .i64 (deep:Int)] w fun r w'=>r=.returned (.bool (aM (.mk kind head name e thn els) deep))∧Below w.heap.size w w':=by
 rw [sO h1k h2 h3k h4k h5k h6k h7k]
 obtain ⟨es,A1,c1,A2,c2,rfl,h0,h1,h2',he,hT,hE⟩:=RS.inv hr
 have l1:=hT.len
 have l2:=hE.len
 obtain ⟨op,lit,eh,en,hi,lo,args⟩:=e
 obtain ⟨A,cap,rfl,-,-,-,-,-,-,hs⟩:=RE.inv he
 have hla:=hs.len
 clear hr he hT hE hs hel
 obtain ⟨wa,hwa,hsa,hba,hca,-⟩:=al w (nA kind head name op lit eh en hi lo A args.length cap A1 thn.length c1 A2 els.length c2) 47
 obtain ⟨y0,y1,y2,y3,y4,y5,y6,y7,y8,y9,y10,y11,y12,y13⟩:=dm hca
 clear hca
 replace hba:=aa hba
 have hbz:¬((thn.length:Int)+(els.length:Int)>0):=by omega
 have hbw:(thn.length:Int)+(els.length:Int)≤9223372036854775807:=by omega
 have h2b:(kind !=2)=true:=by simpa using h2
 show Calls _ _ #[.agg #[.int .u8 kind,.string head,.string name,.int .u8 op,.int .i64 lit.1,.int .u64 lit.2.1,.int .u64 lit.2.2,.string eh,.string en,.int .i64 hi,.int .i64 lo,.slice A args.length cap,.slice A1 thn.length c1,.slice A2 els.length c2],.int .i64 (deep:Int)] _ _
 go_enter func148,ntmps148
 go_wp2
 go_ret
 exact ⟨rfl,hba.out⟩
theorem vh {thn els:List St} (hb:thn.length+els.length=0):thn.isEmpty=true∧els.isEmpty=true:=by
 cases thn<;>cases els<;>simp_all
theorem sQ {m:Int} {B:Nat} (kind:Int) (hk:kind=3) (head name:ByteArray) (e:Ex) (thn els:List St) (cs:List Value) (w:World) (deep:Nat) (hr:dR w B cs (.mk kind head name e thn els)) (hel:cs.length=14)
  (hB:B≤w.heap.size) (h00:0<B) (hz:w.cell? ⟨0,0,none⟩=some (.int .i64 m)) (hb:thn.length+els.length=0):
  Calls prog 148 #[.agg cs.toArray,.int .i64 (deep:Int)] w fun r w'=>r=.returned (.bool (aM (.mk kind head name e thn els) deep))∧Below w.heap.size w w':=by
 have hv:aM (.mk kind head name e thn els) deep=(decide (head=aB)&&(av name&&dU e)):=by
  simp [aM,vh hb,hk,BJ]
 rw [hv]
 clear hv
 obtain ⟨es,A1,c1,A2,c2,rfl,h0,h1,h2',he,hT,hE⟩:=RS.inv hr
 have hsm:=RS.small hr
 have l1:=hT.len
 have l2:=hE.len
 have hX0:=fun (W:World) (hb:Below w.heap.size w W)=>gd e es W (ai.keep he fun q hq=>(hb.mono hB).cell hq)
 obtain ⟨op,lit,eh,en,hi,lo,args⟩:=e
 obtain ⟨A,cap,rfl,-,-,-,-,-,-,hs⟩:=RE.inv he
 have hla:=hs.len
 obtain ⟨wa,hwa,hsa,hba,hca,-⟩:=al w (nA kind head name op lit eh en hi lo A args.length cap A1 thn.length c1 A2 els.length c2) 47
 obtain ⟨y0,y1,y2,y3,y4,y5,y6,y7,y8,y9,y10,y11,y12,y13⟩:=dm hca
 have hza:wa.cell? ⟨0,0,none⟩=some (.int .i64 m):=(bx hba 0 0 (by omega)).trans hz
 have hNh:=aV head m wa (Bj h1 (by decide)) hza
 have hNn:=aV name m wa (Bj h2' (by decide)) hza
 clear hca
 have hX1:=hX0 wa hba
 clear hX0 hr he hT hE hs hel
 replace hba:=aa hba
 have hle:w.heap.size≤wa.heap.size:=by omega
 have hbw:(thn.length:Int)+(els.length:Int)≤9223372036854775807:=by unfold sm at hsm;omega
 show Calls _ _ #[.agg #[.int .u8 kind,.string head,.string name,.int .u8 op,.int .i64 lit.1,.int .u64 lit.2.1,.int .u64 lit.2.2,.string eh,.string en,.int .i64 hi,.int .i64 lo,.slice A args.length cap,.slice A1 thn.length c1,.slice A2 els.length c2],.int .i64 (deep:Int)] _ _
 have hbz:¬((thn.length:Int)+(els.length:Int)>0):=by omega
 subst hk
 have hX:Hid (Calls prog 202 #[.agg (aO op lit eh en hi lo A args.length cap)] wa fun r w'=>r=.returned (.bool (dU (.mk op lit eh en hi lo args)))∧Below wa.heap.size wa w'):=aa hX1
 clear hX1
 generalize dU (.mk op lit eh en hi lo args)=z at hX ⊢
 by_cases e1:head=aB
 ·rw [decide_eq_true e1]
  have q1:=ak.1 e1
  clear e1 hNh
  generalize av name=y at hNn ⊢
  cases y with
  |false=>
   go_enter func148,ntmps148
   go_wp2_with (go_at_call 58;refine hNn.mono ?_;rintro e w' ⟨rfl,rfl⟩)
   go_ret
   exact ⟨rfl,hba.out⟩
  |true=>
   go_enter func148,ntmps148
   go_wp2_with (first|(go_at_call 58;refine hNn.mono ?_;rintro e w' ⟨rfl,rfl⟩)|(go_at_call 202;refine hX.out.mono ?_;rintro e w1 ⟨rfl,hb1⟩))
   go_ret
   exact ⟨rfl,hba.out.trans (hb1.mono hle)⟩
 ·rw [decide_eq_false e1]
  have q1:=fun h=>e1 (ak.2 h)
  clear e1
  go_enter func148,ntmps148
  go_wp2
  go_ret
  exact ⟨rfl,hba.out⟩
end Go.Proofs.YtbbdhknagofghaaGreat
