import Derived.Test.YtijcdfdbkffiaaaGreatDoorCbp08
import Derived.Test.YtijcdfdbkffiaaaGreatDoorCbp09
import Derived.OwnWalkIn
import Derived.TacticsInMore
import Derived.LoopNIn
import Derived.Shelf.AbstractIn
set_option linter.all false
set_option maxHeartbeats 4000000
set_option maxRecDepth 100000
open Go.Proofs.Tryz
namespace Go.Proofs.YtijcdfdbkffiaaaGreatDoor
open _root_.Nat renaming lt_of_lt_of_le→Hr, le_refl→Ht, le_trans→Hw, zero_le→Hz, le_of_lt→HL, lt_succ_self→HV, lt_trans→HW, zero_add→H3
open _root_.Go.RowKit.Below renaming refl→Hs
open _root_.Bool renaming false_and→Hu, true_and→Hx, and_eq_true→Hy, eq_iff_iff→HF, or_eq_true→HS
open _root_.Go.Calls renaming regrown_of→Hv
open _root_.List renaming getElem?_eq_getElem→HA, getElem?_toArray→HB, getElem?_cons_zero→HC, getElem?_cons_succ→HD, length_cons→HN, length_pos_iff→Ij
open _root_.Go.Sort renaming grow→HG
open _root_.Array renaming getElem?_eq_some_iff→Ir, getElem?_setIfInBounds→Iv
open Go.RowKit
def uT (t:Tk):List Value:=EJ t.kind ⟨t.s.toArray⟩ t.w t.n t.pl
theorem CG (t:Tk):(uT t).length=6:=rfl
theorem CH (t:Tk):∀ u∈uT t,u.oneCell'=true:=fun u hu=>by simp [uT,EJ] at hu;rcases hu with rfl|rfl|rfl|rfl|rfl|rfl<;>rfl
theorem zZ:(prog.info? 209).map (fun i=>(i.zero,i.size,i.bytes))=some (some (.agg #[.int .u8 0,.string ⟨#[]⟩,.int .i64 0,.int .u64 0,.int .u64 0,.int .i64 0]),6,56):=by kernel_rfl
def mU (w:World) (base:Nat) (v:Value) (l:List Tk):Prop:=w.ownsRow base 209 6 v l.length (l.flatMap uT)
theorem mU.nil_ (w:World) (base:Nat):mU w base (.slice none 0 0) []:=World.ownsRow_nil _ _ _ _
theorem mU.below {w w':World} {base C:Nat} {v:Value} {l:List Tk} (h:mU w base v l) (hb:Below C w w') (hC:w.heap.size≤C):mU w' base v l:=dO h hb hC
theorem mU.set {w:World} {base k i:Nat} {v u:Value} {l:List Tk} (h:mU w base v l) (hk:k<base):mU (w.setCell ⟨k,i,none⟩ u) base v l:=by
 refine ⟨h.1,?_⟩
 rcases h.2 with h2|⟨g,cap,cur,rfl,hg,hh,r⟩
 ·exact .inl h2
 ·exact .inr ⟨g,cap,cur,rfl,hg,(Below.heap_setCell _ _ _ _ (show g≠k by omega)).trans hh,r⟩
theorem mU.form {w:World} {base:Nat} {v:Value} {l:List Tk} (h:mU w base v l):∃ A cap,v=.slice A l.length cap:=by
 rcases h.2 with ⟨rfl,hz⟩|⟨g,cap,cur,rfl,_⟩
 ·exact ⟨none,0,by rw [hz]⟩
 ·exact ⟨_,_,rfl⟩
theorem qU {W:World} {base:Nat} {v:Value} {l:List Tk} (x:Tk) (hd:mU W base v l) (hb:base≤W.heap.size) (hz:l.length≤dX):
  ∃ v' w',(eh #[173,173] 173 #[v,.slice (some ⟨W.heap.size,0,none⟩) 1 1]).run prog (W.alloc (.cells (uT x).toArray 209))=.ok v' w'∧mU w' base v' (l++ [x])∧Below base W w'∧∀ k,k<W.heap.size→some k≠v.ownBlock→w'.heap[k]? =W.heap[k]? :=by
 unfold dX at hz
 obtain ⟨ii,hii,hzi0,hzi1,hzi2⟩:=info_parts zZ
 obtain ⟨v',w',hrun,h2,h3,_,_⟩:=run_append_own_at (P:=prog) (W.alloc (.cells (uT x).toArray 209)) base 173 173 209 ii _ 6 56 underlying173 hii hzi0 hzi1 hzi2 rfl (by omega) v l.length _ (World.ownsRow.alloc hd _) ⟨W.heap.size,0,none⟩ 1 1 (uT x) rfl (World.news_of_block (cs:=(uT x).toArray) (t:=209) (fr:=(0,0)) (heap_alloc_new W _)) (CH x) (by simp [maxLen];omega) (by omega) (by simp;omega)
 refine ⟨v',w',hrun,?_,(((Hs _ _).alloc hb _).grown h3 (by simp;omega) (fun g e=>(hd.lt g e).1)),fun k hk hne=> ?_⟩
 ·unfold mU
  simpa using h2
 ·rw [h3.block k (by simp;omega) hne]
  exact ((Hs W.heap.size W).alloc (Ht _) _).block k hk
def Cd:CR Tk:=fun _ _ cs t=>cs=uT t
theorem me:f7 Cd:=⟨fun h _=>h,fun h _=>h⟩
theorem mU.sl {w:World} {base:Nat} {v:Value} {l:List Tk} (h:mU w base v l):∃ A cap,v=.slice A l.length cap∧Sl 6 Cd w w.heap.size A l:=
 fK (f:=uT) CG (fun x _=>rfl) h
structure fB (W:World) (b:Nat) (s:ByteArray) (k:Nat) (v:Value):Prop where
 lt:b+3<W.heap.size
 c0:W.cell? ⟨b,0,none⟩=some (.string s)
 c1:W.cell? ⟨b+1,0,none⟩=some v
 e0:W.cell? ⟨b+2,0,none⟩=some (.int .i64 0)
 e1:W.cell? ⟨b+2,1,none⟩=some (.int .i64 0)
 e2:W.cell? ⟨b+2,2,none⟩=some (.int .i64 0)
 c3:W.cell? ⟨b+3,0,none⟩=some (.int .i64 (k:Int))
 f1:W.frozen? ⟨b+1,0,none⟩=false
 g0:W.frozen? ⟨b+2,0,none⟩=false
 g1:W.frozen? ⟨b+2,1,none⟩=false
 g2:W.frozen? ⟨b+2,2,none⟩=false
 f3:W.frozen? ⟨b+3,0,none⟩=false
theorem fB.below {W W':World} {b B k:Nat} {s:ByteArray} {v:Value} (h:fB W b s k v) (hb:Below B W W') (hB:b+3<B):fB W' b s k v:=by
 have kk:=ae hb
 exact ⟨Hr h.lt hb.size,(kk.1 b 0 (by omega)).trans h.c0,(kk.1 (b+1) 0 (by omega)).trans h.c1,(kk.1 (b+2) 0 (by omega)).trans h.e0,(kk.1 (b+2) 1 (by omega)).trans h.e1,(kk.1 (b+2) 2 (by omega)).trans h.e2,(kk.1 (b+3) 0 (by omega)).trans h.c3,(kk.2 (b+1) 0 (by omega)).trans h.f1,(kk.2 (b+2) 0 (by omega)).trans h.g0,(kk.2 (b+2) 1 (by omega)).trans h.g1,(kk.2 (b+2) 2 (by omega)).trans h.g2,(kk.2 (b+3) 0 (by omega)).trans h.f3⟩
theorem fB.setK {W:World} {b k:Nat} {s:ByteArray} {v:Value} (h:fB W b s k v) (k':Nat):fB (W.setCell ⟨b+3,0,none⟩ (.int .i64 (k':Int))) b s k' v:=by
 obtain ⟨lt,c0,c1,e0,e1,e2,c3,f1,g0,g1,g2,f3⟩:=h
 refine ⟨by rw [aw];exact lt,?_,?_,?_,?_,?_,?_,?_,?_,?_,?_,?_⟩<;>simp [go_sem,c0,c1,e0,e1,e2,c3,f1,g0,g1,g2,f3]
theorem fB.setV {W:World} {b k:Nat} {s:ByteArray} {v:Value} (h:fB W b s k v) (v':Value):fB (W.setCell ⟨b+1,0,none⟩ v') b s k v':=by
 obtain ⟨lt,c0,c1,e0,e1,e2,c3,f1,g0,g1,g2,f3⟩:=h
 refine ⟨by rw [aw];exact lt,?_,?_,?_,?_,?_,?_,?_,?_,?_,?_,?_⟩<;>simp [go_sem,c0,c1,e0,e1,e2,c3,f1,g0,g1,g2,f3]
def FI (b:Nat) (W:World):Nat:=match W.cell? ⟨b+3,0,none⟩ with|some v=>(intOf v).toNat|none=>0
theorem fB.kOf {W:World} {b k:Nat} {s:ByteArray} {v:Value} (h:fB W b s k v):FI b W=k:=by
 unfold YtijcdfdbkffiaaaGreatDoor.FI
 rw [h.c3];rfl
theorem Sl.tok {w:World} {B:Nat} {A:Option Addr} {xs:List Tk} (h:Sl 6 Cd w B A xs) {i:Nat} (hi:i<xs.length):∃ b o,A=some ⟨b,o,none⟩∧b<B∧
  w.cell? ⟨b,o+i*6,none⟩=some (.int .u8 (xs[i].kind:Int))∧w.cell? ⟨b,o+i*6+1,none⟩=some (.string ⟨xs[i].s.toArray⟩)∧w.cell? ⟨b,o+i*6+2,none⟩=some (.int .i64 (xs[i].w:Int))∧w.cell? ⟨b,o+i*6+3,none⟩=some (.int .u64 ((xs[i].n / 18446744073709551616:Nat):Int))∧w.cell? ⟨b,o+i*6+4,none⟩=some (.int .u64 ((xs[i].n % 18446744073709551616:Nat):Int))∧w.cell? ⟨b,o+i*6+5,none⟩=some (.int .i64 (xs[i].pl:Int)):=by
 obtain ⟨b,o,cs,hA,hb,-,hc,hR⟩:=h.2 i _ (HA hi)
 have hR':cs=uT xs[i]:=hR
 subst hR'
 refine ⟨b,o,hA,hb,by simpa using hc 0 _ rfl,hc 1 _ rfl,hc 2 _ rfl,hc 3 _ rfl,hc 4 _ rfl,hc 5 _ rfl⟩
section
open Go Go.RowKit
section
variable {P:Program} {ops:Array Oper} {md:Region.Mode} {C:World→Prop}
def qV (P:Program) (md:Region.Mode) (ops:Array Oper) (C:World→Prop) (n:Nat) (L:Array Bool→Act→Prop):Nat→Array Bool→Act→Prop
 |0,listed,a=>L listed a
 |f+1,listed,a=>Region.ready md ops listed≠ []∧∀ i∈Region.ready md ops listed,i<n∧qOp P ops C i (qV P md ops C n L f (listed.setIfInBounds i true)) a
theorem gC {n g:Nat} {L:Array Bool→Act→Prop} {Q:Exit→Act→World→Prop} (hL:∀ listed a w,C w→L listed a→wpAny P md ops Q g listed a w):
  ∀ (f:Nat) (listed:Array Bool) (a:Act) (w:World),C w→qV P md ops C n L f listed a→wpAny P md ops Q (f+g) listed a w
 |0,listed,a,w,hw,h=>by rw [H3];exact hL _ _ _ hw h
 |f+1,listed,a,w,hw,h=>by
  rw [Nat.add_right_comm]
  exact ⟨fun h0=>absurd h0 h.1,fun i hi=>wpOp_of_qOp hw (fun a' w' hw' h'=>gC hL f _ a' w' hw' h') (h.2 i hi).2⟩
theorem qW {n i:Nat} {oi:Oper} {v:Value} {L:Array Bool→Act→Prop} (hi:ops[i]? =some oi) (hsel:∀ (j:Nat) (o:Oper) cs b,ops[j]? =some o→o.op≠ .select cs b)
  (hs:Region.sinkB md ops n=true) (hc:Region.chainB md ops n=true) (hn:n<ops.size) (hin:i<n) (hdone:∀ listed a,L listed a→∀ j∈Region.ready md ops listed,n≤j):
  ∀ (f:Nat) (listed:Array Bool) (a:Act),HeadInv md ops n listed→
   (∀ j oj,ops[j]? =some oj→j≠i→listed.getD j true=false→(∀ e∈oj.after,Region.binds md e=true→e.on≠i)→oi.apart ops oj=true)→
   i∈Region.ready md ops listed→YieldsIn P ops C oi v a→qV P md ops C n L f (listed.setIfInBounds i true) (a.put oi.dst v)→qV P md ops C n L (f+1) listed a:=by
 intro f
 induction f with
 |zero=>
  intro listed a inv _ hr hy H
  refine ⟨fun h=>(by rw [h] at hr;cases hr),fun j hj=> ?_⟩
  have hjn:j<n:=Nat.lt_of_not_le fun h=>tail_waits hs hc hn inv _ i rfl hin (mem_ready.1 hr).1 j h hj
  by_cases e:j=i
  ·subst e;exact ⟨hjn,hy.qOp hi H⟩
  ·exact absurd (hdone _ _ H j (ready_mono hj e)) (by omega)
 |succ f ih=>
  intro listed a inv hfree hr hy H
  have hun:=(mem_ready.1 hr).1
  refine ⟨fun h=>(by rw [h] at hr;cases hr),fun j hj=> ?_⟩
  have hjn:j<n:=Nat.lt_of_not_le fun h=>tail_waits hs hc hn inv _ i rfl hin hun j h hj
  by_cases e:j=i
  ·subst e;exact ⟨hjn,hy.qOp hi H⟩
  ·refine ⟨hjn,?_⟩
   obtain ⟨hjun,oj,hoj,hall⟩:=mem_ready.1 hj
   have hnot:∀ x∈oj.after,Region.binds md x=true→x.on≠i:=fun x hx hb he=>by
    have h1:=hall x hx hb
    rw [he,getD_both hun] at h1
    cases h1
   refine qOp_mono (fun a' h3=>ih _ a' (inv.set hj hjn) (fun k ok hk hki hu hno=>hfree k ok hk hki ?_ hno) (ready_mono hr (Ne.symm e)) h3.1 ?_)
    (qOp_put hoj (hfree j oj hoj e hjun hnot) (fun cs b=>hsel i oi cs b hi) (fun cs b=>hsel j oj cs b hoj) hy (H.2 j (ready_mono hj e)).2)
   ·by_cases ejk:j=k
    ·subst ejk;exact hjun
    ·rw [getD_set_ne true ejk] at hu;exact hu
   ·rw [Array.setIfInBounds_comm _ _ e]
    exact h3.2
theorem od {n g:Nat} {T:Act→Prop} (hsel:Region.noSelect ops=true) (hs:Region.sinkB md ops n=true) (hc:Region.chainB md ops n=true) (hn:n<ops.size):
  ∀ (l:List Oper) (k:Nat) (listed:Array Bool) (a:Act),(∀ j,j<l.length→l[j]? =ops[k+j]?)→k+l.length=n→HeadInv md ops n listed→Region.lexHead md ops g l.length k listed=true→wpQuiet P ops C T l a→
   qV P md ops C n (fun x y=>Region.seqB md ops g n x=true∧T y) l.length listed a
 | [],k,listed,a,_,hk,_,hB,h=>by
  obtain rfl:k=n:=by simpa using hk
  exact ⟨by simpa [Region.lexHead] using hB,h⟩
 |o::l,k,listed,a,hl,hk,inv,hB,h=>by
  have h0:ops[k]? =some o:=by simpa using (hl 0 (by simp)).symm
  simp only [HN,Region.lexHead,Hy] at hB
  rw [HN] at hk
  have hr:k∈Region.ready md ops listed:=by simpa using hB.1.1
  obtain ⟨v,hy,hK⟩:=yieldsIn_of_qOp h0 (show qOp P ops C k (wpQuiet P ops C T l) a from by unfold qOp;simp only [h0];exact h)
  exact qW h0 (Region.noSelect_spec hsel) hs hc hn (by omega) (fun _ _ hL=>seqB_ready hL.1) l.length listed a inv (Region.free_spec h0 hB.1.2) hr hy
   (od hsel hs hc hn l (k+1) _ _ (fun j hj=>by have:=hl (j+1) (by simpa using hj);simpa [Nat.add_assoc,Nat.add_comm 1 j] using this) (by omega) (inv.set hr (by omega)) hB.2 hK)
end
theorem dZ {P:Program} {id:Nat} {Q:Exit→Act→World→Prop} {a:Act} {w:World} {l:List Oper} (n:Nat) (hm:P.follows .mixedOrders=true) (hB:Region.lexTailB .any l.toArray n=true)
  (h:wpQuiet P l.toArray (fun w'=>∃ p:Regrown,w'=HG (redrawn w p.d) p.os) (fun a'=>∀ w',Below w.heap.size w w'→wpList P l.toArray Q (l.drop n) a' w') (l.take n) a):(Code.region id l.toArray true).wp P Q a w:=by
 simp only [Region.lexTailB,Hy,decide_eq_true_eq] at hB
 obtain ⟨⟨⟨⟨hsel,hn⟩,hs⟩,hc⟩,hlex⟩:=hB
 have htl:(l.take n).length=n:=by simp at hn ⊢;omega
 have hdl:(l.drop n).length=l.toArray.size-n:=by simp
 have inv0:HeadInv .any l.toArray n (Array.replicate l.toArray.size false):=
  ⟨by simp,fun j oj _ hl=>(by rw [getD_replicate_false] at hl;cases hl),fun t _ ht=>getD_in (by simpa using ht) (getD_replicate_false _ _)⟩
 refine wp_region_any hm ?_
 have H:=od (md:=.any) (g:=l.toArray.size-n) hsel hs hc hn (l.take n) 0 _ a (fun j hj=>by rw [htl] at hj;simp [hj]) (by simpa using htl) inv0 (by rw [htl];exact hlex) h
 have:=gC (Q:=Q) (g:=l.toArray.size-n) (fun listed a' w' hw hL=>by
  have:=wpAny_of_seq (md:=.any) (Q':=Q) (l.drop n) n listed a' w' (fun j=>by simp [List.getElem?_drop]) (by rw [hdl];exact hL.1) (hL.2 w' (ac hw))
  rwa [hdl] at this) _ _ _ { w with drawn:=w.drawn+1} ⟨⟨w.drawn+1,#[]⟩,by rw [Go.Sort.grow_empty];rfl⟩ H
 rwa [htl,show n+(l.toArray.size-n)=l.toArray.size by omega] at this
end
section
attribute [local go_sem] run_panic_iface
def aE (g:Nat) (w w':World):Prop:=w.grownBy w' (some g)
theorem aE.refl (g:Nat) (w:World):aE g w w:=⟨rfl,rfl,rfl,Ht _,fun _ _ _=>rfl⟩
theorem aE.trans {g:Nat} {a b c:World} (h:aE g a b) (h':aE g b c):aE g a c:=⟨h'.os.trans h.os,h'.tape.trans h.tape,h'.output.trans h.output,Hw h.size h'.size,fun k hk hn=>(h'.block k (Hr hk h.size) hn).trans (h.block k hk hn)⟩
theorem aE.of {g:Nat} {a b:World} (h:Below a.heap.size a b):aE g a b:=⟨h.os,h.tape,h.output,h.size,fun k hk _=>h.block k hk⟩
theorem aE.set (g:Nat) (w:World) (i:Nat) (v:Value):aE g w (w.setCell ⟨g,i,none⟩ v):=⟨rfl,rfl,rfl,by simp,fun k _ hn=>Below.heap_setCell w ⟨g,i,none⟩ v k (by show k≠g;intro e;subst e;exact hn rfl)⟩
theorem aE.below {g B:Nat} {a b:World} (h:aE g a b) (hB:B≤g) (hs:B≤a.heap.size):Below B a b:=⟨h.os,h.tape,h.output,h.size,fun k hk=>h.block k (Hr hk hs) (by simp;omega)⟩
theorem aE.cell {g k i:Nat} {a b:World} (h:aE g a b) (hk:k<a.heap.size) (hn:k≠g):b.cell? ⟨k,i,none⟩=a.cell? ⟨k,i,none⟩:=World.cell?_of_block (h.block k hk (by simp;exact hn))
theorem aE.frozen {g k i:Nat} {a b:World} (h:aE g a b) (hk:k<a.heap.size) (hn:k≠g):b.frozen? ⟨k,i,none⟩=a.frozen? ⟨k,i,none⟩:=World.frozen?_of_block (h.block k hk (by simp;exact hn))
abbrev iF (t:Tk):Value:=.agg #[.int .u8 (t.kind:Int),.string ⟨t.s.toArray⟩,.int .i64 (t.w:Int),.int .u64 ((t.n / 18446744073709551616:Nat):Int),.int .u64 ((t.n % 18446744073709551616:Nat):Int),.int .i64 (t.pl:Int)]
theorem bL (W:World) (c0 c2 c3 c4 c5:Int) (s:ByteArray):∃ wa,W.alloc (.cells #[.int .u8 c0,.string s,.int .i64 c2,.int .u64 c3,.int .u64 c4,.int .i64 c5] 209)=wa∧Hid (Below W.heap.size W wa)∧Hid (wa.heap.size=W.heap.size+1)∧W.heap.size<wa.heap.size∧wa.cell? ⟨W.heap.size,0,none⟩=some (.int .u8 c0)∧wa.cell? ⟨W.heap.size,1,none⟩=some (.string s)∧wa.cell? ⟨W.heap.size,2,none⟩=some (.int .i64 c2)∧wa.cell? ⟨W.heap.size,3,none⟩=some (.int .u64 c3)∧wa.cell? ⟨W.heap.size,4,none⟩=some (.int .u64 c4)∧wa.cell? ⟨W.heap.size,5,none⟩=some (.int .i64 c5):=by
 obtain ⟨wa,hwa,hsa,hba,hca,hfa⟩:=af W #[.int .u8 c0,.string s,.int .i64 c2,.int .u64 c3,.int .u64 c4,.int .i64 c5] 209
 exact ⟨wa,hwa,aa hba,aa hsa,by omega,hca 0,hca 1,hca 2,hca 3,hca 4,hca 5⟩
end
section
attribute [local go_sem] run_panic_iface
theorem aE.setNew {g r i:Nat} {w W:World} (h:aE g w W) (hr:w.heap.size≤r) (v:Value):aE g w (W.setCell ⟨r,i,none⟩ v):=
 ⟨h.os,h.tape,h.output,by rw [aw];exact h.size,fun k hk hn=>(Below.heap_setCell W ⟨r,i,none⟩ v k (by show k≠r;omega)).trans (h.block k hk hn)⟩
end
section
attribute [local go_sem] run_panic_iface
def bq (w:World) (g:Nat) (l:List Tk) (V:Array Value):Prop:=
 eL l∧V.size=13∧∃ A cap,l.length≤cap∧cap≤maxLen∧w.heap[g]? =some (.cells (V.push (.slice A l.length cap)) 181 (0,0))∧Sl 6 Cd w g A l
theorem bq.lt {w:World} {g:Nat} {l:List Tk} {V:Array Value} (h:bq w g l V):g<w.heap.size:=by
 obtain ⟨-,-,A,cap,-,-,h,-⟩:=h
 exact (Ir.1 h).1
theorem bq.below {w w':World} {B g:Nat} {l:List Tk} {V:Array Value} (h:bq w g l V) (hb:Below B w w') (hB:g<B):bq w' g l V:=by
 obtain ⟨h0,hv,A,cap,h1,h2,h3,h4⟩:=h
 exact ⟨h0,hv,A,cap,h1,h2,(hb.block g hB).trans h3,h4.keep me fun q hq=>hb.cell (HW hq hB)⟩
theorem bq.cellV {w:World} {g:Nat} {l:List Tk} {V:Array Value} (h:bq w g l V) {i:Nat} (hi:i<13):w.cell? ⟨g,i,none⟩=V[i]? :=by
 obtain ⟨h0,hv,A,cap,h1,h2,h3,h4⟩:=h
 simp [World.cell?,h3,Array.getElem?_push,hv,show i≠13 by omega]
structure G5 (w:World) (g:Nat) (l:List Tk) (b o cap:Nat):Prop where
 lt:g<w.heap.size
 bg:b<g
 pos:0<l.length
 le:l.length≤cap
 ml:cap≤9223372036854775807
 c0:w.cell? ⟨g,13,none⟩=some (.slice (some ⟨b,o,none⟩) l.length cap)
 f0:w.frozen? ⟨g,13,none⟩=false
 k0:w.cell? ⟨b,o,none⟩=some (.int .u8 ((ag l).kind:Int))
 k1:w.cell? ⟨b,o+1,none⟩=some (.string ⟨(ag l).s.toArray⟩)
 k2:w.cell? ⟨b,o+2,none⟩=some (.int .i64 ((ag l).w:Int))
 k3:w.cell? ⟨b,o+3,none⟩=some (.int .u64 (((ag l).n / 18446744073709551616:Nat):Int))
 k4:w.cell? ⟨b,o+4,none⟩=some (.int .u64 (((ag l).n % 18446744073709551616:Nat):Int))
 k5:w.cell? ⟨b,o+5,none⟩=some (.int .i64 ((ag l).pl:Int))
theorem bq.open_ {w:World} {g:Nat} {l:List Tk} {V:Array Value} (h:bq w g l V):∃ b o cap,G5 w g l b o cap:=by
 have hlt:=h.lt
 obtain ⟨h0,hv,A,cap,h1,h2,h3,h4⟩:=h
 have hp:=Ij.2 h0.ne
 obtain ⟨b,o,rfl,hb,a0,a1,a2,a3,a4,a5⟩:=h4.tok hp
 have hh:l[0]=ag l:=by
  cases l with
  |nil=>simp at hp
  |cons a r=>rfl
 rw [hh] at a0 a1 a2 a3 a4 a5
 refine ⟨b,o,cap,hlt,hb,hp,h1,h2,?_,?_,by simpa using a0,by simpa using a1,by simpa using a2,by simpa using a3,by simpa using a4,by simpa using a5⟩
 ·have:(V.push (.slice (some ⟨b,o,none⟩) l.length cap))[13]? =some (.slice (some ⟨b,o,none⟩) l.length cap):=by rw [Array.getElem?_push,if_pos hv.symm]
  rw [World.cell?,h3]
  simpa using this
 ·simp [World.frozen?,h3]
abbrev G6 (x:Int×Nat):Ending:=.panicked [{ v:=.iface 177 (.agg #[.int .i64 x.1,.int .i64 (x.2:Int)]),recovered:=false}]
theorem bi (t:Tk) (n:Int) (w:World):Calls prog 163 #[.bool true,iF t,.int .i64 n] w fun e w'=>e=.returned (.tuple #[])∧Below w.heap.size w w':=by
 go_enter func163,ntmps163
 go_wp2
 first|(go_end0;exact ⟨rfl,(Hs _ _).alloc (Ht _) _⟩)|skip
theorem tB (x:ByteArray) {w:World} {g:Nat} {l:List Tk} {V:Array Value} (h:bq w g l V):Calls prog 192 #[.pointer (some ⟨g,0,none⟩),.string x] w fun e w'=>e=.returned (.bool (cD x.data.toList l))∧Below w.heap.size w w':=by
 obtain ⟨b,o,cap,lt,bg,pos,le,ml,c0,f0,k0,k1,k2,k3,k4,k5⟩:=h.open_
 have hv:=aa (show cD x.data.toList l=((ag l).s==x.data.toList&&((ag l).kind==3 ||(ag l).kind==1)) from rfl)
 generalize cD x.data.toList l=RES at hv ⊢
 clear h
 have hbl:b<w.heap.size:=by omega
 have lz:(0:Int)<(l.length:Int):=by omega
 generalize ag l=t at k0 k1 k2 k3 k4 k5 hv
 obtain ⟨k,s,wd,m,pl⟩:=t
 simp only at k0 k1 k2 k3 k4 k5 hv
 obtain ⟨S,hS⟩:∃ S:ByteArray,S=⟨s.toArray⟩:=⟨_,rfl⟩
 have hsS:s=S.data.toList:=by rw [hS]
 rw [←hS] at k1
 rw [hsS] at hv
 clear hS hsS
 obtain ⟨wa,hwa,hba,hsa,hl,x0,x1,x2,x3,x4,x5⟩:=bL w k wd ((m:Int) / 18446744073709551616) ((m:Int) % 18446744073709551616) pl S
 have hr:RES=(decide (S=x)&&(decide (k=3) ||decide (k=1))):=by
  rw [hv.out]
  congr 1
  rw [HF,beq_iff_eq,decide_eq_true_eq]
  exact ⟨fun e=>Go.WideShapes.bytes_inj (by rw [e]),fun e=>by rw [e]⟩
 replace hr:=aa hr
 clear hv
 go_enter func192,ntmps192
 by_cases hs:S=x
 focus
  have hq:=sG hs
  by_cases h3:k=3
  have e3:((k:Int)==3)=true:=by rw [beq_iff_eq];omega
  have hf:RES=true:=by rw [hr.out];simp [hs,h3]
  clear hs h3
  rotate_right
  focus
   have e3:((k:Int)==3)=false:=by rw [beq_eq_false_iff_ne];omega
   by_cases h1:k=1
   have e1:((k:Int)==1)=true:=by rw [beq_iff_eq];omega
   have hf:RES=true:=by rw [hr.out];simp [hs,h1]
   clear hs h3 h1
   rotate_right
   have e1:((k:Int)==1)=false:=by rw [beq_eq_false_iff_ne];omega
   have hf:RES=false:=by rw [hr.out];simp [h3,h1]
   clear hs h3 h1
 rotate_right
 have hq:=sH hs
 have hf:RES=false:=by rw [hr.out];simp [hs]
 clear hs
 all_goals
  subst hf
  go_wp2
  go_ret
  exact ⟨rfl,hba.out⟩
end
section
attribute [local go_sem] run_panic_iface
theorem bq.setNew {g r i:Nat} {W:World} {l:List Tk} {V:Array Value} (h:bq W g l V) (hr:g<r) (v:Value):bq (W.setCell ⟨r,i,none⟩ v) g l V:=
 h.below (B:=g+1) ((Hs _ _).setCell (by show g+1≤r;omega) _) (HV _)
theorem uU {g r:Nat} {w W:World} {l:List Tk} {V:Array Value} (hG:aE g w W) (hR:bq W g l V) (hr:w.heap.size≤r) (hg:g<r) (a0 a1 a2 a3 a4 a5:Value):
  aE g w ((((((W.setCell ⟨r,0,none⟩ a0).setCell ⟨r,1,none⟩ a1).setCell ⟨r,2,none⟩ a2).setCell ⟨r,3,none⟩ a3).setCell ⟨r,4,none⟩ a4).setCell ⟨r,5,none⟩ a5)∧bq ((((((W.setCell ⟨r,0,none⟩ a0).setCell ⟨r,1,none⟩ a1).setCell ⟨r,2,none⟩ a2).setCell ⟨r,3,none⟩ a3).setCell ⟨r,4,none⟩ a4).setCell ⟨r,5,none⟩ a5) g l V:=
 ⟨(((((hG.setNew hr _).setNew hr _).setNew hr _).setNew hr _).setNew hr _).setNew hr _,(((((hR.setNew hg _).setNew hg _).setNew hg _).setNew hg _).setNew hg _).setNew hg _⟩
theorem bq.step {w:World} {g b o cap:Nat} {l:List Tk} {V:Array Value} (h:bq w g l V) (hO:w.cell? ⟨g,13,none⟩=some (.slice (some ⟨b,o,none⟩) l.length cap)) (hk:(ag l).kind≠0):
  bq (w.setCell ⟨g,13,none⟩ (.slice (some ⟨b,o+6,none⟩) (l.length-1) (cap-1))) g (ai l) V:=by
 have hA:=gP h.1 hk
 have hd:ai l=l.tail:=by unfold ai;rw [if_neg hk]
 obtain ⟨h0,hv,A,cap',h1,h2,h3,h4⟩:=h
 have hc:A=some ⟨b,o,none⟩∧cap'=cap:=by
  have h13:(V.push (.slice A l.length cap'))[13]? =some (.slice A l.length cap'):=by rw [Array.getElem?_push,if_pos hv.symm]
  have h14:w.cell? ⟨g,13,none⟩=(V.push (.slice A l.length cap'))[13]? :=by simp [World.cell?,h3]
  rw [h14,h13] at hO
  injection hO with hO
  injection hO with e1 e2 e3
  exact ⟨e1,e3⟩
 obtain ⟨rfl,rfl⟩:=hc
 refine ⟨h0.adv,hv,some ⟨b,o+6,none⟩,cap'-1,by omega,by omega,?_,?_⟩
 ·have:(w.setCell ⟨g,13,none⟩ (.slice (some ⟨b,o+6,none⟩) (l.length-1) (cap'-1))).heap[g]? =some (.cells ((V.push (.slice (some ⟨b,o,none⟩) l.length cap')).setIfInBounds 13 (.slice (some ⟨b,o+6,none⟩) (l.length-1) (cap'-1))) 181 (0,0)):=by
   simp [World.setCell,Array.getElem?_modify,h3]
  rw [this,show (ai l).length=l.length-1 by omega]
  congr 2
  apply Array.ext_getElem?
  intro i
  rw [Iv,Array.getElem?_push,Array.getElem?_push,hv]
  by_cases hi:13=i
  ·subst hi;simp [hv]
  ·simp [hi,Ne.symm hi,show ¬i=13 by omega]
 ·have h5:Sl 6 Cd w g (some ⟨b,o+6,none⟩) (ai l):=by
   rw [hd]
   refine ⟨by rw [List.length_tail];have:=h4.1;omega,fun i x hx=> ?_⟩
   rw [List.getElem?_tail] at hx
   obtain ⟨b',o',ecs,e1,e2,e3,e4,e5⟩:=h4.2 (i+1) x hx
   injection e1 with e1
   injection e1 with e1 e6 e7
   subst e1 e6
   refine ⟨b,o+6,ecs,rfl,e2,e3,fun j u hu=> ?_,e5⟩
   have:=e4 j u hu
   rw [show o+6+i*6+j=o+(i+1)*6+j by omega]
   exact this
  exact h5.keep me fun q hq=>World.cell?_of_block (Below.heap_setCell w ⟨g,13,none⟩ _ q.block (by show q.block≠g;omega))
theorem iY {w:World} {g:Nat} {l:List Tk} {V:Array Value} (h:bq w g l V):Calls prog 187 #[.pointer (some ⟨g,0,none⟩)] w fun e w'=>e=.returned (iF (ag l))∧aE g w w'∧bq w' g (ai l) V:=by
 obtain ⟨b,o,cap,hO⟩:=h.open_
 obtain ⟨lt,bg,pos,le,ml,c0,f0,k0,k1,k2,k3,k4,k5⟩:=hO
 obtain ⟨wa,hwa,hba,hsa,hla,z0,z1,z2,z3,z4,z5⟩:=bL w 0 0 0 0 0 ⟨#[]⟩
 have hfa:∀ i,wa.frozen? ⟨w.heap.size,i,none⟩=false:=by intro i;rw [←hwa];exact World.frozen?_alloc_at _ _ _ _ rfl
 have kk:=ae hba.out
 have d0:=(kk.1 g 13 lt).trans c0
 have e0:=(kk.2 g 13 lt).trans f0
 have hbl:b<w.heap.size:=by omega
 have q0:=(kk.1 b o hbl).trans k0
 have q1:=(kk.1 b (o+1) hbl).trans k1
 have q2:=(kk.1 b (o+2) hbl).trans k2
 have q3:=(kk.1 b (o+3) hbl).trans k3
 have q4:=(kk.1 b (o+4) hbl).trans k4
 have q5:=(kk.1 b (o+5) hbl).trans k5
 have hRa:=h.below hba.out lt
 have hGa:=aE.of (g:=g) hba.out
 have hlg:g<wa.heap.size:=by omega
 have hlb:b<wa.heap.size:=by omega
 have lz:(0:Int)<(l.length:Int):=by omega
 have hk1:(ag l).kind≠0→2≤cap:=fun hk=>by
  have h1:=gP h.1 hk
  have h2:=Ij.2 h.1.adv.ne
  omega
 have hadv0:(ag l).kind=0→ai l=l:=fun hk=>by unfold ai;rw [if_pos hk]
 have hstep:=fun (W:World) (hW:bq W g l V) (hc:W.cell? ⟨g,13,none⟩=some (.slice (some ⟨b,o,none⟩) l.length cap)) (hk:(ag l).kind≠0)=>hW.step hc hk
 clear k0 k1 k2 k3 k4 k5 c0 f0 kk
 generalize ag l=t at q0 q1 q2 q3 q4 q5 hk1 hadv0 hstep ⊢
 obtain ⟨k,s,wd,m,pl⟩:=t
 simp only at q0 q1 q2 q3 q4 q5 hk1 hadv0 hstep
 unfold iF
 simp only
 generalize (⟨s.toArray⟩:ByteArray)=S at q1 ⊢
 generalize ((m / 18446744073709551616:Nat):Int)=hi at q3 ⊢
 generalize ((m % 18446744073709551616:Nat):Int)=lo at q4 ⊢
 obtain ⟨wb,hwb,hbb,hsb,hlb2,x0,x1,x2,x3,x4,x5⟩:=bL wa k wd hi lo pl S
 have kb:=ae hbb.out
 have d0':=(kb.1 g 13 hlg).trans d0
 have e0':=(kb.2 g 13 hlg).trans e0
 have hRb:=hRa.below hbb.out hlg
 have hGb:=hGa.trans (aE.of (g:=g) hbb.out)
 have y0:=(kb.1 w.heap.size 0 hla).trans z0
 have y1:=(kb.1 w.heap.size 1 hla).trans z1
 have y2:=(kb.1 w.heap.size 2 hla).trans z2
 have y3:=(kb.1 w.heap.size 3 hla).trans z3
 have y4:=(kb.1 w.heap.size 4 hla).trans z4
 have y5:=(kb.1 w.heap.size 5 hla).trans z5
 have g0:=(kb.2 w.heap.size 0 hla).trans (hfa 0)
 have g1:=(kb.2 w.heap.size 1 hla).trans (hfa 1)
 have g2:=(kb.2 w.heap.size 2 hla).trans (hfa 2)
 have g3:=(kb.2 w.heap.size 3 hla).trans (hfa 3)
 have g4:=(kb.2 w.heap.size 4 hla).trans (hfa 4)
 have g5:=(kb.2 w.heap.size 5 hla).trans (hfa 5)
 have hgn:g≠w.heap.size:=by omega
 have hwn:w.heap.size≠g:=by omega
 have hlw:w.heap.size<wb.heap.size:=by omega
 have hlg2:g<wb.heap.size:=by omega
 have hpre:=aa hRb
 have hGp:=aa hGb
 have hstep':=aa (hstep wb hRb d0')
 clear h hRa hGa hRb hGb kb z0 z1 z2 z3 z4 z5 hfa hstep hba hbb
 go_enter func187,ntmps187
 by_cases hk:k=0
 ·have ek:((k:Int) !=0)=false:=by simp [hk]
  have ha:=aa (hadv0 hk)
  clear hk hk1 hadv0 hstep'
  go_wp2
  obtain ⟨r1,r2⟩:=uU (r:=w.heap.size) hGp.out hpre.out (Ht _) lt (.int .u8 (k:Int)) (.string S) (.int .i64 (wd:Int)) (.int .u64 hi) (.int .u64 lo) (.int .i64 (pl:Int))
  refine bodyPost_ret (v:=.agg #[.int .u8 (k:Int),.string S,.int .i64 (wd:Int),.int .u64 hi,.int .u64 lo,.int .i64 (pl:Int)]) (by simp [results,results187,go_sem,y0,y1,y2,y3,y4,y5]) rfl ⟨rfl,r1,?_⟩
  rw [ha.out]
  exact r2
 ·have ek:((k:Int) !=0)=true:=by simp;omega
  have hc2:=hk1 hk
  have hc1:¬cap=1:=by omega
  have hst:=aa (hstep'.out hk)
  have hz1:(1:Int)≤(l.length:Int):=by omega
  clear hk hk1 hadv0 hstep'
  go_wp2
  have hgs:=hGp.out.trans (aE.set g wb 13 (.slice (some ⟨b,o+6,none⟩) (l.length-1) (cap-1)))
  refine bodyPost_ret (v:=.agg #[.int .u8 (k:Int),.string S,.int .i64 (wd:Int),.int .u64 hi,.int .u64 lo,.int .i64 (pl:Int)]) (by simp [results,results187,go_sem,y0,y1,y2,y3,y4,y5,hgn,hwn]) rfl ⟨rfl,?_⟩
  exact uU (r:=w.heap.size) hgs hst.out (Ht _) lt (.int .u8 (k:Int)) (.string S) (.int .i64 (wd:Int)) (.int .u64 hi) (.int .u64 lo) (.int .i64 (pl:Int))
end
section
attribute [local go_sem] run_panic_iface
theorem EW {wa w2:World} {r g:Nat} (hG:aE g wa w2) (hr:r<wa.heap.size) (hn:r≠g) {v0 v1 v2 v3 v4 v5:Value} (z0:wa.cell? ⟨r,0,none⟩=some v0) (z1:wa.cell? ⟨r,1,none⟩=some v1) (z2:wa.cell? ⟨r,2,none⟩=some v2) (z3:wa.cell? ⟨r,3,none⟩=some v3) (z4:wa.cell? ⟨r,4,none⟩=some v4) (z5:wa.cell? ⟨r,5,none⟩=some v5) (hf:∀ i,wa.frozen? ⟨r,i,none⟩=false):
  w2.cell? ⟨r,0,none⟩=some v0∧w2.cell? ⟨r,1,none⟩=some v1∧w2.cell? ⟨r,2,none⟩=some v2∧w2.cell? ⟨r,3,none⟩=some v3∧w2.cell? ⟨r,4,none⟩=some v4∧w2.cell? ⟨r,5,none⟩=some v5∧∀ i,w2.frozen? ⟨r,i,none⟩=false:=
 ⟨(hG.cell hr hn).trans z0,(hG.cell hr hn).trans z1,(hG.cell hr hn).trans z2,(hG.cell hr hn).trans z3,(hG.cell hr hn).trans z4,(hG.cell hr hn).trans z5,fun i=>(hG.frozen hr hn).trans (hf i)⟩
end
theorem Ab {p:Lp} {l:List Int} {r:Rn} (h:eC p.acts r.act=none):dH p l r=false:=by unfold dH;rw [h]
theorem Ad {p:Lp} {l:List Int} {r:Rn} {a:sM} (h:eC p.acts r.act=some a):dH p l r=(decide (r.act∈l)&&dr ga r.args a.params):=by unfold dH;rw [h];rfl
theorem mg (A1 A2 A3 A4 A5 A6 A7 A8 A9 A10 A11 A12:Option Addr) (p:Lp) (c1 c2 c3 c4 c5 c6 c7 c8 c9 c10 c11 c12:Nat) (A' B:Option Addr) (cap' d:Nat) (l:List Int) (r:Rn) (w:World) (h:cz w w.heap.size A1 A2 A3 A4 A5 A6 A7 A8 A9 A10 A11 A12 p) (hl:Sl 1 bc w w.heap.size A' l) (hr:Sl 2 f8 w w.heap.size B r.args):
  Calls prog 99 #[.agg (aO A1 A2 A3 A4 A5 A6 A7 A8 A9 A10 A11 A12 p c1 c2 c3 c4 c5 c6 c7 c8 c9 c10 c11 c12),.slice A' l.length cap',.agg #[.int .i64 r.act,.slice B r.args.length d]] w fun e w'=>e=.returned (.bool (dH p l r))∧Below w.heap.size w w':=by
 unfold aO
 obtain ⟨act,args⟩:=r
 simp only at hr ⊢
 obtain ⟨wz,hwz,hsz,hbz,hcz,-⟩:=af w (aO A1 A2 A3 A4 A5 A6 A7 A8 A9 A10 A11 A12 p c1 c2 c3 c4 c5 c6 c7 c8 c9 c10 c11 c12) 33
 obtain ⟨wa,hwa,hsa,hba,hca,-⟩:=af wz #[.int .i64 act,.slice B args.length d] 47
 have y3:=(bj hba w.heap.size 3 (by omega)).trans (hcz 3)
 simp only [HB,HC,HD] at y3
 rw [hsz] at hca
 have x0:wa.cell? ⟨w.heap.size+1,0,none⟩=some (.int .i64 act):=hca 0
 have x1:wa.cell? ⟨w.heap.size+1,1,none⟩=some (.slice B args.length d):=hca 1
 have hl1:w.heap.size<wa.heap.size:=by omega
 have hl2:w.heap.size+1<wa.heap.size:=by omega
 have hw:Below w.heap.size w wa:=hbz.trans (hba.mono (by omega))
 have hA4:=aa ((h.acts.below gJ hw).more gJ hw.size)
 have hL:=aa ((hl.below ah hw).more ah hw.size)
 have hR:=aa ((hr.below aq hw).more aq hw.size)
 replace hw:=aa hw
 replace hsa:=aa hsa
 clear hca hcz hba hbz h hl hr
 go_enter func99,ntmps99
 rcases di p.acts act with ⟨k,rfl,hk,e1⟩|⟨e1,e2,e3⟩
 ·have hv:=aa (Ad (p:=p) (l:=l) (r:=⟨(k:Int),args⟩) e1)
  have e4:=eF hk
  have e5:((eC p.acts (k:Int)).map sM.params).getD []=p.acts[k].params:=by rw [e1];rfl
  have hAt:=o7 A4 c4 p.acts (k:Int) wa hA4.out
  rw [e4] at hAt
  simp only [e5] at hAt
  replace hAt:=aa hAt
  by_cases hm:(k:Int)∈l
  ·rw [decide_eq_true hm,Hx] at hv
   have hCt:=fun W (g:Sl 1 bc W W.heap.size A' l)=>dQ A' cap' l (k:Int) W g
   rw [decide_eq_true hm] at hCt
   clear hm
   generalize hG:dr ga args p.acts[k].params=G at hv
   go_wp2_with (first|(go_at_call 136;refine hAt.out.mono ?_;rintro e w3 ⟨A1',c1',A2',n2',c2',rfl,hs,hb3⟩;have kb3:=fd hb3;have hq:=Hr hl2 hb3.size;have hE:∀ o,Below wa.heap.size wa (w3.alloc o):=(fun o=>hb3.alloc hb3.size o);have hs3:=aa (fun o=>(hs.below ah (hE o)).more ah (hE o).size);have hL3:=aa (fun o=>(hL.out.below ah (hE o)).more ah (hE o).size);have hR3:=aa (fun o=>(hR.out.below aq (hE o)).more aq (hE o).size);replace hb3:=aa hE)|(go_at_call 137;refine (hCt _ (hL3.out _)).mono ?_;rintro e w' ⟨rfl,rfl⟩)|(go_at_call 138;refine (ti _ _ _ _ _ _ _ (hR3.out _) (hs3.out _)).mono ?_;rintro e w4 ⟨rfl,hb4⟩;rw [hG]))
   go_ret
   exact ⟨ad hv.out.symm,hw.out.trans (((hb3.out _).mono hw.out.size).trans (hb4.mono (Hw hw.out.size (hb3.out _).size)))⟩
  ·rw [decide_eq_false hm,Hu] at hv
   have hCt:=fun W (g:Sl 1 bc W W.heap.size A' l)=>dQ A' cap' l (k:Int) W g
   rw [decide_eq_false hm] at hCt
   clear hm
   go_wp2_with (first|(go_at_call 136;refine hAt.out.mono ?_;rintro e w3 ⟨A1',c1',A2',n2',c2',rfl,hs,hb3⟩;have kb3:=fd hb3;have hq:=Hr hl2 hb3.size;have hE:∀ o,Below wa.heap.size wa (w3.alloc o):=(fun o=>hb3.alloc hb3.size o);have hL3:=aa (fun o=>(hL.out.below ah (hE o)).more ah (hE o).size);replace hb3:=aa hE)|(go_at_call 137;refine (hCt _ (hL3.out _)).mono ?_;rintro e w' ⟨rfl,rfl⟩))
   go_ret
   exact ⟨ad hv.out.symm,hw.out.trans ((hb3.out _).mono hw.out.size)⟩
 ·have hv:=aa (Ab (p:=p) (l:=l) (r:=⟨act,args⟩) e1)
  have hAt:=o7 A4 c4 p.acts act wa hA4.out
  rw [e2] at hAt
  replace hAt:=aa hAt
  go_wp2_with (go_at_call 136;refine hAt.out.mono ?_;rintro e w3 ⟨A1',c1',A2',n2',c2',rfl,hs,hb3⟩;have hE:∀ o,Below wa.heap.size wa (w3.alloc o):=(fun o=>hb3.alloc hb3.size o);replace hb3:=aa hE)
  go_ret
  exact ⟨ad hv.out.symm,hw.out.trans ((hb3.out _).mono hw.out.size)⟩
theorem Sl.num {w:World} {B:Nat} {A:Option Addr} {xs:List (Int×Int)} (h:Sl 2 f8 w B A xs) {i:Nat} (hi:i<xs.length):∃ b o,A=some ⟨b,o,none⟩∧b<B∧w.cell? ⟨b,o+i*2,none⟩=some (.int .u64 xs[i].1)∧w.cell? ⟨b,o+i*2+1,none⟩=some (.int .u64 xs[i].2)∧aW xs[i].1∧aW xs[i].2:=by
 obtain ⟨b,o,ecs,hA,hb,hl,hc,rfl,h1,h2⟩:=h.2 i xs[i] (HA hi)
 exact ⟨b,o,hA,hb,hc 0 _ rfl,hc 1 _ rfl,h1,h2⟩
theorem Sl.act {w:World} {B:Nat} {A:Option Addr} {xs:List sM} (h:Sl 2 zp w B A xs) {i:Nat} (hi:i<xs.length):∃ b o A1 A2 c1 c2,A=some ⟨b,o,none⟩∧b<B∧w.cell? ⟨b,o+i*2,none⟩=some (.slice A1 xs[i].params.length c1)∧w.cell? ⟨b,o+i*2+1,none⟩=some (.slice A2 xs[i].body.length c2)∧Sl 1 bc w B A1 xs[i].params∧Sl 5 m7 w B A2 xs[i].body:=by
 obtain ⟨b,o,ecs,hA,hb,hl,hc,A1,A2,c1,c2,rfl,h1,h2⟩:=h.2 i xs[i] (HA hi)
 exact ⟨b,o,A1,A2,c1,c2,hA,hb,hc 0 _ rfl,hc 1 _ rfl,h1,h2⟩
theorem jV (A1 A2 A3 A4 A5 A6 A7 A8 A9 A10 A11 A12:Option Addr) (p:Lp) (c1 c2 c3 c4 c5 c6 c7 c8 c9 c10 c11 c12:Nat) (A' B:Option Addr) (cap' d:Nat) (l:List Int) (r:Rn) (w:World) (h:cz w w.heap.size A1 A2 A3 A4 A5 A6 A7 A8 A9 A10 A11 A12 p) (hl:Sl 1 bc w w.heap.size A' l) (hr:Sl 2 f8 w w.heap.size B r.args):
  Calls prog 54 #[.agg (aO A1 A2 A3 A4 A5 A6 A7 A8 A9 A10 A11 A12 p c1 c2 c3 c4 c5 c6 c7 c8 c9 c10 c11 c12),.slice A' l.length cap',.agg #[.int .i64 r.act,.slice B r.args.length d]] w fun e w'=>e=.returned (.bool (dH p l r))∧Below w.heap.size w w':=by
 unfold aO
 obtain ⟨act,args⟩:=r
 simp only at hr ⊢
 have lr:=hr.len
 have l4:=h.acts.len
 obtain ⟨wz,hwz,hsz,hbz,hcz,-⟩:=af w (aO A1 A2 A3 A4 A5 A6 A7 A8 A9 A10 A11 A12 p c1 c2 c3 c4 c5 c6 c7 c8 c9 c10 c11 c12) 33
 obtain ⟨wa,hwa,hsa,hba,hca,-⟩:=af wz #[.int .i64 act,.slice B args.length d] 47
 have y3:=(bj hba w.heap.size 3 (by omega)).trans (hcz 3)
 simp only [HB,HC,HD] at y3
 rw [hsz] at hca
 have x0:wa.cell? ⟨w.heap.size+1,0,none⟩=some (.int .i64 act):=hca 0
 have x1:wa.cell? ⟨w.heap.size+1,1,none⟩=some (.slice B args.length d):=hca 1
 have hl1:w.heap.size<wa.heap.size:=by omega
 have hl2:w.heap.size+1<wa.heap.size:=by omega
 have hw:Below w.heap.size w wa:=hbz.trans (hba.mono (by omega))
 have hA4:=aa ((h.acts.below gJ hw).more gJ hw.size)
 have hL:=aa ((hl.below ah hw).more ah hw.size)
 have hR:=aa ((hr.below aq hw).more aq hw.size)
 replace hw:=aa hw
 replace hsa:=aa hsa
 clear hca hcz hba hbz h hl hr
 go_enter func54,ntmps54
 rcases di p.acts act with ⟨k,rfl,hk,e1⟩|⟨e1,e2,e3⟩
 focus
  have hv:=aa (Ad (p:=p) (l:=l) (r:=⟨(k:Int),args⟩) e1)
  obtain ⟨b,o,A1',A2',c1',c2',rfl,hb,t0,t1,hs1,-⟩:=hA4.out.act hk
  have hkz:(k:Int)<(p.acts.length:Int):=by omega
  have d1:decide ((k:Int)<0)=false:=decide_eq_false (by omega)
  have d2:decide ((p.acts.length:Int)≤(k:Int))=false:=decide_eq_false (by omega)
  have d3:decide (p.acts.length≤k)=false:=decide_eq_false (by omega)
  have hCt:=aa (fun m=>lX A' cap' l (k:Int) (wa.drewN m) ((hL.out.drewN ah m).more ah (by simp)))
  have hwd:=aa (fun m=>hw.out.trans (au (Hs wa.heap.size wa|>.mono hw.out.size) m))
  have lp:=hs1.len
  by_cases hm:(k:Int)∈l
  ·rw [decide_eq_true hm] at hCt
   simp only [decide_eq_true hm,Hx] at hv
   clear hm
   by_cases he:args.length=p.acts[k].params.length
   ·have hez:((args.length:Int) !=(p.acts[k].params.length:Int))=false:=by rw [he];exact bne_self_eq_false _
    have hv2:=aa (show dr ga args p.acts[k].params=ar (fun i=>aZ (fun x=>aZ (ga x) p.acts[k].params i) args i) args.length from by unfold dr;rw [decide_eq_true he,Hx])
    replace he:=aa he
    generalize hF:(fun i=>aZ (fun x=>aZ (ga x) p.acts[k].params i) args i)=F at hv2
    go_wp2_with fail
    go_quiet ((go_at_call 104;with_reducible exact cZ (hCt.out _)))
    go_wp2
    clear hCt
    go_loopw [7] (fun i wr=>∃ n:Nat,n≤args.length∧i=.int .i64 n∧Hid (ar F n=true)∧Hid (Below wa.heap.size wa wr)) (fun i _=>args.length-(intOf i).toNat)
    case atStart=>exact ⟨0,Hz _,rfl,aa rfl,aa (au (Hs _ _) _)⟩
    case round=>
     obtain ⟨n,hn,rfl,hc,hbr⟩:=hrel
     have kbr:=ae hbr.out
     have hsr:=hbr.out.size
     have y3r:=(kbr.1 _ 3 hl1).trans y3
     have x0r:=(kbr.1 _ 0 hl2).trans x0
     have x1r:=(kbr.1 _ 1 hl2).trans x1
     have t0r:=(kbr.1 _ (o+k*2) hb).trans t0
     by_cases hlt:n<args.length
     ·have hlt':n<p.acts[k].params.length:=by have:=he.out;omega
      have hnz:(n:Int)<(args.length:Int):=by omega
      have hnz':(n:Int)<(p.acts[k].params.length:Int):=by omega
      obtain ⟨g,q,rfl,hg,n0,n1,u⟩:=hR.out.num hlt
      obtain ⟨g',q',rfl,hg',m0⟩:=hs1.int hlt'
      have n0r:=(kbr.1 _ (q+n*2) hg).trans n0
      have n1r:=(kbr.1 _ (q+n*2+1) hg).trans n1
      have m0r:=(kbr.1 _ (q'+n) hg').trans m0
      have hFn:F n=ga args[n] p.acts[k].params[n]:=by rw [←hF];simp only [am _ hlt,am _ hlt']
      have hK:=fun W=>fS args[n].1 args[n].2 p.acts[k].params[n] W u
      have hN:=aa (show ar F (n+1)=bJ p.acts[k].params[n] args[n].1 args[n].2 from by rw [ar,hc.out,Hx,hFn];rfl)
      have hlo:=aa (fun (g:bJ p.acts[k].params[n] args[n].1 args[n].2=false)=>show ar F args.length=false from ba hlt (by rw [hFn];exact g))
      generalize bJ p.acts[k].params[n] args[n].1 args[n].2=z at hK hN hlo
      replace hK:=aa hK
      clear hs1 hFn hF kbr n0 n1 m0 u
      have hX:∀ d os,Hid (Calls prog 107 #[.agg #[.int .u64 args[n].1,.int .u64 args[n].2],.int .i64 p.acts[k].params[n]] (HG (redrawn wr d) os) _):=fun d os=>aa (hK _)
      have hgw:=aS (show Below wr.heap.size wr wr from Hs _ _) (Ht _)
      have hB1:=Hr hl1 hsr
      have hB2:=Hr hl2 hsr
      have hB3:=Hr hb hsr
      have hB4:=Hr hg hsr
      have hB5:=Hr hg' hsr
      clear hK
      cases z with
      |false=>
       replace hlo:=aa (hlo.out rfl)
       go_wp2_with fail
       refine cR ?_
       repeat (any_goals (first|go_big_quiet_step ((go_at_call 107;with_reducible exact Hv (hX _ _).out))|quiet_step ((go_at_call 107;with_reducible exact Hv (hX _ _).out))))
       refine wpQuiet_nil ?_
       intro wq hwq
       replace hwq:=ac hwq
       go_wp2
       go_ret
       exact ⟨ad (by rw [hv.out,hv2.out,hlo.out]),hw.out.trans ((hbr.out.mono hw.out.size).trans (hwq.mono (Hw hw.out.size hsr)))⟩
      |true=>
       go_wp2_with fail
       refine cR ?_
       repeat (any_goals (first|go_big_quiet_step ((go_at_call 107;with_reducible exact Hv (hX _ _).out))|quiet_step ((go_at_call 107;with_reducible exact Hv (hX _ _).out))))
       refine wpQuiet_nil ?_
       intro wq hwq
       replace hwq:=ac hwq
       go_wp2
       go_roundw
       case rel=>exact ⟨n+1,by omega,by go_num,hN,aa (hbr.out.trans (hwq.mono hsr))⟩
       case measure=>simp [intOf];omega
     ·have hke:n=args.length:=by omega
      subst hke
      go_wp2
      go_ret
      exact ⟨ad (by rw [hv.out,hv2.out,hc.out]),hw.out.trans (hbr.out.mono hw.out.size)⟩
   ·have hez:((args.length:Int) !=(p.acts[k].params.length:Int))=true:=by rw [bne_iff_ne];omega
    have hv2:=aa (show dr ga args p.acts[k].params=false from by unfold dr;rw [decide_eq_false he,Hu])
    go_wp2_with fail
    go_quiet ((go_at_call 104;with_reducible exact cZ (hCt.out _)))
    go_wp2
    go_ret
    exact ⟨ad (by rw [hv.out,hv2.out]),hwd.out _⟩
  ·rw [decide_eq_false hm] at hCt
   simp only [decide_eq_false hm,Hu] at hv
   clear hm
   go_wp2_with fail
   go_quiet ((go_at_call 104;with_reducible exact cZ (hCt.out _)))
   go_wp2
   go_ret
   exact ⟨ad hv.out.symm,hwd.out _⟩
 rotate_right
 focus
  have hv:=aa (Ab (p:=p) (l:=l) (r:=⟨act,args⟩) e1)
  have hwd:=aa (fun m=>hw.out.trans (au (Hs wa.heap.size wa|>.mono hw.out.size) m))
  by_cases ha:act<0
  have d1:decide (act<0)=true:=decide_eq_true ha
  rotate_right
  have d1:decide (act<0)=false:=decide_eq_false ha
  have d2:decide ((p.acts.length:Int)≤act)=true:=decide_eq_true (by omega)
 all_goals
  go_wp2_with fail
  go_quiet (fail)
  go_wp2
  go_ret
  exact ⟨ad hv.out.symm,hwd.out _⟩
def eM:CR aA:=fun w B cs x=>∃ A1 c1 A2 c2,cs= [.int .i64 x.tab,.slice A1 x.pats.length c1,.int .i64 x.len,.int .i64 x.prio,.int .i64 x.run.act,.slice A2 x.run.args.length c2]∧Sl 4 gT w B A1 x.pats∧Sl 2 f8 w B A2 x.run.args
theorem bG:f7 eM:=⟨fun ⟨A1,c1,A2,c2,e,h1,h2⟩ hk=>⟨A1,c1,A2,c2,e,h1.keep ay hk,h2.keep aq hk⟩,fun ⟨A1,c1,A2,c2,e,h1,h2⟩ hB=>⟨A1,c1,A2,c2,e,h1.more ay hB,h2.more aq hB⟩⟩
abbrev em:CR (List aA):=mS 6 eM
theorem bX:f7 em:=ee bG
abbrev CI (A1:Option Addr) (c1:Nat) (A2:Option Addr) (c2:Nat) (x:aA):Value:=.agg #[.int .i64 x.tab,.slice A1 x.pats.length c1,.int .i64 x.len,.int .i64 x.prio,.int .i64 x.run.act,.slice A2 x.run.args.length c2]
theorem Sl.ent {w:World} {B:Nat} {A:Option Addr} {xs:List aA} (h:Sl 6 eM w B A xs) {i:Nat} (hi:i<xs.length):∃ b o A1 A2 c1 c2,A=some ⟨b,o,none⟩∧b<B∧
  w.cell? ⟨b,o+i*6,none⟩=some (.int .i64 xs[i].tab)∧w.cell? ⟨b,o+i*6+1,none⟩=some (.slice A1 xs[i].pats.length c1)∧w.cell? ⟨b,o+i*6+2,none⟩=some (.int .i64 xs[i].len)∧w.cell? ⟨b,o+i*6+3,none⟩=some (.int .i64 xs[i].prio)∧w.cell? ⟨b,o+i*6+4,none⟩=some (.int .i64 xs[i].run.act)∧w.cell? ⟨b,o+i*6+5,none⟩=some (.slice A2 xs[i].run.args.length c2)∧Sl 4 gT w B A1 xs[i].pats∧Sl 2 f8 w B A2 xs[i].run.args:=by
 obtain ⟨b,o,ecs,hA,hb,hl,hc,A1,c1,A2,c2,rfl,h1,h2⟩:=h.2 i xs[i] (HA hi)
 exact ⟨b,o,A1,A2,c1,c2,hA,hb,hc 0 _ rfl,hc 1 _ rfl,hc 2 _ rfl,hc 3 _ rfl,hc 4 _ rfl,hc 5 _ rfl,h1,h2⟩
theorem Sl.pt {w:World} {B:Nat} {A:Option Addr} {xs:List Pt} (h:Sl 4 gT w B A xs) {i:Nat} (hi:i<xs.length):∃ b o,A=some ⟨b,o,none⟩∧b<B∧
  w.cell? ⟨b,o+i*4,none⟩=some (.int .u64 xs[i].vh)∧w.cell? ⟨b,o+i*4+1,none⟩=some (.int .u64 xs[i].vl)∧w.cell? ⟨b,o+i*4+2,none⟩=some (.int .u64 xs[i].mh)∧w.cell? ⟨b,o+i*4+3,none⟩=some (.int .u64 xs[i].ml)∧fT xs[i]:=by
 obtain ⟨b,o,ecs,hA,hb,hl,hc,rfl,h1,h2,h3,h4⟩:=h.2 i xs[i] (HA hi)
 exact ⟨b,o,hA,hb,hc 0 _ rfl,hc 1 _ rfl,hc 2 _ rfl,hc 3 _ rfl,h1,h2,h3,h4⟩
theorem Sl.okPts {w:World} {B:Nat} {A:Option Addr} {xs:List Pt} (h:Sl 4 gT w B A xs):∀ x∈xs,fT x:=fun x hx=>by
 obtain ⟨i,hi,rfl⟩:=List.mem_iff_getElem.1 hx
 obtain ⟨-,-,-,-,-,-,-,-,h⟩:=h.pt hi
 exact h
theorem Sl.okNus {w:World} {B:Nat} {A:Option Addr} {xs:List (Int×Int)} (h:Sl 2 f8 w B A xs):∀ x∈xs,aW x.1∧aW x.2:=fun x hx=>by
 obtain ⟨i,hi,rfl⟩:=List.mem_iff_getElem.1 hx
 obtain ⟨-,-,-,-,-,-,h⟩:=h.num hi
 exact h
section
attribute [local go_sem] run_panic_iface
theorem aE.blk {g k:Nat} {a b:World} (h:aE g a b) (hk:k<a.heap.size) (hn:k≠g):b.heap[k]? =a.heap[k]? :=h.block k hk (by simp;exact hn)
theorem oe (x:ByteArray) {w:World} {g:Nat} {l:List Tk} {V:Array Value} (h:bq w g l V) (hi:cD x.data.toList l=true):Calls prog 189 #[.pointer (some ⟨g,0,none⟩),.string x] w fun e w'=>e=.returned (.tuple #[])∧aE g w w'∧bq w' g (ai l) V:=by
 obtain ⟨b,o,cap,lt,bg,pos,le,ml,c0,f0,k0,k1,k2,k3,k4,k5⟩:=h.open_
 have hI:=fun d os=>tB x (h.below (below_regrown w d os) lt)
 rw [hi] at hI
 replace hI:=aa hI
 have hgc:=uw w
 have hbl:b<w.heap.size:=by omega
 have lz:(0:Int)<(l.length:Int):=by omega
 have hA:=aa (fun (W:World)=>bi (ag l) 4 W)
 have hN:=aa (fun (W:World) (hW:Below w.heap.size w W)=>iY (h.below hW lt))
 generalize ag l=t at k0 k1 k2 k3 k4 k5 hA hN
 obtain ⟨k,s,wd,m,pl⟩:=t
 unfold iF at hA hN
 simp only at k0 k1 k2 k3 k4 k5 hA hN
 generalize (⟨s.toArray⟩:ByteArray)=S at k1 hA hN
 generalize ((m / 18446744073709551616:Nat):Int)=hi at k3 hA hN
 generalize ((m % 18446744073709551616:Nat):Int)=lo at k4 hA hN
 clear f0 h
 go_enter func189,ntmps189
 go_wp2_with fail
 refine dZ 9 (by kernel_rfl) (by kernel_rfl) ?_
 simp only [List.take_succ_cons,List.take_zero,List.drop_succ_cons,List.drop_zero]
 repeat (any_goals (first|go_big_quiet_step ((go_at_call 192;with_reducible exact Hv (hI.out _ _)))|quiet_step ((go_at_call 192;with_reducible exact Hv (hI.out _ _)))))
 refine wpQuiet_nil ?_
 intro w1 hw1
 go_wp2_with (first
  |(go_at_call 163;refine (hA.out _).mono ?_;rintro e w2 ⟨rfl,hb2⟩;have hb3:=hw1.trans (hb2.mono hw1.size))
  |(go_at_call 187;refine (hN.out _ hb3).mono ?_;rintro e w4 ⟨rfl,hG4,hR4⟩))
 go_end0
 exact ⟨rfl,(aE.of hb3).trans hG4,hR4⟩
theorem fW {w:World} {g:Nat} {l:List Tk} {V:Array Value} (h:bq w g l V) (hk:(ag l).kind=2):
  Calls prog 194 #[.pointer (some ⟨g,0,none⟩)] w fun e w'=>e=.returned (iF (ag l))∧aE g w w'∧bq w' g (ai l) V:=by
 have lt:=h.lt
 obtain ⟨wa,hwa,hba,hsa,hla,z0,z1,z2,z3,z4,z5⟩:=bL w 0 0 0 0 0 ⟨#[]⟩
 have hfa:∀ i,wa.frozen? ⟨w.heap.size,i,none⟩=false:=by intro i;rw [←hwa];exact World.frozen?_alloc_at _ _ _ _ rfl
 have hRa:=h.below hba.out lt
 have hN:=aa (iY hRa)
 have hGa:=aa (aE.of (g:=g) hba.out)
 have hA:=aa (fun (W:World)=>bi (ag l) 4 W)
 generalize ag l=t at hN hk hA ⊢
 obtain ⟨k,s,wd,m,pl⟩:=t
 unfold iF at hA hN ⊢
 simp only at hA hN hk ⊢
 have ek:((k:Int)==2)=true:=by rw [beq_iff_eq];omega
 generalize (⟨s.toArray⟩:ByteArray)=S at hA hN ⊢
 generalize hhi:((m / 18446744073709551616:Nat):Int)=hi at hA hN ⊢
 generalize hlo:((m % 18446744073709551616:Nat):Int)=lo at hA hN ⊢
 clear h hhi hlo hk
 have hwg:w.heap.size≠g:=by omega
 have hgw:g≠w.heap.size:=by omega
 go_enter func194,ntmps194
 go_upto_region 2 with (go_at_call 187;refine hN.out.mono ?_;rintro e w2 ⟨rfl,hG2,hR2⟩;obtain ⟨w3,hw3,hb3,hs3,hl3,x0,x1,x2,x3,x4,x5⟩:=bL w2 k wd hi lo pl S)
 have hG3:=hG2.trans (aE.of (g:=g) hb3.out)
 obtain ⟨u0,u1,u2,u3,u4,u5,uf⟩:=EW hG3 hla hwg z0 z1 z2 z3 z4 z5 hfa
 have hR3:=aa (hR2.below hb3.out hR2.lt)
 have hz3:=hG3.size
 have hz2:=hG2.size
 have hne1:w2.heap.size≠w.heap.size:=by omega
 have hne2:w.heap.size≠w2.heap.size:=by omega
 have g0:=uf 0
 have g1:=uf 1
 have g2:=uf 2
 have g3:=uf 3
 have g4:=uf 4
 have g5:=uf 5
 have hlw:w.heap.size<w3.heap.size:=by omega
 have hG3w:=aa (hGa.out.trans hG3)
 clear hG2 hR2 hw3 hb3 hs3 uf z0 z1 z2 z3 z4 z5 hfa hN hG3 hRa hz3 hz2
 go_wp2_with (go_at_call 163;refine (hA.out _).mono ?_;rintro e w5 ⟨rfl,hb5⟩;have kk:=ae hb5;have p0:=(kk.1 _ 0 hlw).trans u0;have p1:=(kk.1 _ 1 hlw).trans u1;have p2:=(kk.1 _ 2 hlw).trans u2;have p3:=(kk.1 _ 3 hlw).trans u3;have p4:=(kk.1 _ 4 hlw).trans u4;have p5:=(kk.1 _ 5 hlw).trans u5;have r0:=(kk.2 _ 0 hlw).trans g0;have r1:=(kk.2 _ 1 hlw).trans g1;have r2:=(kk.2 _ 2 hlw).trans g2;have r3:=(kk.2 _ 3 hlw).trans g3;have r4:=(kk.2 _ 4 hlw).trans g4;have r5:=(kk.2 _ 5 hlw).trans g5;have n0:=(kk.1 _ 0 hl3).trans x0;have n1:=(kk.1 _ 1 hl3).trans x1;have n2:=(kk.1 _ 2 hl3).trans x2;have n3:=(kk.1 _ 3 hl3).trans x3;have n4:=(kk.1 _ 4 hl3).trans x4;have n5:=(kk.1 _ 5 hl3).trans x5)
 obtain ⟨q1,q2⟩:=uU (r:=w.heap.size) (hG3w.out.trans (aE.of hb5)) (hR3.out.below hb5 hR3.out.lt) (Ht _) lt (.int .u8 (k:Int)) (.string S) (.int .i64 (wd:Int)) (.int .u64 hi) (.int .u64 lo) (.int .i64 (pl:Int))
 refine bodyPost_ret (v:=.agg #[.int .u8 (k:Int),.string S,.int .i64 (wd:Int),.int .u64 hi,.int .u64 lo,.int .i64 (pl:Int)]) (by simp [results,results194,go_sem,p0,p1,p2,p3,p4,p5]) rfl ⟨rfl,q1,q2⟩
theorem Ae {w:World} {g:Nat} {l:List Tk} {V:Array Value} {mm:Int} {A:Option Addr} {cap:Nat} {ns:List ByteArray} (h:bq w g l V) (hg0:0<g) (hm:w.cell? ⟨0,0,none⟩=some (.int .i64 mm)) (hS:Sl 1 cJ w g A ns) (hk:B9 (ag l)=true) (hin:nX l∈ns):
  Calls prog 162 #[.pointer (some ⟨g,0,none⟩),.slice A ns.length cap] w fun e w'=>e=.returned (.int .i64 (bo ns (nX l)))∧aE g w w'∧bq w' g (ai l) V:=by
 have lt:=h.lt
 have hN:=aa (iY h)
 have hsz:=h.1.head
 have hA:=aa (fun (n:Int) (W:World)=>bi (ag l) n W)
 unfold B9 at hk
 unfold nX at hin ⊢
 generalize ag l=t at hN hsz hA hk hin ⊢
 obtain ⟨k,s,wd,m,pl⟩:=t
 unfold iF at hA hN
 simp only at hk hin hA hN hsz ⊢
 rw [Hy,beq_iff_eq] at hk
 obtain ⟨hk1,hnm⟩:=hk
 have ek:((k:Int)==1)=true:=by rw [beq_iff_eq];omega
 have hI:=aa (fun (W:World) (hW:W.cell? ⟨0,0,none⟩=some (.int .i64 mm))=>sK ⟨s.toArray⟩ mm W (by show s.toArray.size≤_;simp;unfold maxLen;omega) hW)
 rw [hnm] at hI
 have hz0:decide (0≤bo ns ⟨s.toArray⟩)=true:=decide_eq_true (by unfold bo;rw [if_pos hin];exact Int.natCast_nonneg _)
 have hX:=aa (fun (W:World) (hW:Sl 1 cJ W W.heap.size A ns)=>jU A cap ns ⟨s.toArray⟩ W hW)
 generalize (⟨s.toArray⟩:ByteArray)=S at hI hA hN hX hz0 ⊢
 generalize bo ns S=ix at hz0 hX ⊢
 generalize hhi:((m / 18446744073709551616:Nat):Int)=hi at hA hN
 generalize hlo:((m % 18446744073709551616:Nat):Int)=lo at hA hN
 clear h hhi hlo hsz hin hk1 hnm
 go_enter func162,ntmps162
 go_upto_region 2 with (go_at_call 187;refine hN.out.mono ?_;rintro e w2 ⟨rfl,hG2,hR2⟩;obtain ⟨w3,hw3,hb3,hs3,hl3,x0,x1,x2,x3,x4,x5⟩:=bL w2 k wd hi lo pl S)
 have hG3:=aa (hG2.trans (aE.of (g:=g) hb3.out))
 have hm3:w3.cell? ⟨0,0,none⟩=some (.int .i64 mm):=(hG3.out.cell (by omega) (by omega)).trans hm
 have hR3:=aa (hR2.below hb3.out hR2.lt)
 have hz3:=hG3.out.size
 have hIq:=aa (fun d os=>(hI.out (HG (redrawn w3 d) os) ((uw w3 d os _ 0 (by omega)).trans hm3)).mono fun e w' h=>(⟨h.1,h.2 ▸ Hs _ _⟩:e=.returned (.bool true)∧Below (HG (redrawn w3 d) os).heap.size (HG (redrawn w3 d) os) w'))
 have hgc:=uw w3
 have hS3:=aa (fun (W:World) (hW:Below w3.heap.size w3 W)=>(hS.keep aG fun q hq=>(hW.cell (Hr (HW hq lt) hz3)).trans (World.cell?_of_block (hG3.out.blk (HW hq lt) (Nat.ne_of_lt hq)))).more aG (Hw (HL lt) (Hw hz3 hW.size)))
 clear hG2 hR2 hw3 hb3 hs3 hN hI hm3 hm
 have hgw:=aS (show Below w3.heap.size w3 w3 from Hs _ _) (Ht _)
 clear hgc
 go_wp2_with fail
 refine cR ?_
 repeat (any_goals (first|go_big_quiet_step (first|(go_at_call 188;with_reducible exact Hv (hIq.out _ _))|(go_at_call 163;with_reducible exact Hv (hA.out _ _)))|quiet_step (first|(go_at_call 188;with_reducible exact Hv (hIq.out _ _))|(go_at_call 163;with_reducible exact Hv (hA.out _ _)))))
 refine wpQuiet_nil ?_
 intro w4 hw4
 replace hw4:=ac hw4
 have kk:=ae hw4
 have n0:=(kk.1 _ 0 hl3).trans x0
 have n1:=(kk.1 _ 1 hl3).trans x1
 have n2:=(kk.1 _ 2 hl3).trans x2
 have n3:=(kk.1 _ 3 hl3).trans x3
 have n4:=(kk.1 _ 4 hl3).trans x4
 have n5:=(kk.1 _ 5 hl3).trans x5
 have hl4:=Hr hl3 hw4.size
 have hX4:=aa (hX.out w4 (hS3.out w4 hw4))
 have hRf:=aa (fun (W:World) (hW:Below w3.heap.size w3 W)=>(⟨hG3.out.trans (aE.of hW),hR3.out.below hW hR3.out.lt⟩:aE g w W∧bq W g (ai l) V))
 clear hgw kk x0 x1 x2 x3 x4 x5 hS3 hX hIq hG3 hR3
 go_wp2_with (first
  |(go_at_call 67;refine hX4.out.mono ?_;rintro e w5 ⟨rfl,rfl⟩)
  |(go_at_call 163;refine (hA.out _ _).mono ?_;rintro e w6 ⟨rfl,hb6⟩))
 go_ret
 obtain ⟨r1,r2⟩:=hRf.out _ (hw4.trans (hb6.mono hw4.size))
 exact ⟨rfl,r1,r2⟩
end
abbrev Fm:=(Bool×Bool×Bool×Bool)×Int
def G7 (f:Fm):Value:=.agg #[.bool f.1.1,.bool f.1.2.1,.bool f.1.2.2.1,.bool f.1.2.2.2,.int .i64 f.2]
abbrev FF:=List (Int×Fm)
def fL (o:Nat) (M:FF):List MapEntry:=(M.zipIdx o).map fun x=>⟨.int .u8 x.1.1,G7 x.1.2,x.2⟩
def FV (M:FF):Array MapEntry:=(fL 0 M).toArray
def CJ (w:World) (b:Nat) (M:FF):Prop:=w.heap[b]? =some (.map (FV M) M.length)
theorem CJ.lt {w:World} {b:Nat} {M:FF} (h:CJ w b M):b<w.heap.size:=by
 rcases Nat.lt_or_ge b w.heap.size with h1|h1
 ·exact h1
 ·unfold CJ at h;rw [Array.getElem?_eq_none h1] at h;cases h
theorem CJ.alloc {w:World} {b:Nat} {M:FF} (h:CJ w b M) (o:Obj):CJ (w.alloc o) b M:=(Below.heap_alloc w o b h.lt).trans h
theorem CJ.below {w w':World} {b B:Nat} {M:FF} (h:CJ w b M) (hb:Below B w w') (hB:b<B):CJ w' b M:=(hb.block b hB).trans h
def gW (a b:Int):Int:=if a<b then-1 else if b<a then 1 else 0
theorem wT (a:Int) (w:World):Calls prog 255 #[.int .u64 a] w fun e w'=>e=.returned (.bool false)∧w=w':=by
 go_enter func255,ntmps255
 go_wp2
 go_ret
 exact ⟨ad (by simp),rfl⟩
theorem jW (a b:Int) (w:World):Calls prog 235 #[.int .u64 a,.int .u64 b] w fun e w'=>e=.returned (.int .i64 (gW a b))∧w'=w:=by
 go_enter func235,ntmps235
 by_cases h1:a<b
 have hv:=aa (show gW a b= -1 from by unfold gW;rw [if_pos h1])
 rotate_right
 focus
  by_cases h2:b<a
  have hv:=aa (show gW a b=1 from by unfold gW;rw [if_neg h1,if_pos h2])
  rotate_right
  have hv:=aa (show gW a b=0 from by unfold gW;rw [if_neg h1,if_neg h2])
 all_goals
  go_wp2_with (go_at_call 255;refine (wT _ _).mono ?_;rintro e w' ⟨rfl,rfl⟩)
  go_ret
  exact ⟨av hv.out.symm,rfl⟩
def CK (x y:Int):Int:=if x=0 then y else x
theorem wU (x y:Int) (b:Nat) (w:World) (h0:w.cell? ⟨b,0,none⟩=some (.int .i64 x)) (h1:w.cell? ⟨b,1,none⟩=some (.int .i64 y)):
  Calls prog 234 #[.slice (some ⟨b,0,none⟩) 2 2] w fun e w'=>e=.returned (.int .i64 (CK x y))∧w=w':=by
 have hc:∀ k:Nat,k<2→w.cell? ⟨b,k,none⟩=some (.int .i64 (if k=0 then x else y)):=fun k hk=>by
  rcases k with _|_|k
  ·exact h0
  ·exact h1
  ·omega
 replace hc:=aa hc
 clear h0 h1
 go_enter func234,ntmps234
 go_wp2
 go_loop [8] (fun i=>∃ k:Nat,k≤2∧i=.int .i64 k∧Hid (1≤k→x=0)∧Hid (2≤k→y=0)) (fun i=>2-(intOf i).toNat)
 case atStart=>exact ⟨0,by omega,rfl,aa (by omega),aa (by omega)⟩
 case round=>
  obtain ⟨k,hk,rfl,hx,hy⟩:=hrel
  by_cases hlt:k<2
  ·have hcell:=hc.out k hlt
   have hltz:(k:Int)<2:=by omega
   generalize hz:(if k=0 then x else y)=z at hcell
   replace hz:=aa hz
   by_cases h0:z=0
   ·have hb:(z !=0)=false:=by simpa using h0
    have h0':=aa h0
    clear h0
    go_wp2
    go_round
    case rel=>
     refine ⟨k+1,by omega,by go_num,aa fun _=> ?_,aa fun h2=> ?_⟩
     ·by_cases hk0:k=0
      ·have:=hz.out;rw [if_pos hk0] at this;rw [this];exact h0'.out
      ·exact hx.out (by omega)
     ·have:=hz.out;rw [if_neg (by omega)] at this;rw [this];exact h0'.out
    case measure=>simp [intOf];omega
   ·have hb:(z !=0)=true:=by simpa using h0
    have hv:=aa (show CK x y=z from by
     unfold CK
     by_cases hk0:k=0
     ·have:=hz.out;rw [if_pos hk0] at this;subst this;rw [if_neg h0]
     ·have:=hz.out;rw [if_neg hk0] at this;rw [if_pos (hx.out (by omega))];exact this)
    clear h0
    go_wp2
    go_ret
    exact ⟨av hv.out.symm,rfl⟩
  ·have hv:=aa (show CK x y=0 from by unfold CK;rw [if_pos (hx.out (by omega))];exact hy.out (by omega))
   go_wp2
   go_ret
   exact ⟨av hv.out.symm,rfl⟩
theorem CL (a b c d:Int) (w:World):Calls prog 217 #[.agg #[.int .u64 a,.int .u64 b],.agg #[.int .u64 c,.int .u64 d]] w fun e w'=>e=.returned (.int .i64 (CK (gW a c) (gW b d)))∧Below w.heap.size w w':=by
 go_enter func217,ntmps217
 go_wp2_with fail
 refine wp_region_still_tail 10 (by kernel_rfl) (by kernel_rfl) ?_
 simp only [List.take_succ_cons,List.take_zero,List.drop_succ_cons,List.drop_zero]
 change wpStill _ _ (World.drew _) _ _ _
 iterate 4 still_step
 still_call (jW _ _ _)
 iterate 4 still_step
 still_call (jW _ _ _)
 refine wpStill_nil ?_
 change wpList _ _ _ _ _ (World.drew _)
 go_wp2_with fail
 refine (wU (gW a c) (gW b d) _ _ (by go_simp) (by go_simp)).mono ?_
 rintro e w1 ⟨rfl,rfl⟩
 go_wp2
 go_ret
 exact ⟨rfl,((((Hs _ _).alloc (Ht _) _).alloc (by simp) _).alloc (by simp;omega) _).drew⟩
theorem D8 (a:Int) (w:World):Calls prog 218 #[.int .u64 a] w fun e w'=>e=.returned (.agg #[.int .u64 0,.int .u64 a])∧Below w.heap.size w w':=by
 go_enter func218,ntmps218
 go_wp2
 exact bodyPost_ret (v:=.agg #[.int .u64 0,.int .u64 a]) (by simp [results,results218,go_sem]) rfl ⟨rfl,(Hs _ _).alloc (Ht _) _⟩
section
attribute [local go_sem] run_panic_iface
theorem qX (t:Tk) (y:Int) (w:World) (h:eT t y=true) (h128:t.n<2 ^ 128):Calls prog 213 #[iF t,.int .i64 y] w fun e w'=>e=.returned (.tuple #[])∧Below w.heap.size w w':=by
 obtain ⟨k,s,wd,m,pl⟩:=t
 have hA1:=aa (fun (W:World)=>bi ⟨k,s,wd,m,pl⟩ 10 W)
 have hA2:=aa (fun (W:World)=>bi ⟨k,s,wd,m,pl⟩ 5 W)
 unfold eT at h
 unfold iF at hA1 hA2 ⊢
 simp only at h h128 hA1 hA2 ⊢
 rw [Hy,HS,decide_eq_true_eq,decide_eq_true_eq,decide_eq_true_eq] at h
 obtain ⟨h1,h2⟩:=h
 obtain ⟨u1,u2⟩:=cX h128
 have hF:=aa (fun (W:World)=>cA _ _ y W ⟨u1,u2⟩)
 rw [lE u1 u2,iX,decide_eq_true h2] at hF
 generalize (⟨s.toArray⟩:ByteArray)=S at hA1 hA2 ⊢
 generalize ((m / 18446744073709551616:Nat):Int)=hi at hA1 hA2 hF ⊢
 generalize ((m % 18446744073709551616:Nat):Int)=lo at hA1 hA2 hF ⊢
 obtain ⟨wa,hwa,hba,hsa,hl,x0,x1,x2,x3,x4,x5⟩:=bL w k wd hi lo pl S
 clear h2 u1 u2
 by_cases hz:wd=0
 have e0:((wd:Int)==0)=true:=by rw [beq_iff_eq];omega
 rotate_right
 focus
  have e0:((wd:Int)==0)=false:=by rw [beq_eq_false_iff_ne];omega
  have e1:((wd:Int)==y)=true:=by
   rcases h1 with h1|h1
   ·exact absurd h1 hz
   ·rw [beq_iff_eq];exact h1
 all_goals
  clear h1 hz
  go_enter func213,ntmps213
  go_wp2_with (go_at_call 163;refine (hA1.out _).mono ?_;rintro e w1 ⟨rfl,hb1⟩)
  have kk:=ae hb1
  have y0:=(kk.1 _ 0 hl).trans x0
  have y1:=(kk.1 _ 1 hl).trans x1
  have y2:=(kk.1 _ 2 hl).trans x2
  have y3:=(kk.1 _ 3 hl).trans x3
  have y4:=(kk.1 _ 4 hl).trans x4
  have y5:=(kk.1 _ 5 hl).trans x5
  have hl1:=Hr hl hb1.size
  have hgw:=aS (show Below w1.heap.size w1 w1 from Hs _ _) (Ht _)
  clear kk x0 x1 x2 x3 x4 x5
  refine cR ?_
  repeat (any_goals (first|go_big_quiet_step (first|(go_at_call 133;with_reducible exact Hv (hF.out _))|(go_at_call 163;with_reducible exact Hv (hA2.out _)))|quiet_step (first|(go_at_call 133;with_reducible exact Hv (hF.out _))|(go_at_call 163;with_reducible exact Hv (hA2.out _)))))
  refine wpQuiet_nil ?_
  intro w2 hw2
  replace hw2:=ac hw2
  go_wp2
  go_end0
  exact ⟨rfl,hba.out.trans ((hb1.trans (hw2.mono hb1.size)).mono (HL hl))⟩
theorem D9 {n:Nat} {most:Int} (h0:0≤most) (h1:most<18446744073709551616) (h:(n:Int)≤most):CK (gW ((n / 18446744073709551616:Nat):Int) 0) (gW ((n % 18446744073709551616:Nat):Int) most)≤0∧((n % 18446744073709551616:Nat):Int)=n:=by
 have e1:n / 18446744073709551616=0:=by omega
 have e2:n % 18446744073709551616=n:=by omega
 rw [e1,e2]
 refine ⟨?_,rfl⟩
 unfold CK gW
 by_cases h2:(n:Int)<most
 ·simp [h2]
 ·simp [h2,show ¬most<(n:Int) by omega]
theorem Af (t:Tk) (most:Int) (w:World) (h:qM t most=true) (h0:0≤most) (h1:most<9223372036854775808):Calls prog 193 #[iF t,.int .i64 most] w fun e w'=>e=.returned (.int .i64 (t.n:Int))∧Below w.heap.size w w':=by
 obtain ⟨k,s,wd,m,pl⟩:=t
 have hA1:=aa (fun (W:World)=>bi ⟨k,s,wd,m,pl⟩ 10 W)
 have hA2:=aa (fun (W:World)=>bi ⟨k,s,wd,m,pl⟩ 5 W)
 unfold qM at h
 unfold iF at hA1 hA2 ⊢
 simp only at h hA1 hA2 ⊢
 rw [Hy,decide_eq_true_eq,decide_eq_true_eq] at h
 obtain ⟨rfl,h2⟩:=h
 obtain ⟨hc,hm⟩:=D9 h0 (by omega) h2
 have hmi:(m:Int)<9223372036854775808:=by omega
 rw [←hm]
 rw [←hm] at hmi
 have hl0:(0:Int)≤((m % 18446744073709551616:Nat):Int):=by omega
 have hwm:IntKind.u64.wrap most=most:=by rw [IntKind.wrap_u64];omega
 have hO:=aa (fun (W:World)=>D8 most W)
 have hC:=aa (fun (W:World)=>CL ((m / 18446744073709551616:Nat):Int) ((m % 18446744073709551616:Nat):Int) 0 most W)
 generalize CK (gW ((m / 18446744073709551616:Nat):Int) 0) (gW ((m % 18446744073709551616:Nat):Int) most)=c at hc hC
 have dc:decide (c≤0)=true:=decide_eq_true hc
 clear hm hc h2
 generalize (⟨s.toArray⟩:ByteArray)=S at hA1 hA2 ⊢
 generalize ((m / 18446744073709551616:Nat):Int)=hi at hA1 hA2 hC ⊢
 generalize ((m % 18446744073709551616:Nat):Int)=lo at hA1 hA2 hC hmi hl0 ⊢
 have hwl:IntKind.i64.wrap lo=lo:=by rw [IntKind.wrap_i64];omega
 obtain ⟨wa,hwa,hba,hsa,hl,x0,x1,x2,x3,x4,x5⟩:=bL w k 0 hi lo pl S
 clear h0 h1 hl0 hmi
 go_enter func193,ntmps193
 go_wp2_with (go_at_call 163;refine (hA1.out _).mono ?_;rintro e w1 ⟨rfl,hb1⟩)
 have kk:=ae hb1
 have y0:=(kk.1 _ 0 hl).trans x0
 have y1:=(kk.1 _ 1 hl).trans x1
 have y2:=(kk.1 _ 2 hl).trans x2
 have y3:=(kk.1 _ 3 hl).trans x3
 have y4:=(kk.1 _ 4 hl).trans x4
 have y5:=(kk.1 _ 5 hl).trans x5
 have hl1:=Hr hl hb1.size
 have hgw:=aS (show Below w1.heap.size w1 w1 from Hs _ _) (Ht _)
 clear kk x0 x1 x2 x3 x4 x5
 refine cR ?_
 repeat (any_goals (first|go_big_quiet_step (first|(go_at_call 218;with_reducible exact Hv (hO.out _))|(go_at_call 217;with_reducible exact Hv (hC.out _))|(go_at_call 163;with_reducible exact Hv (hA2.out _)))|quiet_step (first|(go_at_call 218;with_reducible exact Hv (hO.out _))|(go_at_call 217;with_reducible exact Hv (hC.out _))|(go_at_call 163;with_reducible exact Hv (hA2.out _)))))
 refine wpQuiet_nil ?_
 intro w2 hw2
 replace hw2:=ac hw2
 have kk:=ae hw2
 have z4:=(kk.1 _ 4 hl1).trans y4
 have hl2:=Hr hl1 hw2.size
 clear kk hgw
 go_wp2
 go_ret
 exact ⟨rfl,hba.out.trans ((hb1.trans (hw2.mono hb1.size)).mono (HL hl))⟩
end
end Go.Proofs.YtijcdfdbkffiaaaGreatDoor
