import Derived.Test.YtiebolhmdhdagaaGreatDoorEwp13
import Derived.Test.YtiebolhmdhdagaaGreatDoorEwp14
import Derived.OwnWalkIn
import Derived.TacticsInMore
import Derived.LoopNIn
import Derived.Shelf.AbstractIn
set_option linter.all false
set_option maxHeartbeats 4000000
set_option maxRecDepth 100000
open Go.Proofs.Tryz
namespace Go.Proofs.YtiebolhmdhdagaaGreatDoor
open _root_.Nat renaming lt_of_lt_of_le→He, le_refl→Hh, le_trans→Hj, le_of_lt→Hs, lt_succ_self→HA, lt_trans→HB, zero_add→HS, ne_of_lt→HW
open _root_.Go.RowKit.Below renaming refl→Hf
open _root_.Go.Calls renaming regrown_of→Hi
open _root_.Bool renaming and_eq_true→Hl, eq_iff_iff→Hr, or_eq_true→HQ
open _root_.List renaming getElem?_eq_getElem→Hn, length_cons→Hp, drop_zero→HX, length_pos_iff→H3
open _root_.Go.Sort renaming grow→Ht
open _root_.Array renaming getElem?_eq_some_iff→If, getElem?_setIfInBounds→Ih
open Go.RowKit
def wi (t:Tk):List Value:=E6 t.kind ⟨t.s.toArray⟩ t.w t.n t.pl
theorem Da (t:Tk):(wi t).length=6:=rfl
theorem Db (t:Tk):∀ u∈wi t,u.oneCell'=true:=fun u hu=>by simp [wi,E6] at hu;rcases hu with rfl|rfl|rfl|rfl|rfl|rfl<;>rfl
theorem Bk:(prog.info? 141).map (fun i=>(i.zero,i.size,i.bytes))=some (some (.agg #[.int .u8 0,.string ⟨#[]⟩,.int .i64 0,.int .u64 0,.int .u64 0,.int .i64 0]),6,56):=by kernel_rfl
def ox (w:World) (base:Nat) (v:Value) (l:List Tk):Prop:=w.ownsRow base 141 6 v l.length (l.flatMap wi)
theorem ox.nil_ (w:World) (base:Nat):ox w base (.slice none 0 0) []:=World.ownsRow_nil _ _ _ _
theorem ox.below {w w':World} {base C:Nat} {v:Value} {l:List Tk} (h:ox w base v l) (hb:Below C w w') (hC:w.heap.size≤C):ox w' base v l:=dX h hb hC
theorem ox.set {w:World} {base k i:Nat} {v u:Value} {l:List Tk} (h:ox w base v l) (hk:k<base):ox (w.setCell ⟨k,i,none⟩ u) base v l:=by
 refine ⟨h.1,?_⟩
 rcases h.2 with h2|⟨g,cap,cur,rfl,hg,hh,r⟩
 ·exact .inl h2
 ·exact .inr ⟨g,cap,cur,rfl,hg,(Below.heap_setCell _ _ _ _ (show g≠k by omega)).trans hh,r⟩
theorem ox.form {w:World} {base:Nat} {v:Value} {l:List Tk} (h:ox w base v l):∃ A cap,v=.slice A l.length cap:=by
 rcases h.2 with ⟨rfl,hz⟩|⟨g,cap,cur,rfl,_⟩
 ·exact ⟨none,0,by rw [hz]⟩
 ·exact ⟨_,_,rfl⟩
theorem sG {W:World} {base:Nat} {v:Value} {l:List Tk} (x:Tk) (hd:ox W base v l) (hb:base≤W.heap.size) (hz:l.length≤dI):
  ∃ v' w',(eO #[86,86] 86 #[v,.slice (some ⟨W.heap.size,0,none⟩) 1 1]).run prog (W.alloc (.cells (wi x).toArray 141))=.ok v' w'∧ox w' base v' (l++ [x])∧Below base W w'∧∀ k,k<W.heap.size→some k≠v.ownBlock→w'.heap[k]? =W.heap[k]? :=by
 unfold dI at hz
 obtain ⟨ii,hii,hzi0,hzi1,hzi2⟩:=info_parts Bk
 obtain ⟨v',w',hrun,h2,h3,_,_⟩:=run_append_own_at (P:=prog) (W.alloc (.cells (wi x).toArray 141)) base 86 86 141 ii _ 6 56 underlying86 hii hzi0 hzi1 hzi2 rfl (by omega) v l.length _ (World.ownsRow.alloc hd _) ⟨W.heap.size,0,none⟩ 1 1 (wi x) rfl (World.news_of_block (cs:=(wi x).toArray) (t:=141) (fr:=(0,0)) (heap_alloc_new W _)) (Db x) (by simp [maxLen];omega) (by omega) (by simp;omega)
 refine ⟨v',w',hrun,?_,(((Hf _ _).alloc hb _).grown h3 (by simp;omega) (fun g e=>(hd.lt g e).1)),fun k hk hne=> ?_⟩
 ·unfold ox
  simpa using h2
 ·rw [h3.block k (by simp;omega) hne]
  exact ((Hf W.heap.size W).alloc (Hh _) _).block k hk
def zr:CR Tk:=fun _ _ cs t=>cs=wi t
theorem gY:gH zr:=⟨fun h _=>h,fun h _=>h⟩
theorem ox.sl {w:World} {base:Nat} {v:Value} {l:List Tk} (h:ox w base v l):∃ A cap,v=.slice A l.length cap∧Sl 6 zr w w.heap.size A l:=
 j4 (f:=wi) Da (fun x _=>rfl) h
structure fX (W:World) (b:Nat) (s:ByteArray) (k:Nat) (v:Value):Prop where
 lt:b+3<W.heap.size
 c0:W.cell? ⟨b,0,none⟩=some (.string s)
 c1:W.cell? ⟨b+1,0,none⟩=some v
 e0:W.cell? ⟨b+2,0,none⟩=some (.int .i64 0)
 e1:W.cell? ⟨b+2,1,none⟩=some (.int .i64 0)
 e2:W.cell? ⟨b+2,2,none⟩=some (.int .i64 0)
 c3:W.cell? ⟨b+3,0,none⟩=some (.int .i64 (k:Int))
 f1:W.frozen? ⟨b+1,0,none⟩=false
 g0:W.frozen? ⟨b+2,0,none⟩=false
 g1:W.frozen? ⟨b+2,1,none⟩=false
 g2:W.frozen? ⟨b+2,2,none⟩=false
 f3:W.frozen? ⟨b+3,0,none⟩=false
theorem fX.below {W W':World} {b B k:Nat} {s:ByteArray} {v:Value} (h:fX W b s k v) (hb:Below B W W') (hB:b+3<B):fX W' b s k v:=by
 have kk:=ah hb
 exact ⟨He h.lt hb.size,(kk.1 b 0 (by omega)).trans h.c0,(kk.1 (b+1) 0 (by omega)).trans h.c1,(kk.1 (b+2) 0 (by omega)).trans h.e0,(kk.1 (b+2) 1 (by omega)).trans h.e1,(kk.1 (b+2) 2 (by omega)).trans h.e2,(kk.1 (b+3) 0 (by omega)).trans h.c3,(kk.2 (b+1) 0 (by omega)).trans h.f1,(kk.2 (b+2) 0 (by omega)).trans h.g0,(kk.2 (b+2) 1 (by omega)).trans h.g1,(kk.2 (b+2) 2 (by omega)).trans h.g2,(kk.2 (b+3) 0 (by omega)).trans h.f3⟩
theorem fX.setK {W:World} {b k:Nat} {s:ByteArray} {v:Value} (h:fX W b s k v) (k':Nat):fX (W.setCell ⟨b+3,0,none⟩ (.int .i64 (k':Int))) b s k' v:=by
 obtain ⟨lt,c0,c1,e0,e1,e2,c3,f1,g0,g1,g2,f3⟩:=h
 refine ⟨by rw [an];exact lt,?_,?_,?_,?_,?_,?_,?_,?_,?_,?_,?_⟩<;>simp [go_sem,c0,c1,e0,e1,e2,c3,f1,g0,g1,g2,f3]
theorem fX.setV {W:World} {b k:Nat} {s:ByteArray} {v:Value} (h:fX W b s k v) (v':Value):fX (W.setCell ⟨b+1,0,none⟩ v') b s k v':=by
 obtain ⟨lt,c0,c1,e0,e1,e2,c3,f1,g0,g1,g2,f3⟩:=h
 refine ⟨by rw [an];exact lt,?_,?_,?_,?_,?_,?_,?_,?_,?_,?_,?_⟩<;>simp [go_sem,c0,c1,e0,e1,e2,c3,f1,g0,g1,g2,f3]
def FD (b:Nat) (W:World):Nat:=match W.cell? ⟨b+3,0,none⟩ with|some v=>(intOf v).toNat|none=>0
theorem fX.kOf {W:World} {b k:Nat} {s:ByteArray} {v:Value} (h:fX W b s k v):FD b W=k:=by
 unfold YtiebolhmdhdagaaGreatDoor.FD
 rw [h.c3];rfl
theorem Sl.tok {w:World} {B:Nat} {A:Option Addr} {xs:List Tk} (h:Sl 6 zr w B A xs) {i:Nat} (hi:i<xs.length):∃ b o,A=some ⟨b,o,none⟩∧b<B∧
  w.cell? ⟨b,o+i*6,none⟩=some (.int .u8 (xs[i].kind:Int))∧w.cell? ⟨b,o+i*6+1,none⟩=some (.string ⟨xs[i].s.toArray⟩)∧w.cell? ⟨b,o+i*6+2,none⟩=some (.int .i64 (xs[i].w:Int))∧w.cell? ⟨b,o+i*6+3,none⟩=some (.int .u64 ((xs[i].n / 18446744073709551616:Nat):Int))∧w.cell? ⟨b,o+i*6+4,none⟩=some (.int .u64 ((xs[i].n % 18446744073709551616:Nat):Int))∧w.cell? ⟨b,o+i*6+5,none⟩=some (.int .i64 (xs[i].pl:Int)):=by
 obtain ⟨b,o,cs,hA,hb,-,hc,hR⟩:=h.2 i _ (Hn hi)
 have hR':cs=wi xs[i]:=hR
 subst hR'
 refine ⟨b,o,hA,hb,by simpa using hc 0 _ rfl,hc 1 _ rfl,hc 2 _ rfl,hc 3 _ rfl,hc 4 _ rfl,hc 5 _ rfl⟩
section
open Go Go.RowKit
section
variable {P:Program} {ops:Array Oper} {md:Region.Mode} {C:World→Prop}
def sH (P:Program) (md:Region.Mode) (ops:Array Oper) (C:World→Prop) (n:Nat) (L:Array Bool→Act→Prop):Nat→Array Bool→Act→Prop
 |0,listed,a=>L listed a
 |f+1,listed,a=>Region.ready md ops listed≠ []∧∀ i∈Region.ready md ops listed,i<n∧qOp P ops C i (sH P md ops C n L f (listed.setIfInBounds i true)) a
theorem gZ {n g:Nat} {L:Array Bool→Act→Prop} {Q:Exit→Act→World→Prop} (hL:∀ listed a w,C w→L listed a→wpAny P md ops Q g listed a w):
  ∀ (f:Nat) (listed:Array Bool) (a:Act) (w:World),C w→sH P md ops C n L f listed a→wpAny P md ops Q (f+g) listed a w
 |0,listed,a,w,hw,h=>by rw [HS];exact hL _ _ _ hw h
 |f+1,listed,a,w,hw,h=>by
  rw [Nat.add_right_comm]
  exact ⟨fun h0=>absurd h0 h.1,fun i hi=>wpOp_of_qOp hw (fun a' w' hw' h'=>gZ hL f _ a' w' hw' h') (h.2 i hi).2⟩
theorem sI {n i:Nat} {oi:Oper} {v:Value} {L:Array Bool→Act→Prop} (hi:ops[i]? =some oi) (hsel:∀ (j:Nat) (o:Oper) cs b,ops[j]? =some o→o.op≠ .select cs b)
  (hs:Region.sinkB md ops n=true) (hc:Region.chainB md ops n=true) (hn:n<ops.size) (hin:i<n) (hdone:∀ listed a,L listed a→∀ j∈Region.ready md ops listed,n≤j):
  ∀ (f:Nat) (listed:Array Bool) (a:Act),HeadInv md ops n listed→
   (∀ j oj,ops[j]? =some oj→j≠i→listed.getD j true=false→(∀ e∈oj.after,Region.binds md e=true→e.on≠i)→oi.apart ops oj=true)→
   i∈Region.ready md ops listed→YieldsIn P ops C oi v a→sH P md ops C n L f (listed.setIfInBounds i true) (a.put oi.dst v)→sH P md ops C n L (f+1) listed a:=by
 intro f
 induction f with
 |zero=>
  intro listed a inv _ hr hy H
  refine ⟨fun h=>(by rw [h] at hr;cases hr),fun j hj=> ?_⟩
  have hjn:j<n:=Nat.lt_of_not_le fun h=>tail_waits hs hc hn inv _ i rfl hin (mem_ready.1 hr).1 j h hj
  by_cases e:j=i
  ·subst e;exact ⟨hjn,hy.qOp hi H⟩
  ·exact absurd (hdone _ _ H j (ready_mono hj e)) (by omega)
 |succ f ih=>
  intro listed a inv hfree hr hy H
  have hun:=(mem_ready.1 hr).1
  refine ⟨fun h=>(by rw [h] at hr;cases hr),fun j hj=> ?_⟩
  have hjn:j<n:=Nat.lt_of_not_le fun h=>tail_waits hs hc hn inv _ i rfl hin hun j h hj
  by_cases e:j=i
  ·subst e;exact ⟨hjn,hy.qOp hi H⟩
  ·refine ⟨hjn,?_⟩
   obtain ⟨hjun,oj,hoj,hall⟩:=mem_ready.1 hj
   have hnot:∀ x∈oj.after,Region.binds md x=true→x.on≠i:=fun x hx hb he=>by
    have h1:=hall x hx hb
    rw [he,getD_both hun] at h1
    cases h1
   refine qOp_mono (fun a' h3=>ih _ a' (inv.set hj hjn) (fun k ok hk hki hu hno=>hfree k ok hk hki ?_ hno) (ready_mono hr (Ne.symm e)) h3.1 ?_)
    (qOp_put hoj (hfree j oj hoj e hjun hnot) (fun cs b=>hsel i oi cs b hi) (fun cs b=>hsel j oj cs b hoj) hy (H.2 j (ready_mono hj e)).2)
   ·by_cases ejk:j=k
    ·subst ejk;exact hjun
    ·rw [getD_set_ne true ejk] at hu;exact hu
   ·rw [Array.setIfInBounds_comm _ _ e]
    exact h3.2
theorem pO {n g:Nat} {T:Act→Prop} (hsel:Region.noSelect ops=true) (hs:Region.sinkB md ops n=true) (hc:Region.chainB md ops n=true) (hn:n<ops.size):
  ∀ (l:List Oper) (k:Nat) (listed:Array Bool) (a:Act),(∀ j,j<l.length→l[j]? =ops[k+j]?)→k+l.length=n→HeadInv md ops n listed→Region.lexHead md ops g l.length k listed=true→wpQuiet P ops C T l a→
   sH P md ops C n (fun x y=>Region.seqB md ops g n x=true∧T y) l.length listed a
 | [],k,listed,a,_,hk,_,hB,h=>by
  obtain rfl:k=n:=by simpa using hk
  exact ⟨by simpa [Region.lexHead] using hB,h⟩
 |o::l,k,listed,a,hl,hk,inv,hB,h=>by
  have h0:ops[k]? =some o:=by simpa using (hl 0 (by simp)).symm
  simp only [Hp,Region.lexHead,Hl] at hB
  rw [Hp] at hk
  have hr:k∈Region.ready md ops listed:=by simpa using hB.1.1
  obtain ⟨v,hy,hK⟩:=yieldsIn_of_qOp h0 (show qOp P ops C k (wpQuiet P ops C T l) a from by unfold qOp;simp only [h0];exact h)
  exact sI h0 (Region.noSelect_spec hsel) hs hc hn (by omega) (fun _ _ hL=>seqB_ready hL.1) l.length listed a inv (Region.free_spec h0 hB.1.2) hr hy
   (pO hsel hs hc hn l (k+1) _ _ (fun j hj=>by have:=hl (j+1) (by simpa using hj);simpa [Nat.add_assoc,Nat.add_comm 1 j] using this) (by omega) (inv.set hr (by omega)) hB.2 hK)
end
theorem et {P:Program} {id:Nat} {Q:Exit→Act→World→Prop} {a:Act} {w:World} {l:List Oper} (n:Nat) (hm:P.follows .mixedOrders=true) (hB:Region.lexTailB .any l.toArray n=true)
  (h:wpQuiet P l.toArray (fun w'=>∃ p:Regrown,w'=Ht (redrawn w p.d) p.os) (fun a'=>∀ w',Below w.heap.size w w'→wpList P l.toArray Q (l.drop n) a' w') (l.take n) a):(Code.region id l.toArray true).wp P Q a w:=by
 simp only [Region.lexTailB,Hl,decide_eq_true_eq] at hB
 obtain ⟨⟨⟨⟨hsel,hn⟩,hs⟩,hc⟩,hlex⟩:=hB
 have htl:(l.take n).length=n:=by simp at hn ⊢;omega
 have hdl:(l.drop n).length=l.toArray.size-n:=by simp
 have inv0:HeadInv .any l.toArray n (Array.replicate l.toArray.size false):=
  ⟨by simp,fun j oj _ hl=>(by rw [getD_replicate_false] at hl;cases hl),fun t _ ht=>getD_in (by simpa using ht) (getD_replicate_false _ _)⟩
 refine wp_region_any hm ?_
 have H:=pO (md:=.any) (g:=l.toArray.size-n) hsel hs hc hn (l.take n) 0 _ a (fun j hj=>by rw [htl] at hj;simp [hj]) (by simpa using htl) inv0 (by rw [htl];exact hlex) h
 have:=gZ (Q:=Q) (g:=l.toArray.size-n) (fun listed a' w' hw hL=>by
  have:=wpAny_of_seq (md:=.any) (Q':=Q) (l.drop n) n listed a' w' (fun j=>by simp [List.getElem?_drop]) (by rw [hdl];exact hL.1) (hL.2 w' (ac hw))
  rwa [hdl] at this) _ _ _ { w with drawn:=w.drawn+1} ⟨⟨w.drawn+1,#[]⟩,by rw [Go.Sort.grow_empty];rfl⟩ H
 rwa [htl,show n+(l.toArray.size-n)=l.toArray.size by omega] at this
end
section
attribute [local go_sem] run_panic_iface
def ay (g:Nat) (w w':World):Prop:=w.grownBy w' (some g)
theorem ay.refl (g:Nat) (w:World):ay g w w:=⟨rfl,rfl,rfl,Hh _,fun _ _ _=>rfl⟩
theorem ay.trans {g:Nat} {a b c:World} (h:ay g a b) (h':ay g b c):ay g a c:=⟨h'.os.trans h.os,h'.tape.trans h.tape,h'.output.trans h.output,Hj h.size h'.size,fun k hk hn=>(h'.block k (He hk h.size) hn).trans (h.block k hk hn)⟩
theorem ay.of {g:Nat} {a b:World} (h:Below a.heap.size a b):ay g a b:=⟨h.os,h.tape,h.output,h.size,fun k hk _=>h.block k hk⟩
theorem ay.set (g:Nat) (w:World) (i:Nat) (v:Value):ay g w (w.setCell ⟨g,i,none⟩ v):=⟨rfl,rfl,rfl,by simp,fun k _ hn=>Below.heap_setCell w ⟨g,i,none⟩ v k (by show k≠g;intro e;subst e;exact hn rfl)⟩
theorem ay.below {g B:Nat} {a b:World} (h:ay g a b) (hB:B≤g) (hs:B≤a.heap.size):Below B a b:=⟨h.os,h.tape,h.output,h.size,fun k hk=>h.block k (He hk hs) (by simp;omega)⟩
theorem ay.cell {g k i:Nat} {a b:World} (h:ay g a b) (hk:k<a.heap.size) (hn:k≠g):b.cell? ⟨k,i,none⟩=a.cell? ⟨k,i,none⟩:=World.cell?_of_block (h.block k hk (by simp;exact hn))
theorem ay.frozen {g k i:Nat} {a b:World} (h:ay g a b) (hk:k<a.heap.size) (hn:k≠g):b.frozen? ⟨k,i,none⟩=a.frozen? ⟨k,i,none⟩:=World.frozen?_of_block (h.block k hk (by simp;exact hn))
abbrev g8 (t:Tk):Value:=.agg #[.int .u8 (t.kind:Int),.string ⟨t.s.toArray⟩,.int .i64 (t.w:Int),.int .u64 ((t.n / 18446744073709551616:Nat):Int),.int .u64 ((t.n % 18446744073709551616:Nat):Int),.int .i64 (t.pl:Int)]
theorem bD (W:World) (c0 c2 c3 c4 c5:Int) (s:ByteArray):∃ wa,W.alloc (.cells #[.int .u8 c0,.string s,.int .i64 c2,.int .u64 c3,.int .u64 c4,.int .i64 c5] 141)=wa∧Hid (Below W.heap.size W wa)∧Hid (wa.heap.size=W.heap.size+1)∧W.heap.size<wa.heap.size∧wa.cell? ⟨W.heap.size,0,none⟩=some (.int .u8 c0)∧wa.cell? ⟨W.heap.size,1,none⟩=some (.string s)∧wa.cell? ⟨W.heap.size,2,none⟩=some (.int .i64 c2)∧wa.cell? ⟨W.heap.size,3,none⟩=some (.int .u64 c3)∧wa.cell? ⟨W.heap.size,4,none⟩=some (.int .u64 c4)∧wa.cell? ⟨W.heap.size,5,none⟩=some (.int .i64 c5):=by
 obtain ⟨wa,hwa,hsa,hba,hca,hfa⟩:=ak W #[.int .u8 c0,.string s,.int .i64 c2,.int .u64 c3,.int .u64 c4,.int .i64 c5] 141
 exact ⟨wa,hwa,aa hba,aa hsa,by omega,hca 0,hca 1,hca 2,hca 3,hca 4,hca 5⟩
end
section
attribute [local go_sem] run_panic_iface
theorem ay.setNew {g r i:Nat} {w W:World} (h:ay g w W) (hr:w.heap.size≤r) (v:Value):ay g w (W.setCell ⟨r,i,none⟩ v):=
 ⟨h.os,h.tape,h.output,by rw [an];exact h.size,fun k hk hn=>(Below.heap_setCell W ⟨r,i,none⟩ v k (by show k≠r;omega)).trans (h.block k hk hn)⟩
end
section
attribute [local go_sem] run_panic_iface
def bb (w:World) (g:Nat) (l:List Tk) (V:Array Value):Prop:=
 eV l∧V.size=13∧∃ A cap,l.length≤cap∧cap≤maxLen∧w.heap[g]? =some (.cells (V.push (.slice A l.length cap)) 94 (0,0))∧Sl 6 zr w g A l
theorem bb.lt {w:World} {g:Nat} {l:List Tk} {V:Array Value} (h:bb w g l V):g<w.heap.size:=by
 obtain ⟨-,-,A,cap,-,-,h,-⟩:=h
 exact (If.1 h).1
theorem bb.below {w w':World} {B g:Nat} {l:List Tk} {V:Array Value} (h:bb w g l V) (hb:Below B w w') (hB:g<B):bb w' g l V:=by
 obtain ⟨h0,hv,A,cap,h1,h2,h3,h4⟩:=h
 exact ⟨h0,hv,A,cap,h1,h2,(hb.block g hB).trans h3,h4.keep gY fun q hq=>hb.cell (HB hq hB)⟩
theorem bb.cellV {w:World} {g:Nat} {l:List Tk} {V:Array Value} (h:bb w g l V) {i:Nat} (hi:i<13):w.cell? ⟨g,i,none⟩=V[i]? :=by
 obtain ⟨h0,hv,A,cap,h1,h2,h3,h4⟩:=h
 simp [World.cell?,h3,Array.getElem?_push,hv,show i≠13 by omega]
structure GS (w:World) (g:Nat) (l:List Tk) (b o cap:Nat):Prop where
 lt:g<w.heap.size
 bg:b<g
 pos:0<l.length
 le:l.length≤cap
 ml:cap≤9223372036854775807
 c0:w.cell? ⟨g,13,none⟩=some (.slice (some ⟨b,o,none⟩) l.length cap)
 f0:w.frozen? ⟨g,13,none⟩=false
 k0:w.cell? ⟨b,o,none⟩=some (.int .u8 ((af l).kind:Int))
 k1:w.cell? ⟨b,o+1,none⟩=some (.string ⟨(af l).s.toArray⟩)
 k2:w.cell? ⟨b,o+2,none⟩=some (.int .i64 ((af l).w:Int))
 k3:w.cell? ⟨b,o+3,none⟩=some (.int .u64 (((af l).n / 18446744073709551616:Nat):Int))
 k4:w.cell? ⟨b,o+4,none⟩=some (.int .u64 (((af l).n % 18446744073709551616:Nat):Int))
 k5:w.cell? ⟨b,o+5,none⟩=some (.int .i64 ((af l).pl:Int))
theorem bb.open_ {w:World} {g:Nat} {l:List Tk} {V:Array Value} (h:bb w g l V):∃ b o cap,GS w g l b o cap:=by
 have hlt:=h.lt
 obtain ⟨h0,hv,A,cap,h1,h2,h3,h4⟩:=h
 have hp:=H3.2 h0.ne
 obtain ⟨b,o,rfl,hb,a0,a1,a2,a3,a4,a5⟩:=h4.tok hp
 have hh:l[0]=af l:=by
  cases l with
  |nil=>simp at hp
  |cons a r=>rfl
 rw [hh] at a0 a1 a2 a3 a4 a5
 refine ⟨b,o,cap,hlt,hb,hp,h1,h2,?_,?_,by simpa using a0,by simpa using a1,by simpa using a2,by simpa using a3,by simpa using a4,by simpa using a5⟩
 ·have:(V.push (.slice (some ⟨b,o,none⟩) l.length cap))[13]? =some (.slice (some ⟨b,o,none⟩) l.length cap):=by rw [Array.getElem?_push,if_pos hv.symm]
  rw [World.cell?,h3]
  simpa using this
 ·simp [World.frozen?,h3]
abbrev Dc (x:Int×Nat):Ending:=.panicked [{ v:=.iface 90 (.agg #[.int .i64 x.1,.int .i64 (x.2:Int)]),recovered:=false}]
theorem aY (t:Tk) (n:Int) (w:World):Calls prog 91 #[.bool true,g8 t,.int .i64 n] w fun e w'=>e=.returned (.tuple #[])∧Below w.heap.size w w':=by
 go_enter func91,ntmps91
 go_wp2
 first|(go_end0;exact ⟨rfl,(Hf _ _).alloc (Hh _) _⟩)|skip
theorem Dd (t:Tk) (n:Int) (w:World):Calls prog 91 #[.bool false,g8 t,.int .i64 n] w fun e w'=>e=Dc (n,t.pl)∧Below w.heap.size w w':=by
 obtain ⟨k,s,wd,m,pl⟩:=t
 unfold g8
 simp only
 generalize ((m / 18446744073709551616:Nat):Int)=hi
 generalize ((m % 18446744073709551616:Nat):Int)=lo
 obtain ⟨wa,hwa,hba,hsa,hl,x0,x1,x2,x3,x4,x5⟩:=bD w k wd hi lo pl ⟨s.toArray⟩
 go_enter func91,ntmps91
 go_wp2
 exact ⟨rfl,rfl,hba.out⟩
theorem rq (x:ByteArray) {w:World} {g:Nat} {l:List Tk} {V:Array Value} (h:bb w g l V):Calls prog 149 #[.pointer (some ⟨g,0,none⟩),.string x] w fun e w'=>e=.returned (.bool (bA x.data.toList l))∧Below w.heap.size w w':=by
 obtain ⟨b,o,cap,lt,bg,pos,le,ml,c0,f0,k0,k1,k2,k3,k4,k5⟩:=h.open_
 have hv:=aa (show bA x.data.toList l=((af l).s==x.data.toList&&((af l).kind==3 ||(af l).kind==1)) from rfl)
 generalize bA x.data.toList l=RES at hv ⊢
 clear h
 have hbl:b<w.heap.size:=by omega
 have lz:(0:Int)<(l.length:Int):=by omega
 generalize af l=t at k0 k1 k2 k3 k4 k5 hv
 obtain ⟨k,s,wd,m,pl⟩:=t
 simp only at k0 k1 k2 k3 k4 k5 hv
 obtain ⟨S,hS⟩:∃ S:ByteArray,S=⟨s.toArray⟩:=⟨_,rfl⟩
 have hsS:s=S.data.toList:=by rw [hS]
 rw [←hS] at k1
 rw [hsS] at hv
 clear hS hsS
 obtain ⟨wa,hwa,hba,hsa,hl,x0,x1,x2,x3,x4,x5⟩:=bD w k wd ((m:Int) / 18446744073709551616) ((m:Int) % 18446744073709551616) pl S
 have hr:RES=(decide (S=x)&&(decide (k=3) ||decide (k=1))):=by
  rw [hv.out]
  congr 1
  rw [Hr,beq_iff_eq,decide_eq_true_eq]
  exact ⟨fun e=>Go.WideShapes.bytes_inj (by rw [e]),fun e=>by rw [e]⟩
 replace hr:=aa hr
 clear hv
 go_enter func149,ntmps149
 by_cases hs:S=x
 focus
  have hq:=j0 hs
  by_cases h3:k=3
  have e3:((k:Int)==3)=true:=by rw [beq_iff_eq];omega
  have hf:RES=true:=by rw [hr.out];simp [hs,h3]
  clear hs h3
  rotate_right
  focus
   have e3:((k:Int)==3)=false:=by rw [beq_eq_false_iff_ne];omega
   by_cases h1:k=1
   have e1:((k:Int)==1)=true:=by rw [beq_iff_eq];omega
   have hf:RES=true:=by rw [hr.out];simp [hs,h1]
   clear hs h3 h1
   rotate_right
   have e1:((k:Int)==1)=false:=by rw [beq_eq_false_iff_ne];omega
   have hf:RES=false:=by rw [hr.out];simp [h3,h1]
   clear hs h3 h1
 rotate_right
 have hq:=mD hs
 have hf:RES=false:=by rw [hr.out];simp [hs]
 clear hs
 all_goals
  subst hf
  go_wp2
  go_ret
  exact ⟨rfl,hba.out⟩
end
section
attribute [local go_sem] run_panic_iface
theorem bb.setNew {g r i:Nat} {W:World} {l:List Tk} {V:Array Value} (h:bb W g l V) (hr:g<r) (v:Value):bb (W.setCell ⟨r,i,none⟩ v) g l V:=
 h.below (B:=g+1) ((Hf _ _).setCell (by show g+1≤r;omega) _) (HA _)
theorem wj {g r:Nat} {w W:World} {l:List Tk} {V:Array Value} (hG:ay g w W) (hR:bb W g l V) (hr:w.heap.size≤r) (hg:g<r) (a0 a1 a2 a3 a4 a5:Value):
  ay g w ((((((W.setCell ⟨r,0,none⟩ a0).setCell ⟨r,1,none⟩ a1).setCell ⟨r,2,none⟩ a2).setCell ⟨r,3,none⟩ a3).setCell ⟨r,4,none⟩ a4).setCell ⟨r,5,none⟩ a5)∧bb ((((((W.setCell ⟨r,0,none⟩ a0).setCell ⟨r,1,none⟩ a1).setCell ⟨r,2,none⟩ a2).setCell ⟨r,3,none⟩ a3).setCell ⟨r,4,none⟩ a4).setCell ⟨r,5,none⟩ a5) g l V:=
 ⟨(((((hG.setNew hr _).setNew hr _).setNew hr _).setNew hr _).setNew hr _).setNew hr _,(((((hR.setNew hg _).setNew hg _).setNew hg _).setNew hg _).setNew hg _).setNew hg _⟩
theorem bb.step {w:World} {g b o cap:Nat} {l:List Tk} {V:Array Value} (h:bb w g l V) (hO:w.cell? ⟨g,13,none⟩=some (.slice (some ⟨b,o,none⟩) l.length cap)) (hk:(af l).kind≠0):
  bb (w.setCell ⟨g,13,none⟩ (.slice (some ⟨b,o+6,none⟩) (l.length-1) (cap-1))) g (ae l) V:=by
 have hA:=ik h.1 hk
 have hd:ae l=l.tail:=by unfold ae;rw [if_neg hk]
 obtain ⟨h0,hv,A,cap',h1,h2,h3,h4⟩:=h
 have hc:A=some ⟨b,o,none⟩∧cap'=cap:=by
  have h13:(V.push (.slice A l.length cap'))[13]? =some (.slice A l.length cap'):=by rw [Array.getElem?_push,if_pos hv.symm]
  have h14:w.cell? ⟨g,13,none⟩=(V.push (.slice A l.length cap'))[13]? :=by simp [World.cell?,h3]
  rw [h14,h13] at hO
  injection hO with hO
  injection hO with e1 e2 e3
  exact ⟨e1,e3⟩
 obtain ⟨rfl,rfl⟩:=hc
 refine ⟨h0.adv,hv,some ⟨b,o+6,none⟩,cap'-1,by omega,by omega,?_,?_⟩
 ·have:(w.setCell ⟨g,13,none⟩ (.slice (some ⟨b,o+6,none⟩) (l.length-1) (cap'-1))).heap[g]? =some (.cells ((V.push (.slice (some ⟨b,o,none⟩) l.length cap')).setIfInBounds 13 (.slice (some ⟨b,o+6,none⟩) (l.length-1) (cap'-1))) 94 (0,0)):=by
   simp [World.setCell,Array.getElem?_modify,h3]
  rw [this,show (ae l).length=l.length-1 by omega]
  congr 2
  apply Array.ext_getElem?
  intro i
  rw [Ih,Array.getElem?_push,Array.getElem?_push,hv]
  by_cases hi:13=i
  ·subst hi;simp [hv]
  ·simp [hi,Ne.symm hi,show ¬i=13 by omega]
 ·have h5:Sl 6 zr w g (some ⟨b,o+6,none⟩) (ae l):=by
   rw [hd]
   refine ⟨by rw [List.length_tail];have:=h4.1;omega,fun i x hx=> ?_⟩
   rw [List.getElem?_tail] at hx
   obtain ⟨b',o',ecs,e1,e2,e3,e4,e5⟩:=h4.2 (i+1) x hx
   injection e1 with e1
   injection e1 with e1 e6 e7
   subst e1 e6
   refine ⟨b,o+6,ecs,rfl,e2,e3,fun j u hu=> ?_,e5⟩
   have:=e4 j u hu
   rw [show o+6+i*6+j=o+(i+1)*6+j by omega]
   exact this
  exact h5.keep gY fun q hq=>World.cell?_of_block (Below.heap_setCell w ⟨g,13,none⟩ _ q.block (by show q.block≠g;omega))
theorem jF {w:World} {g:Nat} {l:List Tk} {V:Array Value} (h:bb w g l V):Calls prog 145 #[.pointer (some ⟨g,0,none⟩)] w fun e w'=>e=.returned (g8 (af l))∧ay g w w'∧bb w' g (ae l) V:=by
 obtain ⟨b,o,cap,hO⟩:=h.open_
 obtain ⟨lt,bg,pos,le,ml,c0,f0,k0,k1,k2,k3,k4,k5⟩:=hO
 obtain ⟨wa,hwa,hba,hsa,hla,z0,z1,z2,z3,z4,z5⟩:=bD w 0 0 0 0 0 ⟨#[]⟩
 have hfa:∀ i,wa.frozen? ⟨w.heap.size,i,none⟩=false:=by intro i;rw [←hwa];exact World.frozen?_alloc_at _ _ _ _ rfl
 have kk:=ah hba.out
 have d0:=(kk.1 g 13 lt).trans c0
 have e0:=(kk.2 g 13 lt).trans f0
 have hbl:b<w.heap.size:=by omega
 have q0:=(kk.1 b o hbl).trans k0
 have q1:=(kk.1 b (o+1) hbl).trans k1
 have q2:=(kk.1 b (o+2) hbl).trans k2
 have q3:=(kk.1 b (o+3) hbl).trans k3
 have q4:=(kk.1 b (o+4) hbl).trans k4
 have q5:=(kk.1 b (o+5) hbl).trans k5
 have hRa:=h.below hba.out lt
 have hGa:=ay.of (g:=g) hba.out
 have hlg:g<wa.heap.size:=by omega
 have hlb:b<wa.heap.size:=by omega
 have lz:(0:Int)<(l.length:Int):=by omega
 have hk1:(af l).kind≠0→2≤cap:=fun hk=>by
  have h1:=ik h.1 hk
  have h2:=H3.2 h.1.adv.ne
  omega
 have hadv0:(af l).kind=0→ae l=l:=fun hk=>by unfold ae;rw [if_pos hk]
 have hstep:=fun (W:World) (hW:bb W g l V) (hc:W.cell? ⟨g,13,none⟩=some (.slice (some ⟨b,o,none⟩) l.length cap)) (hk:(af l).kind≠0)=>hW.step hc hk
 clear k0 k1 k2 k3 k4 k5 c0 f0 kk
 generalize af l=t at q0 q1 q2 q3 q4 q5 hk1 hadv0 hstep ⊢
 obtain ⟨k,s,wd,m,pl⟩:=t
 simp only at q0 q1 q2 q3 q4 q5 hk1 hadv0 hstep
 unfold g8
 simp only
 generalize (⟨s.toArray⟩:ByteArray)=S at q1 ⊢
 generalize ((m / 18446744073709551616:Nat):Int)=hi at q3 ⊢
 generalize ((m % 18446744073709551616:Nat):Int)=lo at q4 ⊢
 obtain ⟨wb,hwb,hbb,hsb,hlb2,x0,x1,x2,x3,x4,x5⟩:=bD wa k wd hi lo pl S
 have kb:=ah hbb.out
 have d0':=(kb.1 g 13 hlg).trans d0
 have e0':=(kb.2 g 13 hlg).trans e0
 have hRb:=hRa.below hbb.out hlg
 have hGb:=hGa.trans (ay.of (g:=g) hbb.out)
 have y0:=(kb.1 w.heap.size 0 hla).trans z0
 have y1:=(kb.1 w.heap.size 1 hla).trans z1
 have y2:=(kb.1 w.heap.size 2 hla).trans z2
 have y3:=(kb.1 w.heap.size 3 hla).trans z3
 have y4:=(kb.1 w.heap.size 4 hla).trans z4
 have y5:=(kb.1 w.heap.size 5 hla).trans z5
 have g0:=(kb.2 w.heap.size 0 hla).trans (hfa 0)
 have g1:=(kb.2 w.heap.size 1 hla).trans (hfa 1)
 have g2:=(kb.2 w.heap.size 2 hla).trans (hfa 2)
 have g3:=(kb.2 w.heap.size 3 hla).trans (hfa 3)
 have g4:=(kb.2 w.heap.size 4 hla).trans (hfa 4)
 have g5:=(kb.2 w.heap.size 5 hla).trans (hfa 5)
 have hgn:g≠w.heap.size:=by omega
 have hwn:w.heap.size≠g:=by omega
 have hlw:w.heap.size<wb.heap.size:=by omega
 have hlg2:g<wb.heap.size:=by omega
 have hpre:=aa hRb
 have hGp:=aa hGb
 have hstep':=aa (hstep wb hRb d0')
 clear h hRa hGa hRb hGb kb z0 z1 z2 z3 z4 z5 hfa hstep hba hbb
 go_enter func145,ntmps145
 by_cases hk:k=0
 ·have ek:((k:Int) !=0)=false:=by simp [hk]
  have ha:=aa (hadv0 hk)
  clear hk hk1 hadv0 hstep'
  go_wp2
  obtain ⟨r1,r2⟩:=wj (r:=w.heap.size) hGp.out hpre.out (Hh _) lt (.int .u8 (k:Int)) (.string S) (.int .i64 (wd:Int)) (.int .u64 hi) (.int .u64 lo) (.int .i64 (pl:Int))
  refine bodyPost_ret (v:=.agg #[.int .u8 (k:Int),.string S,.int .i64 (wd:Int),.int .u64 hi,.int .u64 lo,.int .i64 (pl:Int)]) (by simp [results,results145,go_sem,y0,y1,y2,y3,y4,y5]) rfl ⟨rfl,r1,?_⟩
  rw [ha.out]
  exact r2
 ·have ek:((k:Int) !=0)=true:=by simp;omega
  have hc2:=hk1 hk
  have hc1:¬cap=1:=by omega
  have hst:=aa (hstep'.out hk)
  have hz1:(1:Int)≤(l.length:Int):=by omega
  clear hk hk1 hadv0 hstep'
  go_wp2
  have hgs:=hGp.out.trans (ay.set g wb 13 (.slice (some ⟨b,o+6,none⟩) (l.length-1) (cap-1)))
  refine bodyPost_ret (v:=.agg #[.int .u8 (k:Int),.string S,.int .i64 (wd:Int),.int .u64 hi,.int .u64 lo,.int .i64 (pl:Int)]) (by simp [results,results145,go_sem,y0,y1,y2,y3,y4,y5,hgn,hwn]) rfl ⟨rfl,?_⟩
  exact wj (r:=w.heap.size) hgs hst.out (Hh _) lt (.int .u8 (k:Int)) (.string S) (.int .i64 (wd:Int)) (.int .u64 hi) (.int .u64 lo) (.int .i64 (pl:Int))
end
section
attribute [local go_sem] run_panic_iface
theorem Fk {wa w2:World} {r g:Nat} (hG:ay g wa w2) (hr:r<wa.heap.size) (hn:r≠g) {v0 v1 v2 v3 v4 v5:Value} (z0:wa.cell? ⟨r,0,none⟩=some v0) (z1:wa.cell? ⟨r,1,none⟩=some v1) (z2:wa.cell? ⟨r,2,none⟩=some v2) (z3:wa.cell? ⟨r,3,none⟩=some v3) (z4:wa.cell? ⟨r,4,none⟩=some v4) (z5:wa.cell? ⟨r,5,none⟩=some v5) (hf:∀ i,wa.frozen? ⟨r,i,none⟩=false):
  w2.cell? ⟨r,0,none⟩=some v0∧w2.cell? ⟨r,1,none⟩=some v1∧w2.cell? ⟨r,2,none⟩=some v2∧w2.cell? ⟨r,3,none⟩=some v3∧w2.cell? ⟨r,4,none⟩=some v4∧w2.cell? ⟨r,5,none⟩=some v5∧∀ i,w2.frozen? ⟨r,i,none⟩=false:=
 ⟨(hG.cell hr hn).trans z0,(hG.cell hr hn).trans z1,(hG.cell hr hn).trans z2,(hG.cell hr hn).trans z3,(hG.cell hr hn).trans z4,(hG.cell hr hn).trans z5,fun i=>(hG.frozen hr hn).trans (hf i)⟩
end
section
attribute [local go_sem] run_panic_iface
theorem ay.blk {g k:Nat} {a b:World} (h:ay g a b) (hk:k<a.heap.size) (hn:k≠g):b.heap[k]? =a.heap[k]? :=h.block k hk (by simp;exact hn)
theorem kZ (x:ByteArray) {w:World} {g:Nat} {l:List Tk} {V:Array Value} (h:bb w g l V) (hi:bA x.data.toList l=true):Calls prog 146 #[.pointer (some ⟨g,0,none⟩),.string x] w fun e w'=>e=.returned (.tuple #[])∧ay g w w'∧bb w' g (ae l) V:=by
 obtain ⟨b,o,cap,lt,bg,pos,le,ml,c0,f0,k0,k1,k2,k3,k4,k5⟩:=h.open_
 have hI:=fun d os=>rq x (h.below (below_regrown w d os) lt)
 rw [hi] at hI
 replace hI:=aa hI
 have hgc:=vB w
 have hbl:b<w.heap.size:=by omega
 have lz:(0:Int)<(l.length:Int):=by omega
 have hA:=aa (fun (W:World)=>aY (af l) 4 W)
 have hN:=aa (fun (W:World) (hW:Below w.heap.size w W)=>jF (h.below hW lt))
 generalize af l=t at k0 k1 k2 k3 k4 k5 hA hN
 obtain ⟨k,s,wd,m,pl⟩:=t
 unfold g8 at hA hN
 simp only at k0 k1 k2 k3 k4 k5 hA hN
 generalize (⟨s.toArray⟩:ByteArray)=S at k1 hA hN
 generalize ((m / 18446744073709551616:Nat):Int)=hi at k3 hA hN
 generalize ((m % 18446744073709551616:Nat):Int)=lo at k4 hA hN
 clear f0 h
 go_enter func146,ntmps146
 go_wp2_with fail
 refine et 9 (by kernel_rfl) (by kernel_rfl) ?_
 simp only [List.take_succ_cons,List.take_zero,List.drop_succ_cons,HX]
 repeat (any_goals (first|go_big_quiet_step ((go_at_call 149;with_reducible exact Hi (hI.out _ _)))|quiet_step ((go_at_call 149;with_reducible exact Hi (hI.out _ _)))))
 refine wpQuiet_nil ?_
 intro w1 hw1
 go_wp2_with (first
  |(go_at_call 91;refine (hA.out _).mono ?_;rintro e w2 ⟨rfl,hb2⟩;have hb3:=hw1.trans (hb2.mono hw1.size))
  |(go_at_call 145;refine (hN.out _ hb3).mono ?_;rintro e w4 ⟨rfl,hG4,hR4⟩))
 go_end0
 exact ⟨rfl,(ay.of hb3).trans hG4,hR4⟩
theorem fB {w:World} {g:Nat} {l:List Tk} {V:Array Value} (h:bb w g l V) (hk:(af l).kind=2):
  Calls prog 151 #[.pointer (some ⟨g,0,none⟩)] w fun e w'=>e=.returned (g8 (af l))∧ay g w w'∧bb w' g (ae l) V:=by
 have lt:=h.lt
 obtain ⟨wa,hwa,hba,hsa,hla,z0,z1,z2,z3,z4,z5⟩:=bD w 0 0 0 0 0 ⟨#[]⟩
 have hfa:∀ i,wa.frozen? ⟨w.heap.size,i,none⟩=false:=by intro i;rw [←hwa];exact World.frozen?_alloc_at _ _ _ _ rfl
 have hRa:=h.below hba.out lt
 have hN:=aa (jF hRa)
 have hGa:=aa (ay.of (g:=g) hba.out)
 have hA:=aa (fun (W:World)=>aY (af l) 4 W)
 generalize af l=t at hN hk hA ⊢
 obtain ⟨k,s,wd,m,pl⟩:=t
 unfold g8 at hA hN ⊢
 simp only at hA hN hk ⊢
 have ek:((k:Int)==2)=true:=by rw [beq_iff_eq];omega
 generalize (⟨s.toArray⟩:ByteArray)=S at hA hN ⊢
 generalize hhi:((m / 18446744073709551616:Nat):Int)=hi at hA hN ⊢
 generalize hlo:((m % 18446744073709551616:Nat):Int)=lo at hA hN ⊢
 clear h hhi hlo hk
 have hwg:w.heap.size≠g:=by omega
 have hgw:g≠w.heap.size:=by omega
 go_enter func151,ntmps151
 go_upto_region 2 with (go_at_call 145;refine hN.out.mono ?_;rintro e w2 ⟨rfl,hG2,hR2⟩;obtain ⟨w3,hw3,hb3,hs3,hl3,x0,x1,x2,x3,x4,x5⟩:=bD w2 k wd hi lo pl S)
 have hG3:=hG2.trans (ay.of (g:=g) hb3.out)
 obtain ⟨u0,u1,u2,u3,u4,u5,uf⟩:=Fk hG3 hla hwg z0 z1 z2 z3 z4 z5 hfa
 have hR3:=aa (hR2.below hb3.out hR2.lt)
 have hz3:=hG3.size
 have hz2:=hG2.size
 have hne1:w2.heap.size≠w.heap.size:=by omega
 have hne2:w.heap.size≠w2.heap.size:=by omega
 have g0:=uf 0
 have g1:=uf 1
 have g2:=uf 2
 have g3:=uf 3
 have g4:=uf 4
 have g5:=uf 5
 have hlw:w.heap.size<w3.heap.size:=by omega
 have hG3w:=aa (hGa.out.trans hG3)
 clear hG2 hR2 hw3 hb3 hs3 uf z0 z1 z2 z3 z4 z5 hfa hN hG3 hRa hz3 hz2
 go_wp2_with (go_at_call 91;refine (hA.out _).mono ?_;rintro e w5 ⟨rfl,hb5⟩;have kk:=ah hb5;have p0:=(kk.1 _ 0 hlw).trans u0;have p1:=(kk.1 _ 1 hlw).trans u1;have p2:=(kk.1 _ 2 hlw).trans u2;have p3:=(kk.1 _ 3 hlw).trans u3;have p4:=(kk.1 _ 4 hlw).trans u4;have p5:=(kk.1 _ 5 hlw).trans u5;have r0:=(kk.2 _ 0 hlw).trans g0;have r1:=(kk.2 _ 1 hlw).trans g1;have r2:=(kk.2 _ 2 hlw).trans g2;have r3:=(kk.2 _ 3 hlw).trans g3;have r4:=(kk.2 _ 4 hlw).trans g4;have r5:=(kk.2 _ 5 hlw).trans g5;have n0:=(kk.1 _ 0 hl3).trans x0;have n1:=(kk.1 _ 1 hl3).trans x1;have n2:=(kk.1 _ 2 hl3).trans x2;have n3:=(kk.1 _ 3 hl3).trans x3;have n4:=(kk.1 _ 4 hl3).trans x4;have n5:=(kk.1 _ 5 hl3).trans x5)
 obtain ⟨q1,q2⟩:=wj (r:=w.heap.size) (hG3w.out.trans (ay.of hb5)) (hR3.out.below hb5 hR3.out.lt) (Hh _) lt (.int .u8 (k:Int)) (.string S) (.int .i64 (wd:Int)) (.int .u64 hi) (.int .u64 lo) (.int .i64 (pl:Int))
 refine bodyPost_ret (v:=.agg #[.int .u8 (k:Int),.string S,.int .i64 (wd:Int),.int .u64 hi,.int .u64 lo,.int .i64 (pl:Int)]) (by simp [results,results151,go_sem,p0,p1,p2,p3,p4,p5]) rfl ⟨rfl,q1,q2⟩
theorem sJ {w:World} {g:Nat} {l:List Tk} {V:Array Value} {mm:Int} {A:Option Addr} {cap:Nat} {ns:List ByteArray} (h:bb w g l V) (hg0:2<g) (hm:w.cell? ⟨2,0,none⟩=some (.int .i64 mm)) (hS:Sl 1 bZ w g A ns) (hk:rm (af l)=true) (hin:iH l∈ns):
  Calls prog 90 #[.pointer (some ⟨g,0,none⟩),.slice A ns.length cap] w fun e w'=>e=.returned (.int .i64 (aU ns (iH l)))∧ay g w w'∧bb w' g (ae l) V:=by
 have lt:=h.lt
 have hN:=aa (jF h)
 have hsz:=h.1.head
 have hA:=aa (fun (n:Int) (W:World)=>aY (af l) n W)
 unfold rm at hk
 unfold iH at hin ⊢
 generalize af l=t at hN hsz hA hk hin ⊢
 obtain ⟨k,s,wd,m,pl⟩:=t
 unfold g8 at hA hN
 simp only at hk hin hA hN hsz ⊢
 rw [Hl,beq_iff_eq] at hk
 obtain ⟨hk1,hnm⟩:=hk
 have ek:((k:Int)==1)=true:=by rw [beq_iff_eq];omega
 have hI:=aa (fun (W:World) (hW:W.cell? ⟨2,0,none⟩=some (.int .i64 mm))=>mJ ⟨s.toArray⟩ mm W (by show s.toArray.size≤_;simp;unfold maxLen;omega) hW)
 rw [hnm] at hI
 have hz0:decide (0≤aU ns ⟨s.toArray⟩)=true:=decide_eq_true (by unfold aU;rw [if_pos hin];exact Int.natCast_nonneg _)
 have hX:=aa (fun (W:World) (hW:Sl 1 bZ W W.heap.size A ns)=>kY A cap ns ⟨s.toArray⟩ W hW)
 generalize (⟨s.toArray⟩:ByteArray)=S at hI hA hN hX hz0 ⊢
 generalize aU ns S=ix at hz0 hX ⊢
 generalize hhi:((m / 18446744073709551616:Nat):Int)=hi at hA hN
 generalize hlo:((m % 18446744073709551616:Nat):Int)=lo at hA hN
 clear h hhi hlo hsz hin hk1 hnm
 go_enter func90,ntmps90
 go_upto_region 2 with (go_at_call 145;refine hN.out.mono ?_;rintro e w2 ⟨rfl,hG2,hR2⟩;obtain ⟨w3,hw3,hb3,hs3,hl3,x0,x1,x2,x3,x4,x5⟩:=bD w2 k wd hi lo pl S)
 have hG3:=aa (hG2.trans (ay.of (g:=g) hb3.out))
 have hm3:w3.cell? ⟨2,0,none⟩=some (.int .i64 mm):=(hG3.out.cell (by omega) (by omega)).trans hm
 have hR3:=aa (hR2.below hb3.out hR2.lt)
 have hz3:=hG3.out.size
 have hIq:=aa (fun d os=>(hI.out (Ht (redrawn w3 d) os) ((vB w3 d os _ 0 (by omega)).trans hm3)).mono fun e w' h=>(⟨h.1,h.2 ▸ Hf _ _⟩:e=.returned (.bool true)∧Below (Ht (redrawn w3 d) os).heap.size (Ht (redrawn w3 d) os) w'))
 have hgc:=vB w3
 have hS3:=aa (fun (W:World) (hW:Below w3.heap.size w3 W)=>(hS.keep av fun q hq=>(hW.cell (He (HB hq lt) hz3)).trans (World.cell?_of_block (hG3.out.blk (HB hq lt) (HW hq)))).more av (Hj (Hs lt) (Hj hz3 hW.size)))
 clear hG2 hR2 hw3 hb3 hs3 hN hI hm3 hm
 have hgw:=aE (show Below w3.heap.size w3 w3 from Hf _ _) (Hh _)
 clear hgc
 go_wp2_with fail
 refine bV ?_
 repeat (any_goals (first|go_big_quiet_step (first|(go_at_call 29;with_reducible exact Hi (hIq.out _ _))|(go_at_call 91;with_reducible exact Hi (hA.out _ _)))|quiet_step (first|(go_at_call 29;with_reducible exact Hi (hIq.out _ _))|(go_at_call 91;with_reducible exact Hi (hA.out _ _)))))
 refine wpQuiet_nil ?_
 intro w4 hw4
 replace hw4:=ac hw4
 have kk:=ah hw4
 have n0:=(kk.1 _ 0 hl3).trans x0
 have n1:=(kk.1 _ 1 hl3).trans x1
 have n2:=(kk.1 _ 2 hl3).trans x2
 have n3:=(kk.1 _ 3 hl3).trans x3
 have n4:=(kk.1 _ 4 hl3).trans x4
 have n5:=(kk.1 _ 5 hl3).trans x5
 have hl4:=He hl3 hw4.size
 have hX4:=aa (hX.out w4 (hS3.out w4 hw4))
 have hRf:=aa (fun (W:World) (hW:Below w3.heap.size w3 W)=>(⟨hG3.out.trans (ay.of hW),hR3.out.below hW hR3.out.lt⟩:ay g w W∧bb W g (ae l) V))
 clear hgw kk x0 x1 x2 x3 x4 x5 hS3 hX hIq hG3 hR3
 go_wp2_with (first
  |(go_at_call 30;refine hX4.out.mono ?_;rintro e w5 ⟨rfl,rfl⟩)
  |(go_at_call 91;refine (hA.out _ _).mono ?_;rintro e w6 ⟨rfl,hb6⟩))
 go_ret
 obtain ⟨r1,r2⟩:=hRf.out _ (hw4.trans (hb6.mono hw4.size))
 exact ⟨rfl,r1,r2⟩
end
abbrev Fm:=(Bool×Bool×Bool×Bool)×Int
def GT (f:Fm):Value:=.agg #[.bool f.1.1,.bool f.1.2.1,.bool f.1.2.2.1,.bool f.1.2.2.2,.int .i64 f.2]
abbrev FF:=List (Int×Fm)
def fL (o:Nat) (M:FF):List MapEntry:=(M.zipIdx o).map fun x=>⟨.int .u8 x.1.1,GT x.1.2,x.2⟩
def FS (M:FF):Array MapEntry:=(fL 0 M).toArray
def De (w:World) (b:Nat) (M:FF):Prop:=w.heap[b]? =some (.map (FS M) M.length)
theorem De.lt {w:World} {b:Nat} {M:FF} (h:De w b M):b<w.heap.size:=by
 rcases Nat.lt_or_ge b w.heap.size with h1|h1
 ·exact h1
 ·unfold De at h;rw [Array.getElem?_eq_none h1] at h;cases h
theorem De.alloc {w:World} {b:Nat} {M:FF} (h:De w b M) (o:Obj):De (w.alloc o) b M:=(Below.heap_alloc w o b h.lt).trans h
theorem De.below {w w':World} {b B:Nat} {M:FF} (h:De w b M) (hb:Below B w w') (hB:b<B):De w' b M:=(hb.block b hB).trans h
def iB (a b:Int):Int:=if a<b then-1 else if b<a then 1 else 0
theorem x9 (a:Int) (w:World):Calls prog 234 #[.int .u64 a] w fun e w'=>e=.returned (.bool false)∧w=w':=by
 go_enter func234,ntmps234
 go_wp2
 go_ret
 exact ⟨ad (by simp),rfl⟩
theorem ld (a b:Int) (w:World):Calls prog 206 #[.int .u64 a,.int .u64 b] w fun e w'=>e=.returned (.int .i64 (iB a b))∧w'=w:=by
 go_enter func206,ntmps206
 by_cases h1:a<b
 have hv:=aa (show iB a b= -1 from by unfold iB;rw [if_pos h1])
 rotate_right
 focus
  by_cases h2:b<a
  have hv:=aa (show iB a b=1 from by unfold iB;rw [if_neg h1,if_pos h2])
  rotate_right
  have hv:=aa (show iB a b=0 from by unfold iB;rw [if_neg h1,if_neg h2])
 all_goals
  go_wp2_with (go_at_call 234;refine (x9 _ _).mono ?_;rintro e w' ⟨rfl,rfl⟩)
  go_ret
  exact ⟨aq hv.out.symm,rfl⟩
def Df (x y:Int):Int:=if x=0 then y else x
theorem yb (x y:Int) (b:Nat) (w:World) (h0:w.cell? ⟨b,0,none⟩=some (.int .i64 x)) (h1:w.cell? ⟨b,1,none⟩=some (.int .i64 y)):
  Calls prog 205 #[.slice (some ⟨b,0,none⟩) 2 2] w fun e w'=>e=.returned (.int .i64 (Df x y))∧w=w':=by
 have hc:∀ k:Nat,k<2→w.cell? ⟨b,k,none⟩=some (.int .i64 (if k=0 then x else y)):=fun k hk=>by
  rcases k with _|_|k
  ·exact h0
  ·exact h1
  ·omega
 replace hc:=aa hc
 clear h0 h1
 go_enter func205,ntmps205
 go_wp2
 go_loop [8] (fun i=>∃ k:Nat,k≤2∧i=.int .i64 k∧Hid (1≤k→x=0)∧Hid (2≤k→y=0)) (fun i=>2-(intOf i).toNat)
 case atStart=>exact ⟨0,by omega,rfl,aa (by omega),aa (by omega)⟩
 case round=>
  obtain ⟨k,hk,rfl,hx,hy⟩:=hrel
  by_cases hlt:k<2
  ·have hcell:=hc.out k hlt
   have hltz:(k:Int)<2:=by omega
   generalize hz:(if k=0 then x else y)=z at hcell
   replace hz:=aa hz
   by_cases h0:z=0
   ·have hb:(z !=0)=false:=by simpa using h0
    have h0':=aa h0
    clear h0
    go_wp2
    go_round
    case rel=>
     refine ⟨k+1,by omega,by go_num,aa fun _=> ?_,aa fun h2=> ?_⟩
     ·by_cases hk0:k=0
      ·have:=hz.out;rw [if_pos hk0] at this;rw [this];exact h0'.out
      ·exact hx.out (by omega)
     ·have:=hz.out;rw [if_neg (by omega)] at this;rw [this];exact h0'.out
    case measure=>simp [intOf];omega
   ·have hb:(z !=0)=true:=by simpa using h0
    have hv:=aa (show Df x y=z from by
     unfold Df
     by_cases hk0:k=0
     ·have:=hz.out;rw [if_pos hk0] at this;subst this;rw [if_neg h0]
     ·have:=hz.out;rw [if_neg hk0] at this;rw [if_pos (hx.out (by omega))];exact this)
    clear h0
    go_wp2
    go_ret
    exact ⟨aq hv.out.symm,rfl⟩
  ·have hv:=aa (show Df x y=0 from by unfold Df;rw [if_pos (hx.out (by omega))];exact hy.out (by omega))
   go_wp2
   go_ret
   exact ⟨aq hv.out.symm,rfl⟩
theorem Dg (a b c d:Int) (w:World):Calls prog 184 #[.agg #[.int .u64 a,.int .u64 b],.agg #[.int .u64 c,.int .u64 d]] w fun e w'=>e=.returned (.int .i64 (Df (iB a c) (iB b d)))∧Below w.heap.size w w':=by
 go_enter func184,ntmps184
 go_wp2_with fail
 refine wp_region_still_tail 10 (by kernel_rfl) (by kernel_rfl) ?_
 simp only [List.take_succ_cons,List.take_zero,List.drop_succ_cons,HX]
 change wpStill _ _ (World.drew _) _ _ _
 iterate 4 still_step
 still_call (ld _ _ _)
 iterate 4 still_step
 still_call (ld _ _ _)
 refine wpStill_nil ?_
 change wpList _ _ _ _ _ (World.drew _)
 go_wp2_with fail
 refine (yb (iB a c) (iB b d) _ _ (by go_simp) (by go_simp)).mono ?_
 rintro e w1 ⟨rfl,rfl⟩
 go_wp2
 go_ret
 exact ⟨rfl,((((Hf _ _).alloc (Hh _) _).alloc (by simp) _).alloc (by simp;omega) _).drew⟩
theorem EK (a:Int) (w:World):Calls prog 185 #[.int .u64 a] w fun e w'=>e=.returned (.agg #[.int .u64 0,.int .u64 a])∧Below w.heap.size w w':=by
 go_enter func185,ntmps185
 go_wp2
 exact bodyPost_ret (v:=.agg #[.int .u64 0,.int .u64 a]) (by simp [results,results185,go_sem]) rfl ⟨rfl,(Hf _ _).alloc (Hh _) _⟩
section
attribute [local go_sem] run_panic_iface
theorem sK (t:Tk) (y:Int) (w:World) (h:cT t y=true) (h128:t.n<2 ^ 128):Calls prog 180 #[g8 t,.int .i64 y] w fun e w'=>e=.returned (.tuple #[])∧Below w.heap.size w w':=by
 obtain ⟨k,s,wd,m,pl⟩:=t
 have hA1:=aa (fun (W:World)=>aY ⟨k,s,wd,m,pl⟩ 10 W)
 have hA2:=aa (fun (W:World)=>aY ⟨k,s,wd,m,pl⟩ 5 W)
 unfold cT at h
 unfold g8 at hA1 hA2 ⊢
 simp only at h h128 hA1 hA2 ⊢
 rw [Hl,HQ,decide_eq_true_eq,decide_eq_true_eq,decide_eq_true_eq] at h
 obtain ⟨h1,h2⟩:=h
 obtain ⟨u1,u2⟩:=da h128
 have hF:=aa (fun (W:World)=>cL _ _ y W ⟨u1,u2⟩)
 rw [iR u1 u2,jE,decide_eq_true h2] at hF
 generalize (⟨s.toArray⟩:ByteArray)=S at hA1 hA2 ⊢
 generalize ((m / 18446744073709551616:Nat):Int)=hi at hA1 hA2 hF ⊢
 generalize ((m % 18446744073709551616:Nat):Int)=lo at hA1 hA2 hF ⊢
 obtain ⟨wa,hwa,hba,hsa,hl,x0,x1,x2,x3,x4,x5⟩:=bD w k wd hi lo pl S
 clear h2 u1 u2
 by_cases hz:wd=0
 have e0:((wd:Int)==0)=true:=by rw [beq_iff_eq];omega
 rotate_right
 focus
  have e0:((wd:Int)==0)=false:=by rw [beq_eq_false_iff_ne];omega
  have e1:((wd:Int)==y)=true:=by
   rcases h1 with h1|h1
   ·exact absurd h1 hz
   ·rw [beq_iff_eq];exact h1
 all_goals
  clear h1 hz
  go_enter func180,ntmps180
  go_wp2_with (go_at_call 91;refine (hA1.out _).mono ?_;rintro e w1 ⟨rfl,hb1⟩)
  have kk:=ah hb1
  have y0:=(kk.1 _ 0 hl).trans x0
  have y1:=(kk.1 _ 1 hl).trans x1
  have y2:=(kk.1 _ 2 hl).trans x2
  have y3:=(kk.1 _ 3 hl).trans x3
  have y4:=(kk.1 _ 4 hl).trans x4
  have y5:=(kk.1 _ 5 hl).trans x5
  have hl1:=He hl hb1.size
  have hgw:=aE (show Below w1.heap.size w1 w1 from Hf _ _) (Hh _)
  clear kk x0 x1 x2 x3 x4 x5
  refine bV ?_
  repeat (any_goals (first|go_big_quiet_step (first|(go_at_call 115;with_reducible exact Hi (hF.out _))|(go_at_call 91;with_reducible exact Hi (hA2.out _)))|quiet_step (first|(go_at_call 115;with_reducible exact Hi (hF.out _))|(go_at_call 91;with_reducible exact Hi (hA2.out _)))))
  refine wpQuiet_nil ?_
  intro w2 hw2
  replace hw2:=ac hw2
  go_wp2
  go_end0
  exact ⟨rfl,hba.out.trans ((hb1.trans (hw2.mono hb1.size)).mono (Hs hl))⟩
theorem EL {n:Nat} {most:Int} (h0:0≤most) (h1:most<18446744073709551616) (h:(n:Int)≤most):Df (iB ((n / 18446744073709551616:Nat):Int) 0) (iB ((n % 18446744073709551616:Nat):Int) most)≤0∧((n % 18446744073709551616:Nat):Int)=n:=by
 have e1:n / 18446744073709551616=0:=by omega
 have e2:n % 18446744073709551616=n:=by omega
 rw [e1,e2]
 refine ⟨?_,rfl⟩
 unfold Df iB
 by_cases h2:(n:Int)<most
 ·simp [h2]
 ·simp [h2,show ¬most<(n:Int) by omega]
theorem Bm (t:Tk) (most:Int) (w:World) (h:lL t most=true) (h0:0≤most) (h1:most<9223372036854775808):Calls prog 150 #[g8 t,.int .i64 most] w fun e w'=>e=.returned (.int .i64 (t.n:Int))∧Below w.heap.size w w':=by
 obtain ⟨k,s,wd,m,pl⟩:=t
 have hA1:=aa (fun (W:World)=>aY ⟨k,s,wd,m,pl⟩ 10 W)
 have hA2:=aa (fun (W:World)=>aY ⟨k,s,wd,m,pl⟩ 5 W)
 unfold lL at h
 unfold g8 at hA1 hA2 ⊢
 simp only at h hA1 hA2 ⊢
 rw [Hl,decide_eq_true_eq,decide_eq_true_eq] at h
 obtain ⟨rfl,h2⟩:=h
 obtain ⟨hc,hm⟩:=EL h0 (by omega) h2
 have hmi:(m:Int)<9223372036854775808:=by omega
 rw [←hm]
 rw [←hm] at hmi
 have hl0:(0:Int)≤((m % 18446744073709551616:Nat):Int):=by omega
 have hwm:IntKind.u64.wrap most=most:=by rw [IntKind.wrap_u64];omega
 have hO:=aa (fun (W:World)=>EK most W)
 have hC:=aa (fun (W:World)=>Dg ((m / 18446744073709551616:Nat):Int) ((m % 18446744073709551616:Nat):Int) 0 most W)
 generalize Df (iB ((m / 18446744073709551616:Nat):Int) 0) (iB ((m % 18446744073709551616:Nat):Int) most)=c at hc hC
 have dc:decide (c≤0)=true:=decide_eq_true hc
 clear hm hc h2
 generalize (⟨s.toArray⟩:ByteArray)=S at hA1 hA2 ⊢
 generalize ((m / 18446744073709551616:Nat):Int)=hi at hA1 hA2 hC ⊢
 generalize ((m % 18446744073709551616:Nat):Int)=lo at hA1 hA2 hC hmi hl0 ⊢
 have hwl:IntKind.i64.wrap lo=lo:=by rw [IntKind.wrap_i64];omega
 obtain ⟨wa,hwa,hba,hsa,hl,x0,x1,x2,x3,x4,x5⟩:=bD w k 0 hi lo pl S
 clear h0 h1 hl0 hmi
 go_enter func150,ntmps150
 go_wp2_with (go_at_call 91;refine (hA1.out _).mono ?_;rintro e w1 ⟨rfl,hb1⟩)
 have kk:=ah hb1
 have y0:=(kk.1 _ 0 hl).trans x0
 have y1:=(kk.1 _ 1 hl).trans x1
 have y2:=(kk.1 _ 2 hl).trans x2
 have y3:=(kk.1 _ 3 hl).trans x3
 have y4:=(kk.1 _ 4 hl).trans x4
 have y5:=(kk.1 _ 5 hl).trans x5
 have hl1:=He hl hb1.size
 have hgw:=aE (show Below w1.heap.size w1 w1 from Hf _ _) (Hh _)
 clear kk x0 x1 x2 x3 x4 x5
 refine bV ?_
 repeat (any_goals (first|go_big_quiet_step (first|(go_at_call 185;with_reducible exact Hi (hO.out _))|(go_at_call 184;with_reducible exact Hi (hC.out _))|(go_at_call 91;with_reducible exact Hi (hA2.out _)))|quiet_step (first|(go_at_call 185;with_reducible exact Hi (hO.out _))|(go_at_call 184;with_reducible exact Hi (hC.out _))|(go_at_call 91;with_reducible exact Hi (hA2.out _)))))
 refine wpQuiet_nil ?_
 intro w2 hw2
 replace hw2:=ac hw2
 have kk:=ah hw2
 have z4:=(kk.1 _ 4 hl1).trans y4
 have hl2:=He hl1 hw2.size
 clear kk hgw
 go_wp2
 go_ret
 exact ⟨rfl,hba.out.trans ((hb1.trans (hw2.mono hb1.size)).mono (Hs hl))⟩
end
end Go.Proofs.YtiebolhmdhdagaaGreatDoor
