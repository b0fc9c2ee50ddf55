import Derived.RangeFuncNested
import Derived.RangeFuncBound
import Derived.LoopIn
set_option linter.all false
namespace Go.Proofs.YtijcdfdbkffiaaaGreatDoor
open _root_.Nat renaming le_refl→Ht, le_trans→Hw
open _root_.List renaming mem_cons→HU
open _root_.Array renaming getElem?_eq_some_iff→Ir
open Go.RowKit
section
def G3 (P:Program) (l:Nat) (v:Value) (W:World) (R:World→Prop):Prop:=
 ∃ m,YieldAt Fence.wide m P l #[v] W fun e W'=>e=.returned (.bool true)∧R W'
structure Kp (ex:TypeId→Bool) (W W':World):Prop where
 os:W'.os=W.os
 tape:W'.tape=W.tape
 output:W'.output=W.output
 size:W.heap.size≤W'.heap.size
 same:∀ (k:Nat) (o:Obj),W.heap[k]? =some o→(∀ cs t fr,o=.cells cs t fr→ex t=false)→W'.heap[k]? =some o
section
variable {ex:TypeId→Bool} {A B C W W':World}
theorem Kp.refl (ex:TypeId→Bool) (W:World):Kp ex W W:=⟨rfl,rfl,rfl,Ht _,fun _ _ h _=>h⟩
theorem Kp.trans (h:Kp ex A B) (k:Kp ex B C):Kp ex A C:=
 ⟨k.os.trans h.os,k.tape.trans h.tape,k.output.trans h.output,Hw h.size k.size,fun i o hi ho=>k.same i o (h.same i o hi ho) ho⟩
theorem Kp.other (h:Kp ex W W') {k:Nat} {o:Obj} (hk:W.heap[k]? =some o) (ho:o.isCells=false):W'.heap[k]? =some o:=
 h.same k o hk (fun cs t fr e=>by subst e;cases ho)
theorem Kp.box (h:Kp ex W W') {k:Nat} {t:TypeId} {v:Value} (hk:Boxed W k t v) (ht:ex t=false):Boxed W' k t v:=
 h.same k _ hk (fun cs t' fr e=>by cases e;exact ht)
theorem Kp.own (h:Kp ex W W') {base:Nat} {e:TypeId} {size n:Nat} {v:Value} {xs:List Value} (ho:W.ownsRow base e size v n xs) (ht:ex e=false):W'.ownsRow base e size v n xs:=by
 refine ⟨ho.1,?_⟩
 rcases ho.2 with h2|⟨g,cap,cur,hv,hg,hh,r⟩
 ·exact .inl h2
 ·exact .inr ⟨g,cap,cur,hv,hg,h.same _ _ hh (fun cs t' fr e=>by cases e;exact ht),r⟩
end
def zY {α:Type} (P:Program) (gf:Nat) (lb:Array Value) (R:α→Value→World→Prop) (ex:TypeId→Bool) (xs:List α) (w:World):Prop:=
 ∀ (l:Nat) (J:Nat→World→Prop) (W:World),Below w.heap.size w W→OwnFrom W.heap.size J→
  (∀ k x v W1,xs[k]? =some x→J k W1→R x v W1→G3 P l v W1 fun W'=>J (k+1) W'∧Kp ex W1 W')→
  J 0 W→Calls P gf (#[.func (.yield l) #[] #[]]++lb) W fun e W'=>(∃ v,e=.returned v)∧J xs.length W'∧Kp ex W W'
theorem zY.later {α:Type} {P:Program} {gf:Nat} {lb:Array Value} {R:α→Value→World→Prop} {ex:TypeId→Bool} {xs:List α} {w w':World} (h:zY P gf lb R ex xs w) (hb:Below w.heap.size w w'):zY P gf lb R ex xs w':=
 fun l J W hW hJ hY h0=>h l J W (hb.trans (hW.mono hb.size)) hJ hY h0
def G4 (D:Nat):Deferred:= { target:=.collected D,args:=#[]}
def mc (B:Nat) (Ds:List Nat) (W:World):Prop:=Ds.Nodup∧∀ D∈Ds,B≤D∧W.heap[D]? =some (.deferred (some []))
theorem mc.nil (B:Nat) (W:World):mc B [] W:=⟨List.nodup_nil,fun _ h=>by simp at h⟩
theorem mc.cons {B D:Nat} {Ds:List Nat} {W W':World} (h:mc B Ds W) (hB:B≤W.heap.size) (hD:W.heap.size≤D) (hW:W'.heap[D]? =some (.deferred (some []))) (hk:∀ E∈Ds,W'.heap[E]? =some (.deferred (some []))):mc B (D::Ds) W':=
 ⟨List.nodup_cons.2 ⟨fun hm=>by have:=(Ir.1 (h.2 D hm).2).1;omega,h.1⟩,fun E hE=>by
  rcases HU.1 hE with rfl|hE
  ·exact ⟨by omega,hW⟩
  ·exact ⟨(h.2 E hE).1,hk E hE⟩⟩
end
end Go.Proofs.YtijcdfdbkffiaaaGreatDoor
