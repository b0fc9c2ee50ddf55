import Derived.Test.YtcgmkjpgaigmfaaGreatChk20
import Derived.Test.YtcgmkjpgaigmfaaGreatChk21
import Derived.Shelf.Abstract
import Derived.OwnWalkIn
import Derived.TacticsInMore
import Derived.LoopNIn
import Derived.Laws.EntriesVeiled
import Derived.Outline
import Derived.Shelf.AbstractIn
import Derived.StillTailTactics
set_option linter.all false
/-! Layer 7: the items, told one after another to a yield: many. -/
namespace Go.Proofs.YtcgmkjpgaigmfaaGreat
open Go.RowKit
attribute [local go_sem] Oper.semAt_some
def itC (x : It) (scs : List Value) : List Value := .int .u8 x.kind :: .int .i64 x.a :: .int .i64 x.b :: scs
def zStC : List Value := [.int .u8 0, .string strE, .string strE, .int .u8 0, .int .i64 0, .int .u64 0, .int .u64 0, .string strE, .string strE, .int .i64 0, .int .i64 0, .slice none 0 0, .slice none 0 0, .slice none 0 0]
theorem rSt_zero (w : World) (B : Nat) : rSt w B zStC zSt := by
 have he : rEx w B (exC 0 zLt strE strE 0 0 none ([] : List Ex).length 0) zEx := RE.intro ⟨by unfold u8; omega, by unfold okLt zLt i64 u64; simp, by decide, by decide, by unfold i64; omega, by unfold i64; omega⟩ (by simp [depthL, sm]) Sl.nil_
 exact RS.intro (thn := []) (els := []) (A := none) (A' := none) (cap := 0) (cap' := 0) ⟨by unfold u8; omega, by decide, by decide⟩ ⟨Nat.zero_le _, Nat.zero_le _⟩ he Sl.nil_ Sl.nil_
/-- What is handed to yield reads as an item, in the memory below B. -/
def itR (B : Nat) (x : It) (v : Value) (W : World) : Prop := ∃ cs : List Value, v = .agg cs.toArray ∧ rIt W B cs x
theorem itR_zero (B : Nat) (kind a b : Int) (W : World) : itR B ⟨kind, a, b, zSt⟩ (.agg #[.int .u8 kind, .int .i64 a, .int .i64 b, .int .u8 0, .string (ByteArray.mk #[]), .string (ByteArray.mk #[]), .int .u8 0, .int .i64 0, .int .u64 0, .int .u64 0, .string (ByteArray.mk #[]), .string (ByteArray.mk #[]), .int .i64 0, .int .i64 0, .slice none 0 0, .slice none 0 0, .slice none 0 0]) W :=
 ⟨_, rfl, _, rfl, rSt_zero W B⟩
def exI : TypeId → Bool := fun t => t == 3 || t == 33
/-- Does it go on at all places from j on, n of them? -/
def runB (g : Nat → Bool) (j n : Nat) : Bool := (List.range n).all fun i => g (j + i)
theorem runB_zero (g : Nat → Bool) (j : Nat) : runB g j 0 = true := rfl
theorem runB_add (g : Nat → Bool) (j a b : Nat) : runB g j (a + b) = (runB g j a && runB g (j + a) b) := by
 unfold runB
 rw [List.range_add, List.all_append, List.all_map]
 congr 2
 funext i
 simp [Nat.add_assoc]
theorem runB_one (g : Nat → Bool) (j : Nat) : runB g j 1 = g j := by simp [runB]
theorem runB_succ (g : Nat → Bool) (j a : Nat) : runB g j (a + 1) = (runB g j a && g (j + a)) := by rw [runB_add, runB_one]
theorem runB_stop {g : Nat → Bool} {j a n : Nat} (h : runB g j a = false) (hn : a ≤ n) : runB g j n = false := by
 obtain ⟨b, rfl⟩ := Nat.exists_eq_add_of_le hn
 rw [runB_add, h]; rfl
/-- The law of yield, over all items. -/
def Yl (l : Nat) (B : Nat) (xs : List It) (g : Nat → Bool) (J S : Nat → World → Prop) : Prop :=
 ∀ k x v W1, xs[k]? = some x → J k W1 → itR B x v W1 → YldS Tryz.prog l v W1 (g k) (fun W' => J (k + 1) W' ∧ Kp exI W1 W') (S k)
/-- What has been told: m of them from the j-th one on; or it was stopped. -/
def Told (n : Nat) (g : Nat → Bool) (J S : Nat → World → Prop) (W : World) (j m : Nat) (e : Ending) (W' : World) : Prop :=
 e = .returned (.bool (runB g j m)) ∧ (runB g j m = true → J (j + m) W' ∧ Kp exI W W') ∧ (runB g j m = false → ∃ k, k < n ∧ S k W')
theorem told_yes {n : Nat} {g : Nat → Bool} {J S : Nat → World → Prop} {W W' : World} {j m : Nat} (h : runB g j m = true) (hJ : J (j + m) W') (hk : Kp exI W W') : Told n g J S W j m (.returned (.bool true)) W' :=
 ⟨by rw [h], fun _ => ⟨hJ, hk⟩, fun h' => by rw [h] at h'; cases h'⟩
theorem told_no {n : Nat} {g : Nat → Bool} {J S : Nat → World → Prop} {W W' : World} {j m : Nat} (h : runB g j m = false) (hS : ∃ k, k < n ∧ S k W') : Told n g J S W j m (.returned (.bool false)) W' :=
 ⟨by rw [h], fun h' => (by rw [h] at h'; cases h'), fun _ => hS⟩
theorem own_step_none {B : Nat} {J : Nat → World → Prop} (h : OwnFrom B J) {k : Nat} {W W' : World} (hs : J k W) (hb : Below W.heap.size W W') : J k W' :=
 h k W W' none hs ⟨hb.os, hb.tape, hb.output, hb.size, fun i hi _ => hb.block i hi⟩ (fun r e => by cases e)
def muSlot (s n : Nat) (a : Act) (_ : World) : Nat := match a.tmps[s]? with
 | some (Value.int _ x) => ((n : Int) - x).toNat
 | _ => 0
set_option maxRecDepth 100000 in
set_option maxHeartbeats 2000000 in
theorem many_tells {l B : Nat} {xs : List It} {g : Nat → Bool} {J S : Nat → World → Prop} (hY : Yl l B xs g J S) (kind a : Int) (n j : Nat) (hn : n ≤ 9223372036854775807) (h : ∀ i : Nat, i < n → xs[j + i]? = some ⟨kind, a, (i : Int), zSt⟩) (W : World) (hJ : J j W) :
  Calls Tryz.prog 51 #[.int .u8 kind, .int .i64 a, .int .i64 (n : Int), .func (.yield l) #[] #[]] W (Told xs.length g J S W j n) := by
 refine (callsIn_wide (n := 3)).1 (callsIn_of_wp_marks Tryz.func51 rfl trivial ?_)
 simp only [Tryz.ntmps51, List.size_toArray, List.length_cons, List.length_nil, Nat.reduceAdd, Nat.reduceSub, Array.replicate_succ, Array.replicate_zero, List.push_toArray, List.append_toArray, List.nil_append, List.cons_append]
 gi_wp2
 refine wpIn_loop (fun a1 W' => ∃ (k : Nat) (u9 u12 u13 u14 u15 u16 u17 u18 u19 u20 u21 : Value), k ≤ n ∧ runB g j k = true ∧ J (j + k) W' ∧ Kp exI W W' ∧
   a1 = { tmps := #[.int .u8 kind, .int .i64 a, .int .i64 (n : Int), .func (.yield l) #[] #[], undef, undef, undef, undef, .bool false, u9, .int .i64 (n : Int), .int .i64 (k : Int), u12, u13, u14, u15, u16, u17, u18, u19, u20, u21], defers := [] })
   (muSlot 11 n) ⟨0, undef, undef, undef, undef, undef, undef, undef, undef, undef, undef, undef, Nat.zero_le _, runB_zero _ _, hJ, Kp.refl _ _, rfl⟩ ?_
 rintro a1 W' ⟨k, u9, u12, u13, u14, u15, u16, u17, u18, u19, u20, u21, hk, hrun, hJ', hkp, rfl⟩
 by_cases hlt : k < n
 ·have hlt1 : (k : Int) < (n : Int) := by omega
  obtain ⟨mm, fn, tmps, assign, body, hy, hR⟩ := hY _ _ _ W' (h k hlt) hJ' (itR_zero B kind a (k : Int) W')
  have hx0 := hide (h k hlt)
  have hsuc := hide (runB_succ g j k)
  have hrun' := hide hrun
  clear h hJ hJ' hrun
  gi_wp2
  refine (round_wide0 hR).mono ?_
  rintro e W3 ⟨rfl, h1, h2⟩
  cases hc : g (j + k) with
  | true =>
   obtain ⟨hJ3, hk3⟩ := h1 hc
   have hJN := hide (show J (j + (k + 1)) W3 from hJ3)
   have hkN := hide (hkp.trans hk3)
   have hrN := hide (show runB g j (k + 1) = true from by rw [hsuc.out, hrun'.out, hc]; rfl)
   clear h1 h2 hJ3 hk3 hc
   gi_wp2
   refine ⟨⟨k + 1, _, _, _, _, _, _, _, _, _, _, _, by omega, hrN.out, hJN.out, hkN.out, rfl⟩, ?_⟩
   simp only [muSlot, List.getElem?_toArray, List.getElem?_cons_succ, List.getElem?_cons_zero]
   omega
  | false =>
   have hS3 := hide (h2 hc)
   have hjk := hide ((List.getElem?_eq_some_iff.1 hx0.out).1)
   have hrN := hide (show runB g j n = false from runB_stop (a := k + 1) (by rw [hsuc.out, hc]; simp) (by omega))
   clear h1 h2 hc
   gi_wp2
   exact ⟨_, results_tmp rfl _ _ _, told_no hrN.out ⟨_, hjk.out, hS3.out⟩⟩
 ·have hlt1 : ¬ (k : Int) < (n : Int) := by omega
  have hke : k = n := by omega
  subst hke
  have hJN := hide hJ'
  have hkN := hide hkp
  have hrN := hide hrun
  clear hJ' hkp h hJ hrun
  gi_wp2
  exact ⟨_, results_tmp rfl _ _ _, told_yes hrN.out hJN.out hkN.out⟩
end Go.Proofs.YtcgmkjpgaigmfaaGreat
/-! Layer 7: each: the items that are of no other one. -/
namespace Go.Proofs.YtcgmkjpgaigmfaaGreat
open Go.RowKit
attribute [local go_sem] Oper.semAt_some
set_option maxRecDepth 100000 in
set_option maxHeartbeats 2000000 in
theorem each_tells {l B : Nat} {xs : List It} {g : Nat → Bool} {J S : Nat → World → Prop} (hY : Yl l B xs g J S) (kind : Int) (n : Nat) (hn : n ≤ 9223372036854775807) (j : Nat) (tot len : Nat → Nat) (ht0 : tot 0 = 0) (hts : ∀ i, tot (i + 1) = tot i + (1 + len i)) (fid : Nat) (lb : Array Value)
  (eg : ∀ args w, (callFunc fid args).run Tryz.prog w = .ok (.enter fid args) w) (W : World)
  (h : ∀ i : Nat, i < n → xs[j + tot i]? = some ⟨kind, (i : Int), 0, zSt⟩)
  (hin : ∀ i : Nat, i < n → ∀ W1, J (j + tot i + 1) W1 → Kp exI W W1 → Calls Tryz.prog fid (#[.int .i64 (i : Int)] ++ lb) W1 (Told xs.length g J S W1 (j + tot i + 1) (len i))) (hJ : J j W) :
  Calls Tryz.prog 49 #[.int .u8 kind, .int .i64 (n : Int), .func (.yield l) #[] #[], .func (.func fid) #[] lb] W (Told xs.length g J S W j (tot n)) := by
 have hmono : ∀ k i, tot k ≤ tot (k + i) := fun k i => by
  induction i with
  | zero => exact Nat.le_refl _
  | succ i ih => rw [← Nat.add_assoc, hts]; omega
 replace hmono := hide hmono
 replace hts := hide hts
 refine (callsIn_wide (n := 3)).1 (callsIn_of_wp_marks Tryz.func49 rfl trivial ?_)
 simp only [Tryz.ntmps49, List.size_toArray, List.length_cons, List.length_nil, Nat.reduceAdd, Nat.reduceSub, Array.replicate_succ, Array.replicate_zero, List.push_toArray, List.append_toArray, List.nil_append, List.cons_append]
 replace hin := hide hin
 replace h := hide h
 gi_wp2
 refine wpIn_loop (fun a1 W' => ∃ (k : Nat) (u9 u12 u13 u14 u15 u16 u17 u18 u19 u20 u21 u22 u23 u24 u25 u26 : Value), k ≤ n ∧ runB g j (tot k) = true ∧ J (j + tot k) W' ∧ Kp exI W W' ∧
   a1 = { tmps := #[.int .u8 kind, .int .i64 (n : Int), .func (.yield l) #[] #[], .func (.func fid) #[] lb, undef, undef, undef, undef, .bool false, u9, .int .i64 (n : Int), .int .i64 (k : Int), u12, u13, u14, u15, u16, u17, u18, u19, u20, u21, u22, u23, u24, u25, u26], defers := [] })
   (muSlot 11 n) ⟨0, undef, undef, undef, undef, undef, undef, undef, undef, undef, undef, undef, undef, undef, undef, undef, undef, Nat.zero_le _, by rw [ht0]; exact runB_zero _ _, by rw [ht0]; exact hJ, Kp.refl _ _, rfl⟩ ?_
 rintro a1 W' ⟨k, u9, u12, u13, u14, u15, u16, u17, u18, u19, u20, u21, u22, u23, u24, u25, u26, hk, hrun, hJ', hkp, rfl⟩
 by_cases hlt : k < n
 ·have hlt1 : (k : Int) < (n : Int) := by omega
  obtain ⟨mm, fn, tmps, assign, body, hy, hR⟩ := hY _ _ _ W' (h.out k hlt) hJ' (itR_zero B kind (k : Int) 0 W')
  have hjk := hide ((List.getElem?_eq_some_iff.1 (h.out k hlt)).1)
  have hsuc := hide (show runB g j (tot (k + 1)) = (runB g j (tot k) && (g (j + tot k) && runB g (j + tot k + 1) (len k))) from by rw [hts.out, runB_add, runB_add, runB_one])
  have hle := hide (show tot (k + 1) ≤ tot n from by have := hmono.out (k + 1) (n - (k + 1)); rwa [show k + 1 + (n - (k + 1)) = n by omega] at this)
  have hrun' := hide hrun
  have htk := hide (hts.out k)
  clear h hJ hJ' ht0 hrun
  gi_wp2
  refine (round_wide0 hR).mono ?_
  rintro e W3 ⟨rfl, h1, h2⟩
  cases hc : g (j + tot k) with
  | true =>
   obtain ⟨hJ3, hk3⟩ := h1 hc
   have hkN := hide (hkp.trans hk3)
   have hcall := hide (hin.out k hlt W3 hJ3 hkN.out)
   replace hc := hide hc
   clear h1 h2 hJ3 hk3
   gi_wp2_with fail
   refine ⟨trivial, ?_⟩
   refine (callsIn_wide.2 hcall.out).mono ?_
   rintro e W4 ⟨rfl, h1, h2⟩
   cases hd : runB g (j + tot k + 1) (len k) with
   | true =>
    obtain ⟨hJ4, hk4⟩ := h1 hd
    have hJM := hide (show J (j + tot (k + 1)) W4 from by rw [htk.out, show j + (tot k + (1 + len k)) = j + tot k + 1 + len k by omega]; exact hJ4)
    have hkM := hide (hkN.out.trans hk4)
    have hrN := hide (show runB g j (tot (k + 1)) = true from by rw [hsuc.out, hrun'.out, hc.out, hd]; rfl)
    clear h1 h2 hJ4 hk4 hd
    gi_wp2
    refine ⟨⟨k + 1, _, _, _, _, _, _, _, _, _, _, _, _, _, _, _, _, by omega, hrN.out, hJM.out, hkM.out, rfl⟩, ?_⟩
    simp only [muSlot, List.getElem?_toArray, List.getElem?_cons_succ, List.getElem?_cons_zero]
    omega
   | false =>
    have hS4 := hide (h2 hd)
    have hrN := hide (show runB g j (tot n) = false from runB_stop (a := tot (k + 1)) (by rw [hsuc.out, hd]; simp) hle.out)
    clear h1 h2 hd
    gi_wp2
    exact ⟨_, results_tmp rfl _ _ _, told_no hrN.out hS4.out⟩
  | false =>
   have hS3 := hide (h2 hc)
   have hrN := hide (show runB g j (tot n) = false from runB_stop (a := tot (k + 1)) (by rw [hsuc.out, hc]; simp) hle.out)
   clear h1 h2 hc
   gi_wp2_with (refine ⟨(fun _ _ => trivial), ?_⟩)
   all_goals exact ⟨_, results_tmp rfl _ _ _, told_no hrN.out ⟨_, hjk.out, hS3.out⟩⟩
 ·have hlt1 : ¬ (k : Int) < (n : Int) := by omega
  have hke : k = n := by omega
  subst hke
  have hJN := hide hJ'
  have hkN := hide hkp
  have hrN := hide hrun
  clear hJ' hkp h hJ hrun ht0
  gi_wp2
  exact ⟨_, results_tmp rfl _ _ _, told_yes hrN.out hJN.out hkN.out⟩
end Go.Proofs.YtcgmkjpgaigmfaaGreat
/-! Layer 7: stmts: the items of statements. -/
namespace Go.Proofs.YtcgmkjpgaigmfaaGreat
open Go.RowKit
attribute [local go_sem] Oper.semAt_some
theorem heap_cells {W : World} {k : Nat} {cs : Array Value} {t : TypeId} (h : W.heap[k]? = some (.cells cs t)) : ∀ i, W.cell? ⟨k, i, none⟩ = cs[i]? := by
 intro i
 simp [World.cell?, h]
theorem items_at (a : Int) {L : List St} {k : Nat} (hk : k < L.length) : itemsL a L = itemsL a (L.take k) ++ (itemsS a L[k] ++ itemsL a (L.drop (k + 1))) := by
 simp only [itemsL_flat]
 rw [← List.flatMap_cons, ← List.flatMap_append, ← List.drop_eq_getElem_cons hk, List.take_append_drop]
theorem items_take (a : Int) {L : List St} {k : Nat} (hk : k < L.length) : (itemsL a (L.take (k + 1))).length = (itemsL a (L.take k)).length + (itemsS a L[k]).length := by
 rw [List.take_succ_eq_append_getElem hk]
 simp only [itemsL_flat, List.flatMap_append, List.length_append, List.flatMap_cons, List.flatMap_nil, List.append_nil]
theorem items_take_le (a : Int) (L : List St) (n : Nat) : (itemsL a (L.take n)).length ≤ (itemsL a L).length := by
 have e : itemsL a L = itemsL a (L.take n) ++ itemsL a (L.drop n) := by
  simp only [itemsL_flat]
  rw [← List.flatMap_append, List.take_append_drop]
 rw [e, List.length_append]
 omega
end Go.Proofs.YtcgmkjpgaigmfaaGreat
/-! Layer 7: stmts, the walk. -/
namespace Go.Proofs.YtcgmkjpgaigmfaaGreat
open Go.RowKit
attribute [local go_sem] Oper.semAt_some
def TellIs (l B B0 : Nat) (w0 : World) (xs : List It) (g : Nat → Bool) (J S : Nat → World → Prop) (L : List St) : Prop :=
 ∀ (a : Int) (A : Option Addr) (cap : Nat) (W : World) (j : Nat), Sl 14 rSt w0 B A L → B0 ≤ W.heap.size → (∀ (i : Nat) (x : It), (itemsL a L)[i]? = some x → xs[j + i]? = some x) → J j W →
  Calls Tryz.prog 54 #[.int .i64 a, .slice A L.length cap, .func (.yield l) #[] #[]] W (Told xs.length g J S W j (itemsL a L).length)
def TellIn (l B B0 : Nat) (w0 : World) (xs : List It) (g : Nat → Bool) (J S : Nat → World → Prop) : St → Prop
 | .mk _ _ _ _ thn els => TellIs l B B0 w0 xs g J S thn ∧ TellIs l B B0 w0 xs g J S els
set_option maxRecDepth 100000 in
set_option maxHeartbeats 4000000 in
theorem stmts_of {l B B0 : Nat} {w0 : World} {xs : List It} {g : Nat → Bool} {J S : Nat → World → Prop} (hY : Yl l B xs g J S) (hown : OwnFrom B0 J) (hJK : ∀ k W, J k W → Below B w0 W) (hB0 : B ≤ B0)
  (L : List St) (ih : ∀ x ∈ L, TellIn l B B0 w0 xs g J S x) : TellIs l B B0 w0 xs g J S L := by
 intro a A cap W j hS hW0 hx hJ
 have hl := hS.len
 refine (callsIn_wide (n := 3)).1 (callsIn_of_wp_marks Tryz.func54 rfl trivial ?_)
 simp only [Tryz.ntmps54, List.size_toArray, List.length_cons, List.length_nil, Nat.reduceAdd, Nat.reduceSub, Array.replicate_succ, Array.replicate_zero, List.push_toArray, List.append_toArray, List.nil_append, List.cons_append]
 replace ih := hide ih
 replace hS := hide hS
 replace hx := hide hx
 replace hJK := hide hJK
 gi_wp2
 refine wpIn_loop (fun a1 W' => ∃ (k : Nat) (u8 u12 u13 u14 u15 u16 u17 u18 u19 u20 u21 u22 u23 u24 u25 u26 u27 u28 u29 u30 u31 u32 u33 u34 u35 u36 u37 : Value), k ≤ L.length ∧ runB g j (itemsL a (L.take k)).length = true ∧ J (j + (itemsL a (L.take k)).length) W' ∧ Kp exI W W' ∧
   a1 = { tmps := #[.int .i64 a, .slice A L.length cap, .func (.yield l) #[] #[], undef, undef, undef, .bool false, undef, u8, .slice A L.length cap, .int .i64 (L.length : Int), .int .i64 (k : Int), u12, u13, u14, u15, u16, u17, u18, u19, u20, u21, u22, u23, u24, u25, u26, u27, u28, u29, u30, u31, u32, u33, u34, u35, u36, u37], defers := [] })
   (muSlot 11 L.length) ⟨0, undef, undef, undef, undef, undef, undef, undef, undef, undef, undef, undef, undef, undef, undef, undef, undef, undef, undef, undef, undef, undef, undef, undef, undef, undef, undef, undef, Nat.zero_le _, by simp [itemsL, runB_zero], by simpa [itemsL] using hJ, Kp.refl _ _, rfl⟩ ?_
 rintro a1 W' ⟨k, u8, u12, u13, u14, u15, u16, u17, u18, u19, u20, u21, u22, u23, u24, u25, u26, u27, u28, u29, u30, u31, u32, u33, u34, u35, u36, u37, hk, hrun, hJ', hkp, rfl⟩
 by_cases hlt : k < L.length
 ·have hlt1 : (k : Int) < (L.length : Int) := by omega
  have hbW := hJK.out _ _ hJ'
  obtain ⟨b, o, ecs, hA, hb, hel, hcell, hr⟩ := (hS.out.below sta_st hbW).2 k _ (List.getElem?_eq_getElem hlt)
  subst hA
  have hin := ih.out _ (List.getElem_mem hlt)
  have hia := items_at a hlt
  have hit := items_take a hlt
  have hr' := hr
  generalize L[k] = x at hr hr' hin hia hit
  obtain ⟨kind, head, name, e, thn, els⟩ := x
  obtain ⟨es, A1, c1, A2, c2, rfl, h0, h1, h2, he, hT, hE⟩ := RS.inv hr
  obtain ⟨op, lit, ehead, ename, hi, lo, args⟩ := e
  obtain ⟨Ae, ecap, rfl, -, -, -, -, -, -, hs⟩ := RE.inv he
  have l1 := hT.len
  have l2 := hE.len
  have l3 := hs.len
  obtain ⟨x0, x1, x2, x3, x4, x5, x6, x7, x8, x9, x10, x11, x12, x13⟩ := srow14 hcell
  obtain ⟨W1, hW1⟩ : ∃ W1, W'.alloc (.cells #[.int .u8 kind, .string head, .string name, .int .u8 op, .int .i64 lit.1, .int .u64 lit.2.1, .int .u64 lit.2.2, .string ehead, .string ename, .int .i64 hi, .int .i64 lo, .slice Ae args.length ecap, .slice A1 thn.length c1, .slice A2 els.length c2] 75) = W1 := ⟨_, rfl⟩
  have hb1 : Below W'.heap.size W' W1 := by rw [← hW1]; exact (Below.refl _ _).alloc (Nat.le_refl _) _
  have hbox : W1.heap[W'.heap.size]? = some (.cells #[.int .u8 kind, .string head, .string name, .int .u8 op, .int .i64 lit.1, .int .u64 lit.2.1, .int .u64 lit.2.2, .string ehead, .string ename, .int .i64 hi, .int .i64 lo, .slice Ae args.length ecap, .slice A1 thn.length c1, .slice A2 els.length c2] 75) := by rw [← hW1]; exact World.alloc_heap_new W' _
  have hc1 := heap_cells hbox
  obtain ⟨v0, v1, v2, v3, v4, v5, v6, v7, v8, v9, v10, v11, v12, v13⟩ := row14 hc1
  have hBW : B ≤ W'.heap.size := by have := hkp.size; omega
  have hJ1 := own_step_none hown hJ' hb1
  have hk1 := hkp.trans (Kp.of_below exI hb1)
  have hitm : itR B ⟨10, a, 0, .mk kind head name (.mk op lit ehead ename hi lo args) thn els⟩ (.agg #[.int .u8 10, .int .i64 a, .int .i64 0, .int .u8 kind, .string head, .string name, .int .u8 op, .int .i64 lit.1, .int .u64 lit.2.1, .int .u64 lit.2.2, .string ehead, .string ename, .int .i64 hi, .int .i64 lo, .slice Ae args.length ecap, .slice A1 thn.length c1, .slice A2 els.length c2]) W1 :=
   ⟨_, rfl, _, rfl, sta_st.keep hr' fun q hq => hb1.cell (Nat.lt_of_lt_of_le hq hBW)⟩
  have hget : xs[j + (itemsL a (L.take k)).length]? = some ⟨10, a, 0, .mk kind head name (.mk op lit ehead ename hi lo args) thn els⟩ := hx.out _ _ (by
   rw [hia, List.getElem?_append_right (Nat.le_refl _), Nat.sub_self]; rfl)
  obtain ⟨mm, fn, tmps, assign, body, hy, hR⟩ := hY _ _ _ W1 hget hJ1 hitm
  have hg1 : ∀ (i : Nat) (x : It), (itemsL a thn)[i]? = some x → xs[j + (itemsL a (L.take k)).length + 1 + i]? = some x := fun i x hx1 => by
   have := hx.out ((itemsL a (L.take k)).length + (1 + i)) x (by
    rw [hia, List.getElem?_append_right (by omega), Nat.add_sub_cancel_left, itemsS, Nat.add_comm 1 i, List.cons_append, List.getElem?_cons_succ, List.append_assoc, List.getElem?_append_left (List.getElem?_eq_some_iff.1 hx1).1]
    exact hx1)
   rw [← this]; congr 1; omega
  have hg2 : ∀ (i : Nat) (x : It), (itemsL a els)[i]? = some x → xs[j + (itemsL a (L.take k)).length + 1 + (itemsL a thn).length + i]? = some x := fun i x hx1 => by
   have := hx.out ((itemsL a (L.take k)).length + (1 + ((itemsL a thn).length + i))) x (by
    rw [hia, List.getElem?_append_right (by omega), Nat.add_sub_cancel_left, itemsS, Nat.add_comm 1 _, List.cons_append, List.getElem?_cons_succ, List.append_assoc, List.getElem?_append_right (by omega), Nat.add_sub_cancel_left, List.getElem?_append_left (List.getElem?_eq_some_iff.1 hx1).1]
    exact hx1)
   rw [← this]; congr 1; omega
  have hlen : j + (itemsL a (L.take (k + 1))).length = j + (itemsL a (L.take k)).length + 1 + (itemsL a thn).length + (itemsL a els).length := by
   rw [hit, itemsS, List.length_cons, List.length_append]; omega
  have hjk := hide ((List.getElem?_eq_some_iff.1 hget).1)
  have hsuc := hide (show runB g j (itemsL a (L.take (k + 1))).length = (runB g j (itemsL a (L.take k)).length && (g (j + (itemsL a (L.take k)).length) && (runB g (j + (itemsL a (L.take k)).length + 1) (itemsL a thn).length && runB g (j + (itemsL a (L.take k)).length + 1 + (itemsL a thn).length) (itemsL a els).length))) from by
   rw [hit, itemsS, List.length_cons, List.length_append, Nat.add_comm _ 1, runB_add, runB_add, runB_one, runB_add])
  have hle := hide (items_take_le a L (k + 1))
  have hrun' := hide hrun
  have hW1s : W'.heap.size < W1.heap.size := (Array.getElem?_eq_some_iff.1 hbox).1
  have hT0 : Sl 14 rSt w0 B A1 thn := hT.keep sta_st fun q hq => (hbW.cell hq).symm
  have hE0 : Sl 14 rSt w0 B A2 els := hE.keep sta_st fun q hq => (hbW.cell hq).symm
  have hin1 := hide (hin.1 a A1 c1)
  have hin2 := hide (hin.2 a A2 c2)
  replace hit := hide hit
  replace hlen := hide hlen
  replace hg1 := hide hg1
  replace hg2 := hide hg2
  replace hbox := hide hbox
  replace hT0 := hide hT0
  replace hE0 := hide hE0
  clear hia hget hitm hcell hr hr' hT hE hs he hc1 hb1 hJ' hJ hin hbW hel h0 h1 h2 hrun
  gi_wp2
  refine (round_wide0 hR).mono ?_
  rintro e W3 ⟨rfl, h1, h2⟩
  cases hc : g (j + (itemsL a (L.take k)).length) with
  | false =>
   have hS3 := hide (h2 hc)
   have hrN := hide (show runB g j (itemsL a L).length = false from runB_stop (by rw [hsuc.out, hc]; simp) hle.out)
   clear h1 h2 hc
   gi_wp2_with (refine ⟨(fun _ _ => trivial), ?_⟩)
   all_goals exact ⟨_, results_tmp rfl _ _ _, told_no hrN.out ⟨_, hjk.out, hS3.out⟩⟩
  | true =>
   obtain ⟨hJ3, hk3⟩ := h1 hc
   have hbox3 : W3.heap[W'.heap.size]? = some (.cells #[.int .u8 kind, .string head, .string name, .int .u8 op, .int .i64 lit.1, .int .u64 lit.2.1, .int .u64 lit.2.2, .string ehead, .string ename, .int .i64 hi, .int .i64 lo, .slice Ae args.length ecap, .slice A1 thn.length c1, .slice A2 els.length c2] 75) := hk3.same _ _ hbox.out (fun cs t fr e => by cases e; rfl)
   have hc3 := heap_cells hbox3
   have r12 : W3.cell? ⟨W'.heap.size, 12, none⟩ = some (.slice A1 thn.length c1) := hc3 12
   have r13 : W3.cell? ⟨W'.heap.size, 13, none⟩ = some (.slice A2 els.length c2) := hc3 13
   have hz3 : W'.heap.size < W3.heap.size := (Array.getElem?_eq_some_iff.1 hbox3).1
   have hkN := hide (hk1.trans hk3)
   have hcall := hide (hin1.out W3 _ hT0.out (by have := hkN.out.size; omega) hg1.out hJ3)
   replace hbox3 := hide hbox3
   replace hc := hide hc
   clear h1 h2 hJ3 hk3 hc3
   gi_wp2_with fail
   refine ⟨trivial, ?_⟩
   refine (callsIn_wide.2 hcall.out).mono ?_
   rintro e W4 ⟨rfl, h1, h2⟩
   cases hd : runB g (j + (itemsL a (L.take k)).length + 1) (itemsL a thn).length with
   | false =>
    have hS4 := hide (h2 hd)
    have hrN := hide (show runB g j (itemsL a L).length = false from runB_stop (by rw [hsuc.out, hd]; simp) hle.out)
    clear h1 h2 hd
    gi_wp2_with (refine ⟨(fun _ _ => trivial), ?_⟩)
    all_goals exact ⟨_, results_tmp rfl _ _ _, told_no hrN.out hS4.out⟩
   | true =>
    obtain ⟨hJ4, hk4⟩ := h1 hd
    have hbox4 : W4.heap[W'.heap.size]? = some (.cells #[.int .u8 kind, .string head, .string name, .int .u8 op, .int .i64 lit.1, .int .u64 lit.2.1, .int .u64 lit.2.2, .string ehead, .string ename, .int .i64 hi, .int .i64 lo, .slice Ae args.length ecap, .slice A1 thn.length c1, .slice A2 els.length c2] 75) := hk4.same _ _ hbox3.out (fun cs t fr e => by cases e; rfl)
    have hc4 := heap_cells hbox4
    have q12 : W4.cell? ⟨W'.heap.size, 12, none⟩ = some (.slice A1 thn.length c1) := hc4 12
    have q13 : W4.cell? ⟨W'.heap.size, 13, none⟩ = some (.slice A2 els.length c2) := hc4 13
    have hz4 : W'.heap.size < W4.heap.size := (Array.getElem?_eq_some_iff.1 hbox4).1
    have hkM := hide (hkN.out.trans hk4)
    have hcall2 := hide (hin2.out W4 _ hE0.out (by have := hkM.out.size; omega) hg2.out hJ4)
    replace hd := hide hd
    clear h1 h2 hJ4 hk4 hc4 hbox4 hcall
    gi_wp2_with fail
    refine ⟨trivial, ?_⟩
    refine (callsIn_wide.2 hcall2.out).mono ?_
    rintro e W5 ⟨rfl, h1, h2⟩
    cases hf : runB g (j + (itemsL a (L.take k)).length + 1 + (itemsL a thn).length) (itemsL a els).length with
    | false =>
     have hS5 := hide (h2 hf)
     have hrN := hide (show runB g j (itemsL a L).length = false from runB_stop (by rw [hsuc.out, hf]; simp) hle.out)
     clear h1 h2 hf
     gi_wp2
     exact ⟨_, results_tmp rfl _ _ _, told_no hrN.out hS5.out⟩
    | true =>
     obtain ⟨hJ5, hk5⟩ := h1 hf
     have hJN := hide (show J (j + (itemsL a (L.take (k + 1))).length) W5 from by rw [hlen.out]; exact hJ5)
     have hkP := hide (hkM.out.trans hk5)
     have hrN := hide (show runB g j (itemsL a (L.take (k + 1))).length = true from by rw [hsuc.out, hrun'.out, hc.out, hd.out, hf]; rfl)
     clear h1 h2 hJ5 hk5 hf
     gi_wp2
     refine ⟨⟨k + 1, _, _, _, _, _, _, _, _, _, _, _, _, _, _, _, _, _, _, _, _, _, _, _, _, _, _, _, by omega, hrN.out, hJN.out, hkP.out, rfl⟩, ?_⟩
     simp only [muSlot, List.getElem?_toArray, List.getElem?_cons_succ, List.getElem?_cons_zero]
     omega
 ·have hlt1 : ¬ (k : Int) < (L.length : Int) := by omega
  have hke : k = L.length := by omega
  subst hke
  have hJN := hide hJ'
  have hkN := hide hkp
  have hrN := hide hrun
  rw [List.take_length] at hJN hrN
  clear hJ' hkp hJ hrun
  gi_wp2
  exact ⟨_, results_tmp rfl _ _ _, told_yes hrN.out hJN.out hkN.out⟩
theorem stmts_in {l B B0 : Nat} {w0 : World} {xs : List It} {g : Nat → Bool} {J S : Nat → World → Prop} (hY : Yl l B xs g J S) (hown : OwnFrom B0 J) (hJK : ∀ k W, J k W → Below B w0 W) (hB0 : B ≤ B0) (s : St) : TellIn l B B0 w0 xs g J S s := by
 induction s using St.ind with
 | h kind head name e thn els ih1 ih2 => exact ⟨stmts_of hY hown hJK hB0 thn ih1, stmts_of hY hown hJK hB0 els ih2⟩
theorem stmts_tells {l B B0 : Nat} {w0 : World} {xs : List It} {g : Nat → Bool} {J S : Nat → World → Prop} (hY : Yl l B xs g J S) (hown : OwnFrom B0 J) (hJK : ∀ k W, J k W → Below B w0 W) (hB0 : B ≤ B0) (L : List St) : TellIs l B B0 w0 xs g J S L :=
 stmts_of hY hown hJK hB0 L fun x _ => stmts_in hY hown hJK hB0 x
end Go.Proofs.YtcgmkjpgaigmfaaGreat
/-! Layer 7: the closures of all: what is in each item. -/
namespace Go.Proofs.YtcgmkjpgaigmfaaGreat
open Go.RowKit
set_option maxHeartbeats 1000000 in
theorem none_tells {n j : Nat} {g : Nat → Bool} {J S : Nat → World → Prop} (i : Int) (W : World) (hJ : J j W) : Calls Tryz.prog 48 #[.int .i64 i] W (Told n g J S W j 0) := by
 have hJ' := hide hJ
 clear hJ
 go_enter Tryz.func48, Tryz.ntmps48
 go_wp2
 go_ret
 exact told_yes (runB_zero _ _) hJ'.out (Kp.refl _ _)
theorem enters_none : ∀ args w, (callFunc 48 args).run Tryz.prog w = .ok (.enter 48 args) w := enters_of Tryz.func48 (by kernel_rfl) rfl
theorem enters_all2 : ∀ args w, (callFunc 50 args).run Tryz.prog w = .ok (.enter 50 args) w := enters_of Tryz.func50 (by kernel_rfl) rfl
theorem enters_all3 : ∀ args w, (callFunc 52 args).run Tryz.prog w = .ok (.enter 52 args) w := enters_of Tryz.func52 (by kernel_rfl) rfl
theorem enters_all4 : ∀ args w, (callFunc 53 args).run Tryz.prog w = .ok (.enter 53 args) w := enters_of Tryz.func53 (by kernel_rfl) rfl
theorem enters_all5 : ∀ args w, (callFunc 55 args).run Tryz.prog w = .ok (.enter 55 args) w := enters_of Tryz.func55 (by kernel_rfl) rfl
/-- What the closures of all hold: the program's box, and yield's. -/
structure Held (A1 A2 A3 A4 A5 A6 A7 : Option Addr) (p : Pg) (c1 c2 c3 c4 c5 c6 c7 : Nat) (l bp bo : Nat) (W : World) : Prop where
 prog : W.heap[bp]? = some (.cells #[.slice A1 p.headers.length c1, .slice A2 p.metas.length c2, .slice A3 p.states.length c3, .slice A4 p.actions.length c4, .slice A5 p.tables.length c5, .slice A6 p.control.length c6, .slice A7 p.emit.length c7] 30)
 yield : W.heap[bo]? = some (.cells #[.func (.yield l) #[] #[]] 104)
theorem Held.kp {A1 A2 A3 A4 A5 A6 A7 : Option Addr} {p : Pg} {c1 c2 c3 c4 c5 c6 c7 : Nat} {l bp bo : Nat} {W W' : World} (h : Held A1 A2 A3 A4 A5 A6 A7 p c1 c2 c3 c4 c5 c6 c7 l bp bo W) (hk : Kp exI W W') : Held A1 A2 A3 A4 A5 A6 A7 p c1 c2 c3 c4 c5 c6 c7 l bp bo W' :=
 ⟨hk.same _ _ h.prog (fun cs t fr e => by cases e; rfl), hk.same _ _ h.yield (fun cs t fr e => by cases e; rfl)⟩
set_option maxRecDepth 100000 in
set_option maxHeartbeats 2000000 in
theorem heads_tells {l B B0 : Nat} {w0 : World} {xs : List It} {g : Nat → Bool} {J S : Nat → World → Prop} (hY : Yl l B xs g J S) (hown : OwnFrom B0 J) (hJK : ∀ k W, J k W → Below B w0 W) (A1 A2 A3 A4 A5 A6 A7 : Option Addr) (p : Pg) (c1 c2 c3 c4 c5 c6 c7 : Nat) (hP : PgS w0 B A1 A2 A3 A4 A5 A6 A7 p) (bp bo i j : Nat) (f : Hd) (hi : p.headers[i]? = some f)
  (W : World) (hB0 : B0 ≤ W.heap.size) (hh : Held A1 A2 A3 A4 A5 A6 A7 p c1 c2 c3 c4 c5 c6 c7 l bp bo W) (hx : ∀ k : Nat, k < f.fields.length → xs[j + k]? = some ⟨2, (i : Int), (k : Int), zSt⟩) (hJ : J j W) :
  Calls Tryz.prog 50 #[.int .i64 (i : Int), .pointer (some ⟨bp, 0, none⟩), .pointer (some ⟨bo, 0, none⟩)] W (Told xs.length g J S W j f.fields.length) := by
 have hPW := hP.below (hJK _ _ hJ)
 have hil := (List.getElem?_eq_some_iff.1 hi).1
 have hiz : (i : Int) < (p.headers.length : Int) := by omega
 have lst := hPW.headers.len
 obtain ⟨b, o, ecs, hA, hb, hel, hcell, B1, d1, rfl, hn, hF⟩ := hPW.headers.2 i f hi
 subst hA
 have lf := hF.len
 have x0 : W.cell? ⟨b, o + i * 2, none⟩ = some (.string f.name) := by simpa using hcell 0 _ rfl
 have x1 : W.cell? ⟨b, o + i * 2 + 1, none⟩ = some (.slice B1 f.fields.length d1) := hcell 1 _ rfl
 have hc := heap_cells hh.prog
 have hcy := heap_cells hh.yield
 obtain ⟨z0, z1, z2, z3, z4, z5, z6⟩ := row7 (w := W) (a := bp) fun i => hc i
 have y0 : W.cell? ⟨bo, 0, none⟩ = some (.func (.yield l) #[] #[]) := hcy 0
 have hM := hide (fun (W1 : World) (h : J j W1) => many_tells hY 2 (i : Int) f.fields.length j lf hx W1 h)
 have hJ1 := hide (own_step_none hown hJ (show Below W.heap.size W W.drew from (Below.refl _ _).drew))
 have hkd := hide (Kp.of_below exI (show Below W.heap.size W W.drew from (Below.refl _ _).drew))
 clear hcell hc hcy hJ hP hPW hF hh hi hx hJK
 go_enter Tryz.func50, Tryz.ntmps50
 go_wp2_with fail
 go_still_tail 9, (by kernel_rfl)
 change wpList _ _ _ _ _ W.drew
 generalize W.drew = W1 at hJ1 hkd ⊢
 go_wp2_with fail
 refine (hM.out W1 hJ1.out).mono ?_
 rintro e W2 ⟨rfl, h1, h2⟩
 replace h1 := hide h1
 replace h2 := hide h2
 go_wp2
 go_ret
 exact ⟨rfl, fun h => ⟨(h1.out h).1, hkd.out.trans (h1.out h).2⟩, h2.out⟩
end Go.Proofs.YtcgmkjpgaigmfaaGreat
