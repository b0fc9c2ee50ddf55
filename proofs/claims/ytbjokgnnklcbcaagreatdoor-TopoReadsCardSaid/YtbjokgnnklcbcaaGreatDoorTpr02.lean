import Derived.Test.YtbjokgnnklcbcaaGreatDoorTpr01
import Derived.Lib.Strings
import Derived.Lib.Join
import Derived.Test.YtbjokgnnklcbcaaGreatDoorRows
import Derived.WalkKit
import Derived.WalkSpells
import Derived.WalkLawsBesides
import Derived.Deep.QuietTactic
import Derived.BigQuiet
import Derived.Maps.AppendAt
import Derived.Deep.AppendLies
import Derived.RegionTactic
import Derived.OwnWalk
import Derived.Lib.QuietBelow
set_option linter.all false
/-! Plain: tokens, written side by side with something between, are lexed as the same ones. -/
namespace Go.Proofs.YtbjokgnnklcbcaaGreatDoor
open Go.Lib
theorem gap_done : ∀ (b : Bool) (l : List UInt8), gap false (l.drop (gap b l)) = 0
 | _, [] => by simp [gap]
 | false, c :: r => by
  have h1 := gap_done false r
  have h2 := gap_done true r
  simp only [gap]
  split
  ·simpa using h1
  ·split
   ·simpa using h2
   ·simp [gap, *]
 | true, c :: r => by
  have h1 := gap_done false r
  have h2 := gap_done true r
  simp only [gap]
  split
  ·simpa using h1
  ·simpa using h2
theorem markF_prefix (l : List UInt8) : ∀ ms : List (List UInt8), markF ms l <+: l
 | [] => by
  unfold markF
  split
  ·exact List.take_prefix _ _
  ·exact List.nil_prefix
 | m :: r => by
  unfold markF
  split
  ·rename_i h
   exact List.isPrefixOf_iff_prefix.1 h
  ·exact markF_prefix l r
theorem markF_again (l y : List UInt8) (hy : ∀ c t, y = c :: t → wsB c = true) : ∀ ms : List (List UInt8), (∀ q ∈ ms, ∀ c ∈ q, wsB c = false) → markF ms l ≠ [] → markF ms (markF ms l ++ y) = markF ms l
 | [], _, h => by
  cases l with
  | nil => simp [markF] at h
  | cons c t =>
   have e : markF [] (c :: t) = [c] := by
    unfold markF at h ⊢
    by_cases hk : 0 ≤ indexByte shortMarks ((c :: t).headD 0)
    ·rw [if_pos hk]; rfl
    ·rw [if_neg hk] at h; exact absurd rfl h
   rw [e]
   unfold markF at e ⊢
   by_cases hk : 0 ≤ indexByte shortMarks ((c :: t).headD 0)
   ·rw [if_pos (by simpa using hk)]; rfl
   ·rw [if_neg hk] at e; cases e
 | m :: r, hq, h => by
  have hr := markF_prefix l r
  by_cases hp : hasPrefix l m = true
  ·have e : markF (m :: r) l = m := by rw [markF, if_pos hp]
   rw [e, markF, if_pos (show hasPrefix (m ++ y) m = true from List.isPrefixOf_iff_prefix.2 (List.prefix_append _ _))]
  ·have e : markF (m :: r) l = markF r l := by rw [markF, if_neg hp]
   rw [e] at h ⊢
   have ih := markF_again l y hy r (fun q hm => hq q (List.mem_cons_of_mem _ hm)) h
   rw [markF, if_neg, ih]
   intro hm
   have hm' : m <+: markF r l ++ y := List.isPrefixOf_iff_prefix.1 hm
   by_cases hlen : m.length ≤ (markF r l).length
   ·exact hp (List.isPrefixOf_iff_prefix.2 ((List.prefix_of_prefix_length_le hm' (List.prefix_append _ _) hlen).trans hr))
   ·obtain ⟨u, hu⟩ := List.prefix_of_prefix_length_le (List.prefix_append (markF r l) y) hm' (by omega)
    have hu2 : u <+: y := by
     rw [← hu] at hm'
     exact (List.prefix_append_right_inj _).1 hm'
    cases u with
    | nil => rw [List.append_nil] at hu; rw [hu] at hlen; omega
    | cons c t =>
     cases y with
     | nil => simp at hu2
     | cons c' t' =>
      have hc : c = c' := by have := hu2; rw [List.cons_prefix_cons] at this; exact this.1
      have := hq m List.mem_cons_self c (by rw [← hu]; simp)
      rw [hc, hy c' t' rfl] at this
      cases this
theorem wlenL_takeWhile (l : List UInt8) : l.take (wlenL l) = l.takeWhile fun c => wordB c.toNat := by
 have := List.takeWhile_prefix (fun c : UInt8 => wordB c.toNat) (l := l)
 exact (List.prefix_iff_eq_take.1 this).symm
theorem ws_nonword {c : UInt8} (h : wsB c = true) : wordB (c.toNat : Nat) = false := by
 rw [ws_iff] at h
 cases hw : wordB (c.toNat : Nat) with
 | false => rfl
 | true =>
  unfold wordB digitB letterB at hw
  simp only [Bool.or_eq_true, decide_eq_true_eq] at hw
  omega
/-- What stands at the head stays the same token, if something white stands behind it. -/
theorem oneR_again {l : List UInt8} {x : Nat × List UInt8 × Nat × Nat} (h : oneR l = .ok x) (hg : gap false l = 0) (c0 : UInt8) (t0 : List UInt8) (hc : wsB c0 = true) :
  oneR (x.2.1 ++ c0 :: t0) = .ok x ∧ gap false (x.2.1 ++ c0 :: t0) = 0 ∧ x.2.1 <+: l ∧ x.2.1 ≠ [] := by
 have hy : ∀ c t, c0 :: t0 = c :: t → wsB c = true := fun c t e => by injection e with e1 _; rw [← e1]; exact hc
 have hnw := ws_nonword hc
 have hpre : x.2.1 <+: l ∧ x.2.1 ≠ [] := by
  unfold oneR at h
  simp only at h
  split at h
  ·split at h
   ·cases h
   ·rename_i hm
    injection h with h
    rw [← h]
    exact ⟨markF_prefix l longMarks, hm⟩
  ·rename_i hw
   split at h
   ·split at h
    ·cases h
    ·injection h with h
     rw [← h]
     exact ⟨List.take_prefix _ _, hw⟩
   ·split at h
    ·cases h
    ·injection h with h
     rw [← h]
     exact ⟨List.take_prefix _ _, hw⟩
 refine ⟨?_, ?_, hpre⟩
 ·unfold oneR at h
  simp only at h
  split at h
  ·rename_i hw
   split at h
   ·cases h
   ·rename_i hm
    injection h with h
    have hx : x.2.1 = markL l := by rw [← h]
    have hz : wlenL (x.2.1 ++ c0 :: t0) = 0 := by
     obtain ⟨u, hu⟩ := hpre.1
     rw [wlenL_takeWhile] at hw
     match hxx : x.2.1, hpre.2 with
     | a :: b, _ =>
      rw [hxx] at hu
      rw [← hu] at hw
      unfold wlenL
      simp only [List.cons_append, List.takeWhile_cons] at hw ⊢
      split at hw
      ·cases hw
      ·rename_i h2; rw [if_neg h2]; rfl
    have ha := markF_again l (c0 :: t0) hy longMarks (by decide) hm
    unfold oneR
    simp only [hz, List.take_zero, if_true]
    rw [hx]
    show (if markL (markL l ++ c0 :: t0) = [] then _ else _) = _
    rw [show markL (markL l ++ c0 :: t0) = markL l from ha, if_neg hm, h]
  ·rename_i hw
   have hx : x.2.1 = l.take (wlenL l) := by
    split at h
    ·split at h
     ·cases h
     ·injection h with h; rw [← h]
    ·split at h
     ·cases h
     ·injection h with h; rw [← h]
   have ht : (x.2.1 ++ c0 :: t0).take (wlenL (x.2.1 ++ c0 :: t0)) = l.take (wlenL l) := by
    rw [wlenL_takeWhile, hx, wlenL_takeWhile, List.takeWhile_append_of_pos (fun c hc => (List.all_eq_true.1 List.all_takeWhile) c hc), List.takeWhile_cons, if_neg (by rw [hnw]; decide), List.append_nil]
   unfold oneR
   simp only [ht]
   rw [if_neg hw]
   exact h
 ·obtain ⟨u, hu⟩ := hpre.1
  match hxx : x.2.1, hpre.2 with
  | a :: b, _ =>
   rw [hxx] at hu
   rw [← hu] at hg
   simp only [List.cons_append, gap] at hg ⊢
   split at hg
   ·omega
   ·rename_i hws
    split at hg
    ·omega
    ·rename_i hcm
     rw [if_neg hws, if_neg]
     rintro ⟨h1, h2⟩
     apply hcm
     refine ⟨h1, ?_⟩
     cases b with
     | nil =>
      simp at h2
      rw [h2] at hc
      exact absurd hc (by decide)
     | cons b1 b2 => simpa using h2
/-- What may stand between, by its number. -/
def sepB : Nat → List UInt8
 | 0 => [32]
 | 1 => [10]
 | 2 => [9, 47, 47, 32, 99, 10]
 | _ => [32, 47, 47, 32, 10, 10]
theorem sepB_head (i : Nat) : ∃ c t, sepB i = c :: t ∧ wsB c = true := by
 match i with
 | 0 => exact ⟨_, _, rfl, rfl⟩
 | 1 => exact ⟨_, _, rfl, rfl⟩
 | 2 => exact ⟨_, _, rfl, rfl⟩
 | i + 3 => exact ⟨_, _, rfl, rfl⟩
theorem sepB_len (i : Nat) : (sepB i).length ≤ 6 := by
 match i with
 | 0 => decide
 | 1 => decide
 | 2 => decide
 | i + 3 => exact Nat.le_refl _
end Go.Proofs.YtbjokgnnklcbcaaGreatDoor
/-! Plain: where tokens stand; how long they are side by side. -/
namespace Go.Proofs.YtbjokgnnklcbcaaGreatDoor
open Go.Lib
theorem lexL_facts (i : Nat) (L : List UInt8) : ∀ (fu k : Nat) (l : List UInt8) (r : List Tk), l.length < fu → L.drop k = l → k + l.length = L.length → lexL fu k l = .ok r →
  r ≠ [] ∧ (∀ j (h : j < r.length), (j + 1 = r.length → r[j].kind = 0) ∧ r[j].pl ≤ L.length ∧ r[j].s <+: L.drop r[j].pl) ∧ r.length ≤ l.length + 1 ∧ (join (r.map (·.s)) (sepB i)).length + 6 ≤ l.length + 6 * r.length ∧ r.length ≤ (join (r.map (·.s)) (sepB i)).length + 1
 | 0, _, l, _, hf, _, _, _ => absurd hf (by omega)
 | fu + 1, k, l, r, hf, hd, hk, h => by
  have hgl := gap_le false l
  rw [lexL] at h
  split at h
  ·injection h with h
   subst h
   refine ⟨by simp, fun j hj => ?_, by simp, by simp [join], by simp⟩
   obtain rfl : j = 0 := by simp at hj; omega
   refine ⟨fun _ => rfl, ?_, List.nil_prefix⟩
   show k + gap false l ≤ L.length
   omega
  ·rename_i hne
   split at h
   ·cases h
   ·rename_i x hx
    split at h
    ·cases h
    ·rename_i r2 hr
     injection h with h
     subst h
     obtain ⟨_, _, hpre, hxne⟩ := oneR_again hx (gap_done false l) 32 [] rfl
     have hx1 : 0 < x.2.1.length := List.length_pos_iff.2 hxne
     have hx2 := hpre.length_le
     rw [List.length_drop] at hx2
     obtain ⟨h1, h2, h3, h4, h5⟩ := lexL_facts i L fu (k + gap false l + x.2.1.length) _ r2 (by simp only [List.length_drop]; omega) (by rw [← hd, List.drop_drop, List.drop_drop]; congr 1; omega) (by simp only [List.length_drop]; omega) hr
     simp only [List.length_drop] at h3 h4
     have hs := sepB_len i
     have hs1 : 1 ≤ (sepB i).length := by obtain ⟨c, t, e, _⟩ := sepB_head i; rw [e]; simp
     have hj : (join (((⟨x.1, x.2.1, x.2.2.1, x.2.2.2, k + gap false l⟩ : Tk) :: r2).map (·.s)) (sepB i)).length = x.2.1.length + (sepB i).length + (join (r2.map (·.s)) (sepB i)).length := by
      match r2, h1 with
      | a :: b, _ => simp [join]; omega
     refine ⟨by simp, fun j hj' => ?_, by simp only [List.length_cons]; omega, by rw [hj]; simp only [List.length_cons]; omega, by rw [hj]; simp only [List.length_cons]; omega⟩
     cases j with
     | zero =>
      refine ⟨fun e => ?_, ?_, ?_⟩
      ·have : r2.length = 0 := by simpa using e.symm
       exact absurd (List.length_eq_zero_iff.1 this) h1
      ·show k + gap false l ≤ L.length
       omega
      ·show x.2.1 <+: L.drop (k + gap false l)
       rw [← List.drop_drop, hd]
       exact hpre
     | succ j =>
      obtain ⟨a1, a2⟩ := h2 j (by simpa using hj')
      exact ⟨fun e => a1 (by simpa using e), a2⟩
end Go.Proofs.YtbjokgnnklcbcaaGreatDoor
namespace Go.Proofs.YtbjokgnnklcbcaaGreatDoor
open Go.RowKit
theorem hide {p : Prop} (h : p) : Hid p := h
abbrev CR (α : Type) := World → Nat → List Value → α → Prop
structure Sta {α : Type} (R : CR α) : Prop where
 keep : ∀ {w w' : World} {B : Nat} {cs : List Value} {x : α}, R w B cs x → (∀ p : Addr, p.block < B → w'.cell? p = w.cell? p) → R w' B cs x
 more : ∀ {w : World} {B B' : Nat} {cs : List Value} {x : α}, R w B cs x → B ≤ B' → R w B' cs x
def rInt : CR Int := fun _ _ cs x => cs = [.int .i64 x]
def rStr : CR ByteArray := fun _ _ cs s => cs = [.string s] ∧ s.size ≤ maxLen
def rLink : CR ((Int × Int) × (Int × Int)) := fun _ _ cs x => cs = [.int .i64 x.1.1, .int .i64 x.1.2, .int .i64 x.2.1, .int .i64 x.2.2]
theorem sta_int : Sta rInt := ⟨fun h _ => h, fun h _ => h⟩
theorem sta_str : Sta rStr := ⟨fun h _ => h, fun h _ => h⟩
theorem sta_link : Sta rLink := ⟨fun h _ => h, fun h _ => h⟩
section
variable {α : Type} {R : CR α} {k : Nat} {w w' : World} {B B' : Nat} {A : Option Addr} {xs : List α}
def Sl (k : Nat) (R : CR α) (w : World) (B : Nat) (A : Option Addr) (xs : List α) : Prop :=
 xs.length ≤ maxLen ∧ ∀ i x, xs[i]? = some x → ∃ b o ecs, A = some ⟨b, o, none⟩ ∧ b < B ∧ ecs.length = k ∧ (∀ j u, ecs[j]? = some u → w.cell? ⟨b, o + i * k + j, none⟩ = some u) ∧ R w B ecs x
def rSl (k : Nat) (R : CR α) : CR (List α) := fun w B cs xs => ∃ A cap, cs = [.slice A xs.length cap] ∧ Sl k R w B A xs
theorem Sl.keep (hs : Sta R) (h : Sl k R w B A xs) (hk : ∀ p : Addr, p.block < B → w'.cell? p = w.cell? p) : Sl k R w' B A xs :=
 ⟨h.1, fun i x hx => by
  obtain ⟨b, o, ecs, hA, hb, hl, hc, hr⟩ := h.2 i x hx
  exact ⟨b, o, ecs, hA, hb, hl, fun j u hu => (hk _ hb).trans (hc j u hu), hs.keep hr hk⟩⟩
theorem Sl.more (hs : Sta R) (h : Sl k R w B A xs) (hB : B ≤ B') : Sl k R w B' A xs :=
 ⟨h.1, fun i x hx => by
  obtain ⟨b, o, ecs, hA, hb, hl, hc, hr⟩ := h.2 i x hx
  exact ⟨b, o, ecs, hA, by omega, hl, hc, hs.more hr hB⟩⟩
theorem sta_sl (hs : Sta R) : Sta (rSl k R) :=
 ⟨fun ⟨A, cap, hc, h⟩ hk => ⟨A, cap, hc, h.keep hs hk⟩, fun ⟨A, cap, hc, h⟩ hB => ⟨A, cap, hc, h.more hs hB⟩⟩
theorem Sl.below (hs : Sta R) (h : Sl k R w B A xs) (hb : Below B w w') : Sl k R w' B A xs := h.keep hs fun _ hp => hb.cell hp
theorem Sl.alloc (hs : Sta R) (h : Sl k R w B A xs) (hB : B ≤ w.heap.size) (o : Obj) : Sl k R (w.alloc o) B A xs := h.keep hs fun p hp => World.cell?_alloc_lt w o p (by omega)
theorem Sl.nil_ : Sl k R w B A ([] : List α) := ⟨by simp, fun i x hx => by simp at hx⟩
theorem Sl.len (h : Sl k R w B A xs) : xs.length ≤ 9223372036854775807 := h.1
theorem Sl.at1 (h : Sl 1 R w B A xs) {i : Nat} (hi : i < xs.length) : ∃ b o u, A = some ⟨b, o, none⟩ ∧ b < B ∧ w.cell? ⟨b, o + i, none⟩ = some u ∧ R w B [u] xs[i] := by
 obtain ⟨b, o, ecs, hA, hb, hl, hc, hr⟩ := h.2 i xs[i] (List.getElem?_eq_getElem hi)
 match ecs, hl with
 | [u], _ =>
  have := hc 0 u rfl
  exact ⟨b, o, u, hA, hb, by simpa using this, hr⟩
theorem Sl.int {xs : List Int} (h : Sl 1 rInt w B A xs) {i : Nat} (hi : i < xs.length) : ∃ b o, A = some ⟨b, o, none⟩ ∧ b < B ∧ w.cell? ⟨b, o + i, none⟩ = some (.int .i64 xs[i]) := by
 obtain ⟨b, o, u, hA, hb, hc, hr⟩ := h.at1 hi
 cases hr
 exact ⟨b, o, hA, hb, hc⟩
theorem Sl.str {xs : List ByteArray} (h : Sl 1 rStr w B A xs) {i : Nat} (hi : i < xs.length) : ∃ b o, A = some ⟨b, o, none⟩ ∧ b < B ∧ w.cell? ⟨b, o + i, none⟩ = some (.string xs[i]) ∧ xs[i].size ≤ maxLen := by
 obtain ⟨b, o, u, hA, hb, hc, hr, hz⟩ := h.at1 hi
 cases hr
 exact ⟨b, o, hA, hb, hc, hz⟩
theorem Sl.ints {xs : List (List Int)} (h : Sl 1 (rSl 1 rInt) w B A xs) {i : Nat} (hi : i < xs.length) : ∃ b o A' cap', A = some ⟨b, o, none⟩ ∧ b < B ∧ w.cell? ⟨b, o + i, none⟩ = some (.slice A' xs[i].length cap') ∧ Sl 1 rInt w B A' xs[i] := by
 obtain ⟨b, o, u, hA, hb, hc, A', cap', hr, hs⟩ := h.at1 hi
 cases hr
 exact ⟨b, o, A', cap', hA, hb, hc, hs⟩
theorem Sl.link {xs : List ((Int × Int) × (Int × Int))} (h : Sl 4 rLink w B A xs) {i : Nat} (hi : i < xs.length) : ∃ b o, A = some ⟨b, o, none⟩ ∧ b < B ∧
  w.cell? ⟨b, o + i * 4, none⟩ = some (.int .i64 xs[i].1.1) ∧ w.cell? ⟨b, o + i * 4 + 1, none⟩ = some (.int .i64 xs[i].1.2) ∧
  w.cell? ⟨b, o + i * 4 + 2, none⟩ = some (.int .i64 xs[i].2.1) ∧ w.cell? ⟨b, o + i * 4 + 3, none⟩ = some (.int .i64 xs[i].2.2) := by
 obtain ⟨b, o, ecs, hA, hb, hl, hc, hr⟩ := h.2 i xs[i] (List.getElem?_eq_getElem hi)
 cases hr
 exact ⟨b, o, hA, hb, hc 0 _ rfl, hc 1 _ rfl, hc 2 _ rfl, hc 3 _ rfl⟩
end
theorem Sl.new1 {α : Type} {R : CR α} {w : World} (xs : List α) (f : α → Value) (t : TypeId) (hl : xs.length ≤ maxLen) (hr : ∀ x ∈ xs, R (w.alloc (.cells (xs.map f).toArray t)) (w.heap.size + 1) [f x] x) :
  Sl 1 R (w.alloc (.cells (xs.map f).toArray t)) (w.heap.size + 1) (some ⟨w.heap.size, 0, none⟩) xs := by
 refine ⟨hl, fun i x hx => ⟨w.heap.size, 0, [f x], rfl, by omega, rfl, fun j u hu => ?_, hr x (List.mem_of_getElem? hx)⟩⟩
 cases j with
 | zero =>
  simp at hu; subst hu
  rw [World.cell?_alloc_at _ _ _ _ rfl]
  simp [hx]
 | succ j => simp at hu
theorem notMem_take_succ {xs : List Int} {n : Int} {k : Nat} (hlt : k < xs.length) (hc : n ∉ xs.take k) (he : (xs[k] == n) = false) : n ∉ xs.take (k + 1) := by
 rw [List.take_succ_eq_append_getElem hlt]
 intro h
 rcases List.mem_append.1 h with h | h
 ·exact hc h
 ·rw [List.mem_singleton] at h
  subst h
  simp at he
theorem ret_bool {a b : Bool} (h : a = true ↔ b = true) : Ending.returned (.bool a) = .returned (.bool b) := by rw [Bool.eq_iff_iff.2 h]
theorem ret_b {a b : Bool} (h : a = b) : Ending.returned (.bool a) = .returned (.bool b) := by rw [h]
theorem ret_int {k : IntKind} {a b : Int} (h : a = b) : Ending.returned (.int k a) = .returned (.int k b) := by rw [h]
theorem below_drewN {B : Nat} {a w : World} (h : Below B a w) (n : Nat) : Below B a (w.drewN n) := ⟨h.os, h.tape, h.output, h.size, h.block⟩
theorem quiet_same {P : Program} {f : FuncId} {args : Array Value} {w : World} {n : Nat} {v : Value}
  (h : Calls P f args (w.drewN n) fun e w' => e = .returned v ∧ w.drewN n = w') : Calls P f args (w.drewN n) fun e w'' => e = .returned v ∧ ∃ m, w'' = w.drewN m :=
 h.mono fun _ _ ⟨he, hm⟩ => ⟨he, n, hm.symm⟩
theorem Sl.drewN {α : Type} {R : CR α} {k : Nat} {w : World} {B : Nat} {A : Option Addr} {xs : List α} (hs : Sta R) (h : Sl k R w B A xs) (n : Nat) : Sl k R (w.drewN n) B A xs := h.keep hs fun _ _ => rfl
theorem str_beq (a b : ByteArray) : (a.toList == b.toList) = decide (a = b) := by
 rw [ByteArray.toList_eq, ByteArray.toList_eq, Bool.eq_iff_iff]
 simp only [beq_iff_eq, decide_eq_true_eq]
 exact ⟨fun h => Go.WideShapes.bytes_inj h, fun h => by rw [h]⟩
theorem str_eq {a b : ByteArray} (h : a = b) : (a.toList == b.toList) = true := by rw [str_beq]; simpa using h
theorem str_ne {a b : ByteArray} (h : ¬ a = b) : (a.toList == b.toList) = false := by rw [str_beq]; simpa using h
theorem notMem_take_snoc {α : Type} {xs : List α} {n : α} {k : Nat} (hlt : k < xs.length) (hc : n ∉ xs.take k) (he : ¬ xs[k] = n) : n ∉ xs.take (k + 1) := by
 rw [List.take_succ_eq_append_getElem hlt]
 intro h
 rcases List.mem_append.1 h with h | h
 ·exact hc h
 ·rw [List.mem_singleton] at h
  exact he h.symm
theorem notMem_of_take {α : Type} {xs : List α} {n : α} {k : Nat} (hk : k ≤ xs.length) (hn : ¬ k < xs.length) (hc : n ∉ xs.take k) : n ∉ xs := by
 rwa [List.take_of_length_le (by omega)] at hc
def idx {α : Type} [DecidableEq α] : List α → α → Nat
 | [], _ => 0
 | x :: l, a => if x = a then 0 else idx l a + 1
def findI {α : Type} [DecidableEq α] (l : List α) (a : α) : Int := if a ∈ l then (idx l a : Nat) else -1
theorem idx_at {α : Type} [DecidableEq α] (a : α) : ∀ (l : List α) (k : Nat) (hk : k < l.length), a ∉ l.take k → l[k] = a → idx l a = k
 | [], k, hk, _, _ => absurd hk (by simp)
 | x :: l, 0, _, _, he => by simp at he; simp [idx, he]
 | x :: l, k + 1, hk, hn, he => by
  simp only [List.take_succ_cons, List.mem_cons, not_or] at hn
  have h1 : ¬ x = a := fun e => hn.1 e.symm
  simp only [idx, if_neg h1]
  rw [idx_at a l k (by simpa using hk) hn.2 (by simpa using he)]
theorem findI_at {α : Type} [DecidableEq α] {a : α} {l : List α} {k : Nat} (hk : k < l.length) (hn : a ∉ l.take k) (he : l[k] = a) : findI l a = (k : Int) := by
 unfold findI
 rw [if_pos (by rw [← he]; exact List.getElem_mem _), idx_at a l k hk hn he]
theorem findI_no {α : Type} [DecidableEq α] {a : α} {l : List α} (h : a ∉ l) : findI l a = -1 := by unfold findI; rw [if_neg h]
theorem bcell {W w1 : World} (hb : Below W.heap.size W w1) : (∀ b o, b < W.heap.size → w1.cell? ⟨b, o, none⟩ = W.cell? ⟨b, o, none⟩) ∧ (∀ b o, b < W.heap.size → w1.frozen? ⟨b, o, none⟩ = W.frozen? ⟨b, o, none⟩) ∧ W.heap.size ≤ w1.heap.size :=
 ⟨fun b o h => hb.cell (p := ⟨b, o, none⟩) h, fun b o h => hb.frozen (p := ⟨b, o, none⟩) h, hb.size⟩
theorem end_ne {a : Int × Int} {s p : Int} (h : ¬ a = (s, p)) : (¬ a.1 = s) ∨ (a.1 = s ∧ ¬ a.2 = p) := by
 by_cases e : a.1 = s
 ·exact .inr ⟨e, fun g => h (Prod.ext e g)⟩
 ·exact .inl e
theorem drN (w : World) (a b : Nat) : (w.drewN a).drewN b = w.drewN (a + b) := by simp
theorem below_of_regrown {W w1 : World} (h : ∃ p : Regrown, w1 = Go.Sort.grow (redrawn W p.d) p.os) : Below W.heap.size W w1 := by
 obtain ⟨p, rfl⟩ := h; exact below_regrown _ _ _
theorem gcell (W : World) : ∀ d os b o, b < W.heap.size → (Go.Sort.grow (redrawn W d) os).cell? ⟨b, o, none⟩ = W.cell? ⟨b, o, none⟩ :=
 fun d os _ _ h => (below_regrown W d os).cell h
theorem gsize (W : World) (d : Nat) (os : Array Obj) : W.heap.size ≤ (Go.Sort.grow (redrawn W d) os).heap.size := (below_regrown W d os).size
theorem box1 (w : World) (cs : Array Value) (t : TypeId) : ∃ wb, w.alloc (.cells cs t) = wb ∧ wb.heap.size = w.heap.size + 1 ∧ Below w.heap.size w wb ∧ (∀ i, wb.cell? ⟨w.heap.size, i, none⟩ = cs[i]?) ∧ (∀ i, wb.frozen? ⟨w.heap.size, i, none⟩ = false) :=
 ⟨_, rfl, by simp, (Below.refl _ _).alloc (Nat.le_refl _) _, fun _ => World.cell?_alloc_at _ _ _ _ rfl, fun _ => World.frozen?_alloc_at _ _ _ _ rfl⟩
theorem gcell' {B : Nat} {wb wr : World} (h : Below B wb wr) (hz : B ≤ wr.heap.size) : ∀ d os b o, b < B → (Go.Sort.grow (redrawn wr d) os).cell? ⟨b, o, none⟩ = wb.cell? ⟨b, o, none⟩ :=
 fun d os b o hb => ((below_regrown wr d os).cell (p := ⟨b, o, none⟩) (Nat.lt_of_lt_of_le hb hz)).trans (h.cell hb)
theorem bcell' {B : Nat} {wb wr : World} (h : Below B wb wr) : (∀ b o, b < B → wr.cell? ⟨b, o, none⟩ = wb.cell? ⟨b, o, none⟩) ∧ (∀ b o, b < B → wr.frozen? ⟨b, o, none⟩ = wb.frozen? ⟨b, o, none⟩) :=
 ⟨fun b o hb => h.cell (p := ⟨b, o, none⟩) hb, fun b o hb => h.frozen (p := ⟨b, o, none⟩) hb⟩
theorem flatMap_get {α : Type} {f : α → List Value} {k : Nat} (hf : ∀ x, (f x).length = k) : ∀ (xs : List α) (i j : Nat) (x : α) (u : Value), xs[i]? = some x → (f x)[j]? = some u → (xs.flatMap f)[i * k + j]? = some u
 | [], i, j, x, u, h, _ => by simp at h
 | y :: xs, 0, j, x, u, h, hu => by
  simp at h; subst h
  have : j < (f y).length := (List.getElem?_eq_some_iff.1 hu).1
  simp [List.flatMap_cons, List.getElem?_append_left this, hu]
 | y :: xs, i + 1, j, x, u, h, hu => by
  have ih := flatMap_get hf xs i j x u (by simpa using h) hu
  have hy := hf y
  rw [List.flatMap_cons, List.getElem?_append_right (by rw [hy, Nat.add_mul]; omega), ← ih]
  congr 1
  rw [hy, Nat.add_mul]; omega
theorem own_sl {α : Type} {R : CR α} {k base : Nat} {e : TypeId} {w : World} {v : Value} {xs : List α} {f : α → List Value} (hf : ∀ x, (f x).length = k) (hR : ∀ x ∈ xs, R w w.heap.size (f x) x)
  (h : w.ownsRow base e k v xs.length (xs.flatMap f)) : ∃ A cap, v = .slice A xs.length cap ∧ Sl k R w w.heap.size A xs := by
 rcases h.2 with ⟨rfl, hz⟩ | ⟨g, cap, cur, rfl, hb, hg, hl, hm, -⟩
 ·have hz' : xs = [] := List.eq_nil_of_length_eq_zero hz
  subst hz'
  exact ⟨none, 0, rfl, Sl.nil_⟩
 ·refine ⟨some ⟨g, 0, none⟩, cap, rfl, by omega, fun i x hx => ⟨g, 0, f x, rfl, (h.lt g rfl).2, hf x, fun j u hu => ?_, hR x (List.mem_of_getElem? hx)⟩⟩
  have := h.cells (g := g) rfl (i * k + j) u (flatMap_get hf xs i j x u hx hu)
  have e : (⟨g, 0, none⟩ : Addr).add (i * k + j) = ⟨g, 0 + i * k + j, none⟩ := by unfold Addr.add; split <;> simp_all <;> omega
  rw [← e]; exact this
theorem bl_self {w : World} : Below w.heap.size w w := Below.refl _ _
end Go.Proofs.YtbjokgnnklcbcaaGreatDoor
namespace Go.Proofs.YtbjokgnnklcbcaaGreatDoor
structure Net where
 sw : List ByteArray
 ports : List (List Int)
 links : List ((Int × Int) × (Int × Int))
def thereB (n : Net) (e : Int × Int) : Bool := decide (0 ≤ e.1 ∧ e.1 < n.ports.length ∧ e.2 ∈ n.ports.getD e.1.toNat [])
def nextL : List ((Int × Int) × (Int × Int)) → (Int × Int) → Option (Int × Int)
 | [], _ => none
 | l :: r, e => if l.1 = e then some l.2 else if l.2 = e then some l.1 else nextL r e
def offL (l : List ((Int × Int) × (Int × Int))) (e : Int × Int) : Prop := ∀ x ∈ l, ¬ x.1 = e ∧ ¬ x.2 = e
theorem nextL_none {l : List ((Int × Int) × (Int × Int))} {e : Int × Int} (h : offL l e) : nextL l e = none := by
 induction l with
 | nil => rfl
 | cons x l ih =>
  have h1 := h x List.mem_cons_self
  rw [nextL, if_neg h1.1, if_neg h1.2]; exact ih fun y hy => h y (List.mem_cons_of_mem _ hy)
theorem nextL_app {l r : List ((Int × Int) × (Int × Int))} {e : Int × Int} (h : offL l e) : nextL (l ++ r) e = nextL r e := by
 induction l with
 | nil => rfl
 | cons x l ih =>
  have h1 := h x List.mem_cons_self
  rw [List.cons_append, nextL, if_neg h1.1, if_neg h1.2]; exact ih fun y hy => h y (List.mem_cons_of_mem _ hy)
theorem nextL_at {l : List ((Int × Int) × (Int × Int))} {e : Int × Int} {k : Nat} (hk : k < l.length) (h : offL (l.take k) e) :
  nextL l e = if l[k].1 = e then some l[k].2 else if l[k].2 = e then some l[k].1 else nextL (l.drop (k + 1)) e := by
 have : l = l.take k ++ l[k] :: l.drop (k + 1) := by rw [List.getElem_cons_drop, List.take_append_drop]
 conv => lhs; rw [this]
 rw [nextL_app h]; rfl
theorem offL_succ {l : List ((Int × Int) × (Int × Int))} {e : Int × Int} {k : Nat} (hk : k < l.length) (h : offL (l.take k) e) (h1 : ¬ l[k].1 = e) (h2 : ¬ l[k].2 = e) : offL (l.take (k + 1)) e := by
 rw [List.take_succ_eq_append_getElem hk]
 intro x hx
 rcases List.mem_append.1 hx with hx | hx
 ·exact h x hx
 ·rw [List.mem_singleton] at hx; subst hx; exact ⟨h1, h2⟩
def nextT : Option (Int × Int) → (Int × Int) × Bool × Bool
 | some x => (x, true, true)
 | none => ((0, 0), true, false)
def nextB (n : Net) (e : Int × Int) : (Int × Int) × Bool × Bool :=
 if thereB n e = true then nextT (nextL n.links e) else ((0, 0), false, false)
@[reducible] def endV (e : Int × Int) : Value := .agg #[.int .i64 e.1, .int .i64 e.2]
def portAt (l : List Int) (i : Nat) : Prop := 1 ≤ l.getD i 0 ∧ l.getD i 0 ≤ 511 ∧ (0 < i → l.getD (i - 1) 0 < l.getD i 0)
instance (l : List Int) (i : Nat) : Decidable (portAt l i) := by unfold portAt; infer_instance
end Go.Proofs.YtbjokgnnklcbcaaGreatDoor
/-! Plain: a network, read of tokens. -/
namespace Go.Proofs.YtbjokgnnklcbcaaGreatDoor
open Go.Lib
abbrev tkZ : Tk := ⟨0, [], 0, 0, 0⟩
def headT (l : List Tk) : Tk := l.headD tkZ
/-- The next token is gone, unless it is the end. -/
def advT (l : List Tk) : List Tk := if (headT l).kind = 0 then l else l.tail
/-- Tokens that end, none of them long. -/
def hasEnd (l : List Tk) : Prop := (∃ t ∈ l, t.kind = 0) ∧ ∀ t ∈ l, t.s.length ≤ 65536
def isT (s : List UInt8) (l : List Tk) : Bool := (headT l).s == s && ((headT l).kind == 3 || (headT l).kind == 1)
def wantT (s : List UInt8) (l : List Tk) : Except (Int × Nat) (List Tk) := if isT s l then .ok (advT l) else .error (4, (headT l).pl)
/-- A token that is a name. -/
def nmT (t : Tk) : Bool := t.kind == 1 && nameB ⟨t.s.toArray⟩
def nameT (l : List Tk) : Except (Int × Nat) (List UInt8 × List Tk) := if nmT (headT l) then .ok ((headT l).s, advT l) else .error (4, (headT l).pl)
def portT (l : List Tk) : Except (Int × Nat) (Int × List Tk) :=
 let t := headT l
 if t.kind ≠ 2 then .error (4, t.pl) else if t.w ≠ 0 then .error (10, t.pl) else if t.n < 1 ∨ 511 < t.n then .error (5, t.pl) else .ok ((t.n : Int), advT l)
def bOpen : List UInt8 := [123]
def bShut : List UInt8 := [125]
def bSemi : List UInt8 := [59]
def bColon : List UInt8 := [58]
def bSwitch : List UInt8 := [115, 119, 105, 116, 99, 104]
def bLink : List UInt8 := [108, 105, 110, 107]
/-- A switch's ports, up to the bracket. -/
def portsT : Nat → List Int → List Tk → Except (Int × Nat) (List Int × List Tk)
 | 0, acc, l => .ok (acc, l)
 | f + 1, acc, l =>
  if isT bShut l then .ok (acc, l)
  else if ¬ (acc.length < 8 ∨ (headT l).kind ≠ 2) then .error (5, (headT l).pl)
  else match portT l with
   | .error e => .error e
   | .ok (p, l1) => if p ∈ acc then .error (8, (headT l).pl) else match wantT bSemi l1 with
    | .error e => .error e
    | .ok l2 => portsT f (acc ++ [p]) l2
/-- Numbers of 1 to 511, rising. -/
def sortP (l : List Int) : List Int := ((List.range 511).map fun i : Nat => ((i : Int) + 1)).filter fun x => decide (x ∈ l)
def prtsT (l : List Tk) : Except (Int × Nat) (List Int × List Tk) :=
 match wantT bOpen l with
 | .error e => .error e
 | .ok l1 => match portsT l1.length [] l1 with
  | .error e => .error e
  | .ok (ps, l2) => match wantT bShut l2 with
   | .error e => .error e
   | .ok l3 => .ok (sortP ps, l3)
/-- A link's end: where its port stands, the end. -/
def endT (n : Net) (l : List Tk) : Except (Int × Nat) (Nat × (Int × Int) × List Tk) :=
 match nameT l with
 | .error e => .error e
 | .ok (s, l1) => if ⟨s.toArray⟩ ∈ n.sw then match wantT bColon l1 with
   | .error e => .error e
   | .ok l2 => match portT l2 with
    | .error e => .error e
    | .ok (p, l3) =>
     if thereB n (findI n.sw ⟨s.toArray⟩, p) = false then .error (7, (headT l2).pl)
     else if (nextB n (findI n.sw ⟨s.toArray⟩, p)).2.2 then .error (8, (headT l2).pl)
     else .ok ((headT l2).pl, (findI n.sw ⟨s.toArray⟩, p), l3)
  else .error (7, (headT l).pl)
def swT (n : Net) (l : List Tk) : Except (Int × Nat) (Net × List Tk) :=
 if ¬ n.sw.length < 8 then .error (5, (headT l).pl)
 else match nameT (advT l) with
  | .error e => .error e
  | .ok (s, l1) => if ⟨s.toArray⟩ ∈ n.sw then .error (8, (headT (advT l)).pl) else match prtsT l1 with
   | .error e => .error e
   | .ok (ps, l2) => .ok (⟨n.sw ++ [⟨s.toArray⟩], n.ports ++ [ps], n.links⟩, l2)
def swsT : Nat → Net → List Tk → Except (Int × Nat) (Net × List Tk)
 | 0, n, l => .ok (n, l)
 | f + 1, n, l => if isT bSwitch l then match swT n l with
   | .error e => .error e
   | .ok (n1, l1) => swsT f n1 l1
  else .ok (n, l)
def lnT (n : Net) (l : List Tk) : Except (Int × Nat) (Net × List Tk) :=
 match endT n (advT l) with
 | .error e => .error e
 | .ok (_, a, l1) => match endT n l1 with
  | .error e => .error e
  | .ok (pl, b, l2) => if a = b then .error (8, pl) else match wantT bSemi l2 with
   | .error e => .error e
   | .ok l3 => .ok (⟨n.sw, n.ports, n.links ++ [(a, b)]⟩, l3)
def lnsT : Nat → Net → List Tk → Except (Int × Nat) (Net × List Tk)
 | 0, n, l => .ok (n, l)
 | f + 1, n, l => if isT bLink l then match lnT n l with
   | .error e => .error e
   | .ok (n1, l1) => lnsT f n1 l1
  else .ok (n, l)
def emptyN : Net := ⟨[], [], []⟩
/-- A network, read of tokens. -/
def allT (l : List Tk) : Except (Int × Nat) Net :=
 match swsT l.length emptyN l with
 | .error e => .error e
 | .ok (n, l1) => match lnsT l1.length n l1 with
  | .error e => .error e
  | .ok (n2, l2) => if (headT l2).kind = 0 then .ok n2 else .error (4, (headT l2).pl)
/-- A network, read of a text: or which is the first fault, and where. -/
def readT (l : List UInt8) : Except (Int × Nat) Net :=
 match lexR l with
 | .error e => .error e
 | .ok r => allT r
theorem hasEnd.ne {l : List Tk} (h : hasEnd l) : l ≠ [] := by
 obtain ⟨⟨t, ht, _⟩, _⟩ := h
 exact List.ne_nil_of_mem ht
theorem hasEnd.head {l : List Tk} (h : hasEnd l) : (headT l).s.length ≤ 65536 := by
 cases l with
 | nil => exact absurd rfl h.ne
 | cons a r => exact h.2 a List.mem_cons_self
theorem hasEnd.adv {l : List Tk} (h : hasEnd l) : hasEnd (advT l) := by
 unfold advT
 split
 ·exact h
 ·rename_i hk
  obtain ⟨⟨t, ht, h0⟩, h2⟩ := h
  cases l with
  | nil => simp at ht
  | cons a r =>
   refine ⟨?_, fun x hx => h2 x (List.mem_cons_of_mem _ hx)⟩
   rcases List.mem_cons.1 ht with rfl | ht
   ·exact absurd h0 hk
   ·exact ⟨t, ht, h0⟩
theorem advT_le (l : List Tk) : (advT l).length ≤ l.length := by
 unfold advT
 split
 ·exact Nat.le_refl _
 ·rw [List.length_tail]; omega
theorem advT_lt {l : List Tk} (h : hasEnd l) (hk : (headT l).kind ≠ 0) : (advT l).length + 1 = l.length := by
 unfold advT
 rw [if_neg hk, List.length_tail]
 have := List.length_pos_iff.2 h.ne
 omega
theorem isT_kind {s : List UInt8} {l : List Tk} (h : isT s l = true) : (headT l).kind ≠ 0 := by
 unfold isT at h
 simp only [Bool.and_eq_true, Bool.or_eq_true, beq_iff_eq] at h
 omega
theorem wantT_ok {s : List UInt8} {l l' : List Tk} (h : wantT s l = .ok l') : isT s l = true ∧ l' = advT l := by
 unfold wantT at h
 split at h
 ·injection h with h; exact ⟨by assumption, h.symm⟩
 ·cases h
theorem portT_ok {l l' : List Tk} {p : Int} (h : portT l = .ok (p, l')) : (headT l).kind = 2 ∧ (headT l).w = 0 ∧ 1 ≤ (headT l).n ∧ (headT l).n ≤ 511 ∧ p = ((headT l).n : Int) ∧ l' = advT l := by
 unfold portT at h
 simp only at h
 split at h
 ·cases h
 ·split at h
  ·cases h
  ·split at h
   ·cases h
   ·injection h with h
    injection h with h1 h2
    refine ⟨by omega, by omega, by omega, by omega, h1.symm, h2.symm⟩
end Go.Proofs.YtbjokgnnklcbcaaGreatDoor
