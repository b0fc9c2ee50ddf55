import Derived.Test.YtbjokgnnklcbcaaGreatDoorTpb01
import Derived.Lib.SlTrimSet
import Derived.Lib.Case
import Derived.Lib.IndexBytes
import Derived.Lib.ParseIntB
import Derived.Lib.Strings
import Derived.Lib.Join
set_option linter.all false
/-! Plain: numbers as text. -/
namespace Go.Proofs.YtbjokgnnklcbcaaGreatDoor
open Go.Lib
/-- All digits of a base. -/
def digitsL : Bool → List UInt8
 | false => [48, 49, 50, 51, 52, 53, 54, 55, 56, 57]
 | true => [48, 49, 50, 51, 52, 53, 54, 55, 56, 57, 97, 98, 99, 100, 101, 102]
def baseN : Bool → Nat
 | false => 10
 | true => 16
/-- A digit's value. -/
def dvL (hex : Bool) (c : UInt8) : Nat := (indexByte (digitsL hex) c).toNat
theorem idx_in : ∀ (l : List UInt8) (c : UInt8), c ∈ l → 0 ≤ indexByte l c ∧ indexByte l c < l.length
 | [], c, h => by simp at h
 | b :: l, c, h => by
  unfold indexByte
  by_cases hb : b = c
  ·simp [hb]
  ·have hc : c ∈ l := by
    rcases List.mem_cons.1 h with h | h
    ·exact absurd h.symm hb
    ·exact h
   have ih := idx_in l c hc
   have hb' : (b == c) = false := by simpa using hb
   have hn : ¬ indexByte l c = -1 := by omega
   simp only [hb', Bool.false_eq_true, if_false, beq_iff_eq, hn, List.length_cons]
   omega
theorem digitsL_len (hex : Bool) : (digitsL hex).length = baseN hex := by cases hex <;> rfl
theorem dvL_eq {hex : Bool} {c : UInt8} (h : c ∈ digitsL hex) : indexByte (digitsL hex) c = (dvL hex c : Int) ∧ dvL hex c < baseN hex := by
 have := idx_in _ _ h
 rw [digitsL_len] at this
 unfold dvL
 omega
abbrev two128 : Nat := 340282366920938463463374607431768211456
/-- One digit more. -/
def stepV (hex : Bool) (x : Nat × Bool) (c : UInt8) : Nat × Bool := ((x.1 * baseN hex + dvL hex c) % two128, x.2 && decide (x.1 * baseN hex + dvL hex c < two128))
def accV (hex : Bool) (r : List UInt8) : Nat × Bool := r.foldl (stepV hex) (0, true)
theorem accV_succ (hex : Bool) (r : List UInt8) {k : Nat} (h : k < r.length) : accV hex (r.take (k + 1)) = stepV hex (accV hex (r.take k)) r[k] := by
 unfold accV
 rw [List.take_succ_eq_append_getElem h, List.foldl_append]
 rfl
theorem accV_lt (hex : Bool) (r : List UInt8) : (accV hex r).1 < two128 := by
 unfold accV
 rcases List.eq_nil_or_concat r with rfl | ⟨l, a, rfl⟩
 ·show 0 < two128
  decide
 ·rw [List.concat_eq_append, List.foldl_append]
  exact Nat.mod_lt _ (by decide)
/-- A text as a number, or what is wrong. -/
def parseR (l : List UInt8) : Except Int Nat :=
 let hex := hasPrefix l [48, 120]
 let r := if hex then toLowerA (l.drop 2) else l
 if r = [] then .error 4 else if r.all (fun c => (digitsL hex).contains c) then (if (accV hex r).2 then .ok (accV hex r).1 else .error 5) else .error 4
theorem dw_nil {α : Type} (p : α → Bool) : ∀ l : List α, l.dropWhile p = [] ↔ ∀ x ∈ l, p x = true
 | [] => by simp
 | a :: l => by
  have ih := dw_nil p l
  by_cases h : p a = true
  ·simp [List.dropWhile_cons, h, ih]
  ·simp [List.dropWhile_cons, h]
theorem trimLeft_nil (l cs : List UInt8) : trimLeftS l cs = [] ↔ l.all (fun c => cs.contains c) = true := by
 unfold trimLeftS
 rw [dw_nil, List.all_eq_true]
theorem trimRight_all (l cs : List UInt8) : (trimRightS l cs).all (fun c => cs.contains c) = true ↔ l.all (fun c => cs.contains c) = true := by
 unfold trimRightS
 rw [List.all_reverse]
 constructor
 ·intro h
  have h2 : l.reverse.dropWhile (cs.contains ·) = [] := by
   rcases hd : l.reverse.dropWhile (cs.contains ·) with _ | ⟨a, r⟩
   ·rfl
   ·have h3 : cs.contains a = true := by
     rw [hd] at h
     simp only [List.all_cons, Bool.and_eq_true] at h
     exact h.1
    have h4 := List.head_dropWhile_not (p := (cs.contains ·)) (l := l.reverse) (by rw [hd]; simp)
    simp only [hd, List.head_cons] at h4
    rw [h3] at h4; cases h4
  rw [dw_nil] at h2
  rw [List.all_eq_true]
  intro x hx
  exact h2 x (by simpa using hx)
 ·intro h
  rw [List.all_eq_true] at h ⊢
  intro x hx
  exact h x (by have := (List.dropWhile_suffix (cs.contains ·) (l := l.reverse)).subset hx; simpa using this)
theorem trimS_nil (l cs : List UInt8) : trimS l cs = [] ↔ l.all (fun c => cs.contains c) = true := by
 unfold trimS
 rw [trimLeft_nil, trimRight_all]
end Go.Proofs.YtbjokgnnklcbcaaGreatDoor
/-! Plain: tokens. -/
namespace Go.Proofs.YtbjokgnnklcbcaaGreatDoor
open Go.Lib
/-- A token: its kind, its bytes, its width, its value, its place. -/
structure Tk where
 kind : Nat
 s : List UInt8
 w : Nat
 n : Nat
 pl : Nat
def decV (l : List UInt8) : Nat := l.foldl (fun a c => a * 10 + (c.toNat - 48)) 0
def digB (c : UInt8) : Bool := digitB (c.toNat : Nat)
/-- A number's value, of a width if one is told. -/
def valX (w : Nat) (wide : Bool) : Except Int Nat → Except Int (Nat × Nat)
 | .error e => .error e
 | .ok n => if wide && !decide (n < 2 ^ w) then .error 5 else .ok (w, n)
def valR (w : Nat) (wide : Bool) (l : List UInt8) : Except Int (Nat × Nat) := valX w wide (parseR l)
/-- A word as a number: its width and its value, or what is wrong. -/
def numR (l : List UInt8) : Except Int (Nat × Nat) :=
 let i := indexByte l 119
 if 0 ≤ i then
  let a := l.take i.toNat
  if a.all digB && decide (a.length ≤ 3) then
   if decV a < 1 ∨ 128 < decV a then .error 10 else valR (decV a) true (l.drop (i.toNat + 1))
  else .error 4
 else valR 0 false l
/-- The token that a text begins with: its kind, its bytes, its width, its value; or what is wrong. -/
def oneR (l : List UInt8) : Except Int (Nat × List UInt8 × Nat × Nat) :=
 let w := l.take (wlenL l)
 if w = [] then (if markL l = [] then .error 4 else .ok (3, markL l, 0, 0))
 else if digB (w.headD 0) then
  match numR w with
  | .error e => .error e
  | .ok x => .ok (2, w, x.1, x.2)
 else if 16 < w.length then .error 3 else .ok (1, w, 0, 0)
/-- What a text's tokens are, from a place on; or which is the first fault, and where. -/
def lexL : Nat → Nat → List UInt8 → Except (Int × Nat) (List Tk)
 | 0, _, _ => .ok []
 | fuel + 1, at_, l =>
  let g := gap false l
  if l.drop g = [] then .ok [⟨0, [], 0, 0, at_ + g⟩]
  else match oneR (l.drop g) with
   | .error e => .error (e, at_ + g)
   | .ok x => match lexL fuel (at_ + g + x.2.1.length) ((l.drop g).drop x.2.1.length) with
    | .error e => .error e
    | .ok r => .ok (⟨x.1, x.2.1, x.2.2.1, x.2.2.2, at_ + g⟩ :: r)
def lexR (l : List UInt8) : Except (Int × Nat) (List Tk) := if 65536 < l.length then .error (3, 0) else lexL (l.length + 1) 0 l
theorem indexByte_nat (l : List UInt8) (c : UInt8) : indexByte l c = -1 ∨ ∃ n : Nat, indexByte l c = n ∧ n < l.length := by
 induction l with
 | nil => exact .inl rfl
 | cons b l ih =>
  unfold indexByte
  by_cases hb : (b == c) = true
  ·rw [if_pos hb]; exact .inr ⟨0, rfl, by simp⟩
  ·rw [if_neg hb]
   rcases ih with ih | ⟨n, h1, h2⟩
   ·rw [ih]; exact .inl rfl
   ·rw [h1]
    have : ((n : Int) == -1) = false := by rw [beq_eq_false_iff_ne]; omega
    rw [if_neg (by rw [this]; simp)]
    exact .inr ⟨n + 1, by omega, by simp; omega⟩
theorem cut_w (l : List UInt8) : cut l [119] = if 0 ≤ indexByte l 119 then (l.take (indexByte l 119).toNat, l.drop ((indexByte l 119).toNat + 1), true) else (l, [], false) := by
 unfold cut
 rw [Go.Lib.index_one]
 rfl
/-- Where the ahead part is a row of at most three digits, it is its value. -/
theorem parseM_digits : ∀ (l : List UInt8) (acc : Nat), l.all digB = true → (acc + 1) * 10 ^ l.length ≤ 1000 → parseUintM 65535 acc l = .ok (l.foldl (fun a c => a * 10 + (c.toNat - 48)) acc) ∧ l.foldl (fun a c => a * 10 + (c.toNat - 48)) acc < (acc + 1) * 10 ^ l.length
 | [], acc, _, h => ⟨rfl, by simp⟩
 | c :: r, acc, h, hk => by
  simp only [List.all_cons, Bool.and_eq_true] at h
  have hd : 48 ≤ c.toNat ∧ c.toNat ≤ 57 := by
   have := h.1
   unfold digB digitB at this
   rw [decide_eq_true_eq] at this
   omega
  have hp : 0 < 10 ^ r.length := Nat.pow_pos (by decide)
  have hstep : acc * 10 + (c.toNat - 48) + 1 ≤ (acc + 1) * 10 := by omega
  have hle : (acc * 10 + (c.toNat - 48) + 1) * 10 ^ r.length ≤ (acc + 1) * 10 ^ (c :: r).length := by
   rw [List.length_cons, Nat.pow_succ, Nat.mul_comm (10 ^ r.length) 10, ← Nat.mul_assoc]
   exact Nat.mul_le_mul_right _ hstep
  have hb : acc * 10 + (c.toNat - 48) + 1 ≤ (acc * 10 + (c.toNat - 48) + 1) * 10 ^ r.length := Nat.le_mul_of_pos_right _ hp
  have ih := parseM_digits r (acc * 10 + (c.toNat - 48)) h.2 (Nat.le_trans hle hk)
  refine ⟨?_, Nat.lt_of_lt_of_le ih.2 hle⟩
  unfold parseUintM
  rw [if_pos hd, if_neg (by omega), if_neg (by omega), ih.1]
  rfl
theorem parseM_bad : ∀ (l : List UInt8) (acc : Nat), l.all digB = false → l.length ≤ 3 → ∀ u, parseUintM 65535 acc l ≠ .ok u
 | [], _, h, _, _ => by simp at h
 | c :: r, acc, h, hk, u => by
  unfold parseUintM
  by_cases hd : 48 ≤ c.toNat ∧ c.toNat ≤ 57
  ·rw [if_pos hd]
   split
   ·simp
   ·split
    ·simp
    ·refine parseM_bad r _ ?_ (by simp at hk; omega) u
     have hc : digB c = true := by unfold digB digitB; rw [decide_eq_true_eq]; omega
     simpa [hc] using h
  ·rw [if_neg hd]; simp
theorem parseB_digits {l : List UInt8} (h0 : l ≠ []) (h : l.all digB = true) (hk : l.length ≤ 3) : parseUintB 16 l = .ok (decV l) ∧ decV l < 1000 := by
 have hp : 10 ^ l.length ≤ 1000 := Nat.pow_le_pow_right (n := 10) (by decide) hk
 have := parseM_digits l 0 h (by omega)
 refine ⟨?_, by unfold decV; omega⟩
 unfold parseUintB
 rw [if_neg h0]
 exact this.1
theorem parseB_bad {l : List UInt8} (h : l.all digB = false) (hk : l.length ≤ 3) (u : Nat) : parseUintB 16 l ≠ .ok u := by
 unfold parseUintB
 split
 ·simp
 ·exact parseM_bad l 0 h hk u
end Go.Proofs.YtbjokgnnklcbcaaGreatDoor
/-! Plain: tokens, written side by side with something between, are lexed as the same ones. -/
namespace Go.Proofs.YtbjokgnnklcbcaaGreatDoor
open Go.Lib
theorem gap_done : ∀ (b : Bool) (l : List UInt8), gap false (l.drop (gap b l)) = 0
 | _, [] => by simp [gap]
 | false, c :: r => by
  have h1 := gap_done false r
  have h2 := gap_done true r
  simp only [gap]
  split
  ·simpa using h1
  ·split
   ·simpa using h2
   ·simp [gap, *]
 | true, c :: r => by
  have h1 := gap_done false r
  have h2 := gap_done true r
  simp only [gap]
  split
  ·simpa using h1
  ·simpa using h2
theorem markF_prefix (l : List UInt8) : ∀ ms : List (List UInt8), markF ms l <+: l
 | [] => by
  unfold markF
  split
  ·exact List.take_prefix _ _
  ·exact List.nil_prefix
 | m :: r => by
  unfold markF
  split
  ·rename_i h
   exact List.isPrefixOf_iff_prefix.1 h
  ·exact markF_prefix l r
theorem markF_again (l y : List UInt8) (hy : ∀ c t, y = c :: t → wsB c = true) : ∀ ms : List (List UInt8), (∀ q ∈ ms, ∀ c ∈ q, wsB c = false) → markF ms l ≠ [] → markF ms (markF ms l ++ y) = markF ms l
 | [], _, h => by
  cases l with
  | nil => simp [markF] at h
  | cons c t =>
   have e : markF [] (c :: t) = [c] := by
    unfold markF at h ⊢
    by_cases hk : 0 ≤ indexByte shortMarks ((c :: t).headD 0)
    ·rw [if_pos hk]; rfl
    ·rw [if_neg hk] at h; exact absurd rfl h
   rw [e]
   unfold markF at e ⊢
   by_cases hk : 0 ≤ indexByte shortMarks ((c :: t).headD 0)
   ·rw [if_pos (by simpa using hk)]; rfl
   ·rw [if_neg hk] at e; cases e
 | m :: r, hq, h => by
  have hr := markF_prefix l r
  by_cases hp : hasPrefix l m = true
  ·have e : markF (m :: r) l = m := by rw [markF, if_pos hp]
   rw [e, markF, if_pos (show hasPrefix (m ++ y) m = true from List.isPrefixOf_iff_prefix.2 (List.prefix_append _ _))]
  ·have e : markF (m :: r) l = markF r l := by rw [markF, if_neg hp]
   rw [e] at h ⊢
   have ih := markF_again l y hy r (fun q hm => hq q (List.mem_cons_of_mem _ hm)) h
   rw [markF, if_neg, ih]
   intro hm
   have hm' : m <+: markF r l ++ y := List.isPrefixOf_iff_prefix.1 hm
   by_cases hlen : m.length ≤ (markF r l).length
   ·exact hp (List.isPrefixOf_iff_prefix.2 ((List.prefix_of_prefix_length_le hm' (List.prefix_append _ _) hlen).trans hr))
   ·obtain ⟨u, hu⟩ := List.prefix_of_prefix_length_le (List.prefix_append (markF r l) y) hm' (by omega)
    have hu2 : u <+: y := by
     rw [← hu] at hm'
     exact (List.prefix_append_right_inj _).1 hm'
    cases u with
    | nil => rw [List.append_nil] at hu; rw [hu] at hlen; omega
    | cons c t =>
     cases y with
     | nil => simp at hu2
     | cons c' t' =>
      have hc : c = c' := by have := hu2; rw [List.cons_prefix_cons] at this; exact this.1
      have := hq m List.mem_cons_self c (by rw [← hu]; simp)
      rw [hc, hy c' t' rfl] at this
      cases this
theorem wlenL_takeWhile (l : List UInt8) : l.take (wlenL l) = l.takeWhile fun c => wordB c.toNat := by
 have := List.takeWhile_prefix (fun c : UInt8 => wordB c.toNat) (l := l)
 exact (List.prefix_iff_eq_take.1 this).symm
theorem ws_nonword {c : UInt8} (h : wsB c = true) : wordB (c.toNat : Nat) = false := by
 rw [ws_iff] at h
 cases hw : wordB (c.toNat : Nat) with
 | false => rfl
 | true =>
  unfold wordB digitB letterB at hw
  simp only [Bool.or_eq_true, decide_eq_true_eq] at hw
  omega
/-- What stands at the head stays the same token, if something white stands behind it. -/
theorem oneR_again {l : List UInt8} {x : Nat × List UInt8 × Nat × Nat} (h : oneR l = .ok x) (hg : gap false l = 0) (c0 : UInt8) (t0 : List UInt8) (hc : wsB c0 = true) :
  oneR (x.2.1 ++ c0 :: t0) = .ok x ∧ gap false (x.2.1 ++ c0 :: t0) = 0 ∧ x.2.1 <+: l ∧ x.2.1 ≠ [] := by
 have hy : ∀ c t, c0 :: t0 = c :: t → wsB c = true := fun c t e => by injection e with e1 _; rw [← e1]; exact hc
 have hnw := ws_nonword hc
 have hpre : x.2.1 <+: l ∧ x.2.1 ≠ [] := by
  unfold oneR at h
  simp only at h
  split at h
  ·split at h
   ·cases h
   ·rename_i hm
    injection h with h
    rw [← h]
    exact ⟨markF_prefix l longMarks, hm⟩
  ·rename_i hw
   split at h
   ·split at h
    ·cases h
    ·injection h with h
     rw [← h]
     exact ⟨List.take_prefix _ _, hw⟩
   ·split at h
    ·cases h
    ·injection h with h
     rw [← h]
     exact ⟨List.take_prefix _ _, hw⟩
 refine ⟨?_, ?_, hpre⟩
 ·unfold oneR at h
  simp only at h
  split at h
  ·rename_i hw
   split at h
   ·cases h
   ·rename_i hm
    injection h with h
    have hx : x.2.1 = markL l := by rw [← h]
    have hz : wlenL (x.2.1 ++ c0 :: t0) = 0 := by
     obtain ⟨u, hu⟩ := hpre.1
     rw [wlenL_takeWhile] at hw
     match hxx : x.2.1, hpre.2 with
     | a :: b, _ =>
      rw [hxx] at hu
      rw [← hu] at hw
      unfold wlenL
      simp only [List.cons_append, List.takeWhile_cons] at hw ⊢
      split at hw
      ·cases hw
      ·rename_i h2; rw [if_neg h2]; rfl
    have ha := markF_again l (c0 :: t0) hy longMarks (by decide) hm
    unfold oneR
    simp only [hz, List.take_zero, if_true]
    rw [hx]
    show (if markL (markL l ++ c0 :: t0) = [] then _ else _) = _
    rw [show markL (markL l ++ c0 :: t0) = markL l from ha, if_neg hm, h]
  ·rename_i hw
   have hx : x.2.1 = l.take (wlenL l) := by
    split at h
    ·split at h
     ·cases h
     ·injection h with h; rw [← h]
    ·split at h
     ·cases h
     ·injection h with h; rw [← h]
   have ht : (x.2.1 ++ c0 :: t0).take (wlenL (x.2.1 ++ c0 :: t0)) = l.take (wlenL l) := by
    rw [wlenL_takeWhile, hx, wlenL_takeWhile, List.takeWhile_append_of_pos (fun c hc => (List.all_eq_true.1 List.all_takeWhile) c hc), List.takeWhile_cons, if_neg (by rw [hnw]; decide), List.append_nil]
   unfold oneR
   simp only [ht]
   rw [if_neg hw]
   exact h
 ·obtain ⟨u, hu⟩ := hpre.1
  match hxx : x.2.1, hpre.2 with
  | a :: b, _ =>
   rw [hxx] at hu
   rw [← hu] at hg
   simp only [List.cons_append, gap] at hg ⊢
   split at hg
   ·omega
   ·rename_i hws
    split at hg
    ·omega
    ·rename_i hcm
     rw [if_neg hws, if_neg]
     rintro ⟨h1, h2⟩
     apply hcm
     refine ⟨h1, ?_⟩
     cases b with
     | nil =>
      simp at h2
      rw [h2] at hc
      exact absurd hc (by decide)
     | cons b1 b2 => simpa using h2
/-- What may stand between, by its number. -/
def sepB : Nat → List UInt8
 | 0 => [32]
 | 1 => [10]
 | 2 => [9, 47, 47, 32, 99, 10]
 | _ => [32, 47, 47, 32, 10, 10]
theorem sepB_head (i : Nat) : ∃ c t, sepB i = c :: t ∧ wsB c = true := by
 match i with
 | 0 => exact ⟨_, _, rfl, rfl⟩
 | 1 => exact ⟨_, _, rfl, rfl⟩
 | 2 => exact ⟨_, _, rfl, rfl⟩
 | i + 3 => exact ⟨_, _, rfl, rfl⟩
theorem sepB_len (i : Nat) : (sepB i).length ≤ 6 := by
 match i with
 | 0 => decide
 | 1 => decide
 | 2 => decide
 | i + 3 => exact Nat.le_refl _
end Go.Proofs.YtbjokgnnklcbcaaGreatDoor
/-! Plain: where tokens stand; how long they are side by side. -/
namespace Go.Proofs.YtbjokgnnklcbcaaGreatDoor
open Go.Lib
theorem lexL_facts (i : Nat) (L : List UInt8) : ∀ (fu k : Nat) (l : List UInt8) (r : List Tk), l.length < fu → L.drop k = l → k + l.length = L.length → lexL fu k l = .ok r →
  r ≠ [] ∧ (∀ j (h : j < r.length), (j + 1 = r.length → r[j].kind = 0) ∧ r[j].pl ≤ L.length ∧ r[j].s <+: L.drop r[j].pl) ∧ r.length ≤ l.length + 1 ∧ (join (r.map (·.s)) (sepB i)).length + 6 ≤ l.length + 6 * r.length ∧ r.length ≤ (join (r.map (·.s)) (sepB i)).length + 1
 | 0, _, l, _, hf, _, _, _ => absurd hf (by omega)
 | fu + 1, k, l, r, hf, hd, hk, h => by
  have hgl := gap_le false l
  rw [lexL] at h
  split at h
  ·injection h with h
   subst h
   refine ⟨by simp, fun j hj => ?_, by simp, by simp [join], by simp⟩
   obtain rfl : j = 0 := by simp at hj; omega
   refine ⟨fun _ => rfl, ?_, List.nil_prefix⟩
   show k + gap false l ≤ L.length
   omega
  ·rename_i hne
   split at h
   ·cases h
   ·rename_i x hx
    split at h
    ·cases h
    ·rename_i r2 hr
     injection h with h
     subst h
     obtain ⟨_, _, hpre, hxne⟩ := oneR_again hx (gap_done false l) 32 [] rfl
     have hx1 : 0 < x.2.1.length := List.length_pos_iff.2 hxne
     have hx2 := hpre.length_le
     rw [List.length_drop] at hx2
     obtain ⟨h1, h2, h3, h4, h5⟩ := lexL_facts i L fu (k + gap false l + x.2.1.length) _ r2 (by simp only [List.length_drop]; omega) (by rw [← hd, List.drop_drop, List.drop_drop]; congr 1; omega) (by simp only [List.length_drop]; omega) hr
     simp only [List.length_drop] at h3 h4
     have hs := sepB_len i
     have hs1 : 1 ≤ (sepB i).length := by obtain ⟨c, t, e, _⟩ := sepB_head i; rw [e]; simp
     have hj : (join (((⟨x.1, x.2.1, x.2.2.1, x.2.2.2, k + gap false l⟩ : Tk) :: r2).map (·.s)) (sepB i)).length = x.2.1.length + (sepB i).length + (join (r2.map (·.s)) (sepB i)).length := by
      match r2, h1 with
      | a :: b, _ => simp [join]; omega
     refine ⟨by simp, fun j hj' => ?_, by simp only [List.length_cons]; omega, by rw [hj]; simp only [List.length_cons]; omega, by rw [hj]; simp only [List.length_cons]; omega⟩
     cases j with
     | zero =>
      refine ⟨fun e => ?_, ?_, ?_⟩
      ·have : r2.length = 0 := by simpa using e.symm
       exact absurd (List.length_eq_zero_iff.1 this) h1
      ·show k + gap false l ≤ L.length
       omega
      ·show x.2.1 <+: L.drop (k + gap false l)
       rw [← List.drop_drop, hd]
       exact hpre
     | succ j =>
      obtain ⟨a1, a2⟩ := h2 j (by simpa using hj')
      exact ⟨fun e => a1 (by simpa using e), a2⟩
end Go.Proofs.YtbjokgnnklcbcaaGreatDoor
