import Derived.Test.YtcgmkjpgaigmfaaGreatOnc04
set_option linter.all false
/-! Layer 4's Great: names, fields, and the whole. -/
namespace Go.Proofs.YtcgmkjpgaigmfaaGreat
open Go.RowKit
def lenN (n : Int) : List ByteArray → Int
  | [] => n
  | s :: l => lenN (wrap64 (n + s.size)) l
theorem lenN_snoc (l : List ByteArray) (x : ByteArray) : ∀ n : Int, lenN n (l ++ [x]) = wrap64 (lenN n l + x.size) := by
  induction l with
  | nil => intro n; simp only [List.nil_append, lenN]
  | cons y l ih => intro n; simp only [List.cons_append, lenN, ih]
theorem lenN_take {l : List ByteArray} {k : Nat} (hk : k < l.length) (n : Int) : lenN n (l.take (k + 1)) = wrap64 (lenN n (l.take k) + l[k].size) := by
  rw [List.take_succ_eq_append_getElem hk, lenN_snoc]
def lenF (n : Int) : List Fd → Int
  | [] => n
  | s :: l => lenF (wrap64 (n + s.1.size)) l
theorem lenF_snoc (l : List Fd) (x : Fd) : ∀ n : Int, lenF n (l ++ [x]) = wrap64 (lenF n l + x.1.size) := by
  induction l with
  | nil => intro n; simp only [List.nil_append, lenF]
  | cons y l ih => intro n; simp only [List.cons_append, lenF, ih]
theorem lenF_take {l : List Fd} {k : Nat} (hk : k < l.length) (n : Int) : lenF n (l.take (k + 1)) = wrap64 (lenF n (l.take k) + l[k].1.size) := by
  rw [List.take_succ_eq_append_getElem hk, lenF_snoc]
set_option maxHeartbeats 1000000 in
theorem names04_any (l : List ByteArray) (A : Option Addr) (cap : Nat) (w : World) (hS : Sl 1 rStr w w.heap.size A l) :
    Calls Tryz.prog 17 #[.slice A l.length cap] w fun r w' => r = .returned (.int .i64 (lenN l.length l)) ∧ Below w.heap.size w w' := by
  have hl := hS.len
  go_enter Tryz.func17, Tryz.ntmps17
  go_wp2
  go_loopw [3, 4] (fun n i wr => ∃ k : Nat, k ≤ l.length ∧ i = .int .i64 k ∧ n = .int .i64 (lenN l.length (l.take k)) ∧ wr = w) (fun _ i _ => l.length - (intOf i).toNat)
  case atStart => exact ⟨0, Nat.zero_le _, rfl, by simp [lenN], rfl⟩
  case round =>
    obtain ⟨k, hk, rfl, rfl, rfl⟩ := hrel
    by_cases hlt : k < l.length
    · obtain ⟨b, o, rfl, hb, hcell, hz⟩ := hS.str hlt
      have hltz : (k : Int) < (l.length : Int) := by omega
      have ht := hide (lenN_take hlt l.length)
      go_wp2
      go_roundw
      case rel => exact ⟨k + 1, by omega, by go_num, by rw [ht.out], by trivial⟩
      case measure => simp [intOf]; omega
    · go_wp2
      go_ret
      rw [List.take_of_length_le (by omega)]
      exact ⟨rfl, Below.refl _ _⟩
set_option maxHeartbeats 1000000 in
theorem fields04_any (l : List Fd) (A : Option Addr) (cap : Nat) (w : World) (hS : Sl 2 rFd w w.heap.size A l) :
    Calls Tryz.prog 15 #[.slice A l.length cap] w fun r w' => r = .returned (.int .i64 (lenF l.length l)) ∧ Below w.heap.size w w' := by
  have hl := hS.len
  go_enter Tryz.func15, Tryz.ntmps15
  go_wp2
  go_loopw [3, 4] (fun n i wr => ∃ k : Nat, k ≤ l.length ∧ i = .int .i64 k ∧ n = .int .i64 (lenF l.length (l.take k)) ∧ wr = w) (fun _ i _ => l.length - (intOf i).toNat)
  case atStart => exact ⟨0, Nat.zero_le _, rfl, by simp [lenF], rfl⟩
  case round =>
    obtain ⟨k, hk, rfl, rfl, rfl⟩ := hrel
    by_cases hlt : k < l.length
    · obtain ⟨b, o, ecs, rfl, hb, hel, hcell, rfl, hz, hi⟩ := hS.2 k _ (List.getElem?_eq_getElem hlt)
      have hltz : (k : Int) < (l.length : Int) := by omega
      have x0 : wr.cell? ⟨b, o + k * 2, none⟩ = some (.string l[k].1) := by simpa using hcell 0 _ rfl
      have x1 : wr.cell? ⟨b, o + k * 2 + 1, none⟩ = some (.int .i64 l[k].2) := hcell 1 _ rfl
      have ht := hide (lenF_take hlt l.length)
      clear hcell
      go_wp2
      go_roundw
      case rel => exact ⟨k + 1, by omega, by go_num, by rw [ht.out], by trivial⟩
      case measure => simp [intOf]; omega
    · go_wp2
      go_ret
      rw [List.take_of_length_le (by omega)]
      exact ⟨rfl, Below.refl _ _⟩
end Go.Proofs.YtcgmkjpgaigmfaaGreat
