import Derived.Test.YtcgmkjpgaigmfaaGreatOnc47
import Derived.Test.YtcgmkjpgaigmfaaGreatOnc01
import Derived.ProofKit
import Derived.Deep.Slices
import Derived.Test.YtcgmkjpgaigmfaaGreatOnc02
set_option linter.all false
/-! The page's examples. -/
namespace Go.Proofs.YtcgmkjpgaigmfaaGreat
open Go.RowKit
def kS : Sa := ⟨ByteArray.mk #[115], [], accS, [], []⟩
def kP1 : Pg := ⟨[], [], [kS], [], [], [], []⟩
def kP2 : Pg := ⟨[], [], [kS, kS], [], [], [], []⟩
theorem chk_k1 : checkR kP1 = (2, 0) := by decide +kernel
theorem chk_k2 : checkR kP2 = (2, 8) := by decide +kernel
def kC : List Value := [.string (ByteArray.mk #[115]), .slice none 0 0, .string accS, .slice none 0 0, .slice none 0 0]
theorem kS_r (w : World) (B : Nat) : rSa w B kC kS := ⟨none, 0, none, 0, none, 0, rfl, by decide, by decide, Sl.nil_, Sl.nil_, Sl.nil_⟩
theorem pg_k {w : World} {B g : Nat} {l : List Sa} (hl : ∀ x ∈ l, x = kS) (hn : l.length ≤ 2) (hg : g < B) (hc : ∀ i j u, i < l.length → kC[j]? = some u → w.cell? ⟨g, i * 5 + j, none⟩ = some u) : PgS w B none none (some ⟨g, 0, none⟩) none none none none ⟨[], [], l, [], [], [], []⟩ :=
  ⟨Sl.nil_, Sl.nil_, ⟨by simp [maxLen]; omega, fun i x hx => ⟨g, 0, kC, rfl, hg, rfl, fun j u hu => by
    have := hc i j u (List.getElem?_eq_some_iff.1 hx).1 hu
    simpa using this, by rw [hl x (List.mem_of_getElem? hx)]; exact kS_r w B⟩⟩, Sl.nil_, Sl.nil_, Sl.nil_, Sl.nil_⟩
theorem chk_lit {m : Int} {w : World} {g : Nat} {l : List Sa} {c : Int × Int} (hz : w.cell? ⟨0, 0, none⟩ = some (.int .i64 m)) (hl : ∀ x ∈ l, x = kS) (hn : l.length ≤ 2) (hg : g < w.heap.size) (hc : ∀ i j u, i < l.length → kC[j]? = some u → w.cell? ⟨g, i * 5 + j, none⟩ = some u) (cap : Nat)
    (hr : checkR ⟨[], [], l, [], [], [], []⟩ = c) :
    Calls Tryz.prog 7 #[.agg #[.slice none 0 0, .slice none 0 0, .slice (some ⟨g, 0, none⟩) l.length cap, .slice none 0 0, .slice none 0 0, .slice none 0 0, .slice none 0 0]] w fun e w' => e = .returned (.tuple #[.int .i64 c.1, .int .i64 c.2]) ∧ Below w.heap.size w w' := by
  subst hr
  have h0 : 0 < w.heap.size := World.block_lt_of_cell? w _ hz
  have hP := pg_k (B := w.heap.size) hl hn hg hc
  exact check07_any none none (some ⟨g, 0, none⟩) none none none none ⟨[], [], l, [], [], [], []⟩ 0 0 cap 0 0 0 0 w.heap.size w (Nat.le_refl _) hP
    (fun W hB hb => may_any W none none (some ⟨g, 0, none⟩) none none none none ⟨[], [], l, [], [], [], []⟩ 0 0 cap 0 0 0 0 hB h0 (zcell h0 hz hb) (hP.below hb))
theorem k_five {j : Nat} {u : Value} (h : kC[j]? = some u) : (#[.string (ByteArray.mk #[115]), .slice none 0 0, .string (ByteArray.mk #[97, 99, 99, 101, 112, 116]), .slice none 0 0, .slice none 0 0] : Array Value)[j]? = some u := by
  simpa [kC, accS] using h
theorem k_ten {i j : Nat} {u : Value} (hi : i < 2) (h : kC[j]? = some u) : (#[.string (ByteArray.mk #[115]), .slice none 0 0, .string (ByteArray.mk #[97, 99, 99, 101, 112, 116]), .slice none 0 0, .slice none 0 0, .string (ByteArray.mk #[115]), .slice none 0 0, .string (ByteArray.mk #[97, 99, 99, 101, 112, 116]), .slice none 0 0, .slice none 0 0] : Array Value)[i * 5 + j]? = some u := by
  have hj : j < 5 := (List.getElem?_eq_some_iff.1 h).1
  rcases (show i = 0 ∨ i = 1 by omega) with rfl | rfl <;> rcases (show j = 0 ∨ j = 1 ∨ j = 2 ∨ j = 3 ∨ j = 4 by omega) with rfl | rfl | rfl | rfl | rfl <;> exact h
set_option maxRecDepth 100000 in
set_option maxHeartbeats 1000000 in
theorem known_any (m : Int) : Knows m := by
  intro w hz
  have h0 : 0 < w.heap.size := World.block_lt_of_cell? w _ hz
  have hq1 : Hid (Calls Tryz.prog 7 #[.agg #[.slice none 0 0, .slice none 0 0, .slice (some ⟨w.heap.size + 1, 0, none⟩) 1 1, .slice none 0 0, .slice none 0 0, .slice none 0 0, .slice none 0 0]] ((w.alloc (.cells #[.string (ByteArray.mk #[115]), .slice none 0 0, .string (ByteArray.mk #[97, 99, 99, 101, 112, 116]), .slice none 0 0, .slice none 0 0] 52)).alloc (.cells #[.string (ByteArray.mk #[115]), .slice none 0 0, .string (ByteArray.mk #[97, 99, 99, 101, 112, 116]), .slice none 0 0, .slice none 0 0] 52)) fun e w' => e = .returned (.tuple #[.int .i64 2, .int .i64 0]) ∧ Below (w.heap.size + 2) ((w.alloc (.cells #[.string (ByteArray.mk #[115]), .slice none 0 0, .string (ByteArray.mk #[97, 99, 99, 101, 112, 116]), .slice none 0 0, .slice none 0 0] 52)).alloc (.cells #[.string (ByteArray.mk #[115]), .slice none 0 0, .string (ByteArray.mk #[97, 99, 99, 101, 112, 116]), .slice none 0 0, .slice none 0 0] 52)) w') := hide (by
    have hb1 : Below w.heap.size w (w.alloc (.cells #[.string (ByteArray.mk #[115]), .slice none 0 0, .string (ByteArray.mk #[97, 99, 99, 101, 112, 116]), .slice none 0 0, .slice none 0 0] 52)) := (Below.refl _ _).alloc (Nat.le_refl _) _
    have hs1 : (w.alloc (.cells #[.string (ByteArray.mk #[115]), .slice none 0 0, .string (ByteArray.mk #[97, 99, 99, 101, 112, 116]), .slice none 0 0, .slice none 0 0] 52)).heap.size = w.heap.size + 1 := by simp
    have hb2 : Below (w.heap.size + 1) (w.alloc (.cells #[.string (ByteArray.mk #[115]), .slice none 0 0, .string (ByteArray.mk #[97, 99, 99, 101, 112, 116]), .slice none 0 0, .slice none 0 0] 52)) ((w.alloc (.cells #[.string (ByteArray.mk #[115]), .slice none 0 0, .string (ByteArray.mk #[97, 99, 99, 101, 112, 116]), .slice none 0 0, .slice none 0 0] 52)).alloc (.cells #[.string (ByteArray.mk #[115]), .slice none 0 0, .string (ByteArray.mk #[97, 99, 99, 101, 112, 116]), .slice none 0 0, .slice none 0 0] 52)) := (Below.refl _ _).alloc (Nat.le_of_eq hs1.symm) _
    have hs2 : ((w.alloc (.cells #[.string (ByteArray.mk #[115]), .slice none 0 0, .string (ByteArray.mk #[97, 99, 99, 101, 112, 116]), .slice none 0 0, .slice none 0 0] 52)).alloc (.cells #[.string (ByteArray.mk #[115]), .slice none 0 0, .string (ByteArray.mk #[97, 99, 99, 101, 112, 116]), .slice none 0 0, .slice none 0 0] 52)).heap.size = w.heap.size + 2 := by simp
    have hcl : ∀ i, ((w.alloc (.cells #[.string (ByteArray.mk #[115]), .slice none 0 0, .string (ByteArray.mk #[97, 99, 99, 101, 112, 116]), .slice none 0 0, .slice none 0 0] 52)).alloc (.cells #[.string (ByteArray.mk #[115]), .slice none 0 0, .string (ByteArray.mk #[97, 99, 99, 101, 112, 116]), .slice none 0 0, .slice none 0 0] 52)).cell? ⟨w.heap.size + 1, i, none⟩ = (#[.string (ByteArray.mk #[115]), .slice none 0 0, .string (ByteArray.mk #[97, 99, 99, 101, 112, 116]), .slice none 0 0, .slice none 0 0] : Array Value)[i]? := fun i => by
      rw [← hs1]; exact World.cell?_alloc_at _ _ _ _ rfl
    have hz2 := zcell h0 hz (hb1.trans (hb2.mono (by omega)))
    generalize (w.alloc (.cells #[.string (ByteArray.mk #[115]), .slice none 0 0, .string (ByteArray.mk #[97, 99, 99, 101, 112, 116]), .slice none 0 0, .slice none 0 0] 52)).alloc (.cells #[.string (ByteArray.mk #[115]), .slice none 0 0, .string (ByteArray.mk #[97, 99, 99, 101, 112, 116]), .slice none 0 0, .slice none 0 0] 52) = wb at *
    have := chk_lit (l := [kS]) (c := (2, 0)) (g := w.heap.size + 1) hz2 (by simp) (by simp) (by omega) (fun i j u hi hu => by
      have hi0 : i = 0 := by simpa using hi
      subst hi0
      rw [Nat.zero_mul, Nat.zero_add, hcl]
      exact k_five hu) 1 chk_k1
    rw [hs2] at this
    exact this)
  have hq2 : Hid (∀ w1 : World, w1.cell? ⟨0, 0, none⟩ = some (.int .i64 m) → Calls Tryz.prog 7 #[.agg #[.slice none 0 0, .slice none 0 0, .slice (some ⟨w1.heap.size, 0, none⟩) 2 2, .slice none 0 0, .slice none 0 0, .slice none 0 0, .slice none 0 0]] (w1.alloc (.cells #[.string (ByteArray.mk #[115]), .slice none 0 0, .string (ByteArray.mk #[97, 99, 99, 101, 112, 116]), .slice none 0 0, .slice none 0 0, .string (ByteArray.mk #[115]), .slice none 0 0, .string (ByteArray.mk #[97, 99, 99, 101, 112, 116]), .slice none 0 0, .slice none 0 0] 52)) fun e w' => e = .returned (.tuple #[.int .i64 2, .int .i64 8]) ∧ Below w1.heap.size w1 w') := hide (fun w1 hz1 => by
    have h01 : 0 < w1.heap.size := World.block_lt_of_cell? w1 _ hz1
    have hb1 : Below w1.heap.size w1 (w1.alloc (.cells #[.string (ByteArray.mk #[115]), .slice none 0 0, .string (ByteArray.mk #[97, 99, 99, 101, 112, 116]), .slice none 0 0, .slice none 0 0, .string (ByteArray.mk #[115]), .slice none 0 0, .string (ByteArray.mk #[97, 99, 99, 101, 112, 116]), .slice none 0 0, .slice none 0 0] 52)) := (Below.refl _ _).alloc (Nat.le_refl _) _
    have hs1 : (w1.alloc (.cells #[.string (ByteArray.mk #[115]), .slice none 0 0, .string (ByteArray.mk #[97, 99, 99, 101, 112, 116]), .slice none 0 0, .slice none 0 0, .string (ByteArray.mk #[115]), .slice none 0 0, .string (ByteArray.mk #[97, 99, 99, 101, 112, 116]), .slice none 0 0, .slice none 0 0] 52)).heap.size = w1.heap.size + 1 := by simp
    have hcl : ∀ i, (w1.alloc (.cells #[.string (ByteArray.mk #[115]), .slice none 0 0, .string (ByteArray.mk #[97, 99, 99, 101, 112, 116]), .slice none 0 0, .slice none 0 0, .string (ByteArray.mk #[115]), .slice none 0 0, .string (ByteArray.mk #[97, 99, 99, 101, 112, 116]), .slice none 0 0, .slice none 0 0] 52)).cell? ⟨w1.heap.size, i, none⟩ = (#[.string (ByteArray.mk #[115]), .slice none 0 0, .string (ByteArray.mk #[97, 99, 99, 101, 112, 116]), .slice none 0 0, .slice none 0 0, .string (ByteArray.mk #[115]), .slice none 0 0, .string (ByteArray.mk #[97, 99, 99, 101, 112, 116]), .slice none 0 0, .slice none 0 0] : Array Value)[i]? := fun i => World.cell?_alloc_at _ _ _ _ rfl
    have hz2 := zcell h01 hz1 hb1
    generalize w1.alloc (.cells #[.string (ByteArray.mk #[115]), .slice none 0 0, .string (ByteArray.mk #[97, 99, 99, 101, 112, 116]), .slice none 0 0, .slice none 0 0, .string (ByteArray.mk #[115]), .slice none 0 0, .string (ByteArray.mk #[97, 99, 99, 101, 112, 116]), .slice none 0 0, .slice none 0 0] 52) = wb at *
    refine (chk_lit (l := [kS, kS]) (c := (2, 8)) (g := w1.heap.size) hz2 (by simp) (by simp) (by omega) (fun i j u hi hu => by
      rw [hcl]
      exact k_ten (by simpa using hi) hu) 2 chk_k2).mono fun e w' h => ⟨h.1, hb1.trans (h.2.mono (by omega))⟩)
  have hst : Hid (∀ w1 : World, Below (w.heap.size + 2) ((w.alloc (.cells #[.string (ByteArray.mk #[115]), .slice none 0 0, .string (ByteArray.mk #[97, 99, 99, 101, 112, 116]), .slice none 0 0, .slice none 0 0] 52)).alloc (.cells #[.string (ByteArray.mk #[115]), .slice none 0 0, .string (ByteArray.mk #[97, 99, 99, 101, 112, 116]), .slice none 0 0, .slice none 0 0] 52)) w1 → Below w.heap.size w w1 ∧ ∀ i, w1.cell? ⟨w.heap.size, i, none⟩ = (#[.string (ByteArray.mk #[115]), .slice none 0 0, .string (ByteArray.mk #[97, 99, 99, 101, 112, 116]), .slice none 0 0, .slice none 0 0] : Array Value)[i]?) := hide (fun w1 hb => by
    have hb1 : Below w.heap.size w (w.alloc (.cells #[.string (ByteArray.mk #[115]), .slice none 0 0, .string (ByteArray.mk #[97, 99, 99, 101, 112, 116]), .slice none 0 0, .slice none 0 0] 52)) := (Below.refl _ _).alloc (Nat.le_refl _) _
    have hs1 : (w.alloc (.cells #[.string (ByteArray.mk #[115]), .slice none 0 0, .string (ByteArray.mk #[97, 99, 99, 101, 112, 116]), .slice none 0 0, .slice none 0 0] 52)).heap.size = w.heap.size + 1 := by simp
    have hb2 : Below (w.heap.size + 1) (w.alloc (.cells #[.string (ByteArray.mk #[115]), .slice none 0 0, .string (ByteArray.mk #[97, 99, 99, 101, 112, 116]), .slice none 0 0, .slice none 0 0] 52)) ((w.alloc (.cells #[.string (ByteArray.mk #[115]), .slice none 0 0, .string (ByteArray.mk #[97, 99, 99, 101, 112, 116]), .slice none 0 0, .slice none 0 0] 52)).alloc (.cells #[.string (ByteArray.mk #[115]), .slice none 0 0, .string (ByteArray.mk #[97, 99, 99, 101, 112, 116]), .slice none 0 0, .slice none 0 0] 52)) := (Below.refl _ _).alloc (Nat.le_of_eq hs1.symm) _
    have hcl : ∀ i, (w.alloc (.cells #[.string (ByteArray.mk #[115]), .slice none 0 0, .string (ByteArray.mk #[97, 99, 99, 101, 112, 116]), .slice none 0 0, .slice none 0 0] 52)).cell? ⟨w.heap.size, i, none⟩ = (#[.string (ByteArray.mk #[115]), .slice none 0 0, .string (ByteArray.mk #[97, 99, 99, 101, 112, 116]), .slice none 0 0, .slice none 0 0] : Array Value)[i]? := fun i => World.cell?_alloc_at _ _ _ _ rfl
    refine ⟨hb1.trans ((hb2.mono (by omega)).trans (hb.mono (by omega))), fun i => ?_⟩
    rw [hb.cell (p := ⟨w.heap.size, i, none⟩) (by show w.heap.size < _; omega), hb2.cell (p := ⟨w.heap.size, i, none⟩) (by show w.heap.size < _; omega)]
    exact hcl i)
  go_enter Tryz.func6, Tryz.ntmps6
  go_wp2_with fail
  refine hq1.out.mono ?_
  rintro e w1 ⟨rfl, hb1⟩
  obtain ⟨hw1, hc1⟩ := hst.out w1 hb1
  have y0 : w1.cell? ⟨w.heap.size, 0, none⟩ = some (.string (ByteArray.mk #[115])) := hc1 0
  have y1 : w1.cell? ⟨w.heap.size, 1, none⟩ = some (.slice none 0 0) := hc1 1
  have y2 : w1.cell? ⟨w.heap.size, 2, none⟩ = some (.string (ByteArray.mk #[97, 99, 99, 101, 112, 116])) := hc1 2
  have y3 : w1.cell? ⟨w.heap.size, 3, none⟩ = some (.slice none 0 0) := hc1 3
  have y4 : w1.cell? ⟨w.heap.size, 4, none⟩ = some (.slice none 0 0) := hc1 4
  have hz1 := hide (zcell h0 hz hw1)
  have hzs := hw1.size
  replace hw1 := hide hw1
  have hlt : w.heap.size < w1.heap.size := World.block_lt_of_cell? w1 _ y0
  clear hc1 hb1 hst hq1
  go_wp2_with fail
  refine (hq2.out w1 hz1.out).mono ?_
  rintro e w2 ⟨rfl, hb2⟩
  go_wp2
  go_ret
  exact ⟨rfl, hw1.out.trans (hb2.mono hzs)⟩
end Go.Proofs.YtcgmkjpgaigmfaaGreat
/-! Arguments opened to what the walks speak of: a type that reads as R. -/
namespace Go.Proofs.YtcgmkjpgaigmfaaGreat
open Go.ChangeShapes Go.WideShapes Go.ChangeAt Go.RowKit Go.Deep
/-- Whatever reads as data of type t, reads as R. -/
def Rd {α : Type} (t : TypeId) (R : CR α) : Prop :=
  ∀ (H : Type) (enc : TypeId × Value → H) (w : World) (fuel : Nat) (cs : List Value) (x : DataW H × List MemPlace), DataW.trod enc Tryz.prog w 0 (fun _ => true) true fuel t cs = some x → ∃ a, R w w.heap.size cs a
theorem rd_int {t : TypeId} (ht : Tryz.prog.underlying t = some (.int .i64)) : Rd t rInt := fun _ _ _ _ _ _ h => by
  obtain ⟨n, rfl, _, _⟩ := DataW.trod_int ht h
  exact ⟨n, rfl⟩
theorem rd_str {t : TypeId} (ht : Tryz.prog.underlying t = some .string) : Rd t rStr := fun _ _ _ _ _ _ h => by
  obtain ⟨s, rfl, _, hs⟩ := DataW.trod_string ht h
  exact ⟨s, rfl, hs⟩
theorem addr_spot {w : World} {a : Addr} {v : Value} (h : w.cell? a = some v) : ∃ b o, a = ⟨b, o, none⟩ := by
  obtain ⟨b, o, spot⟩ := a
  cases spot with
  | none => exact ⟨b, o, rfl⟩
  | some s => simp [World.cell?] at h; split at h <;> cases h
theorem exists_list {α : Type} {p : Nat → α → Prop} : ∀ len : Nat, (∀ i, i < len → ∃ a, p i a) → ∃ xs : List α, xs.length = len ∧ ∀ i x, xs[i]? = some x → p i x
  | 0, _ => ⟨[], rfl, fun i x h => by simp at h⟩
  | len + 1, h => by
    obtain ⟨xs, h1, h2⟩ := exists_list len (fun i hi => h i (by omega))
    obtain ⟨a, ha⟩ := h len (by omega)
    refine ⟨xs ++ [a], by simp [h1], fun i x hx => ?_⟩
    by_cases hi : i < len
    · rw [List.getElem?_append_left (by omega)] at hx
      exact h2 i x hx
    · have hil : i = len := by
        have := (List.getElem?_eq_some_iff.1 hx).1
        simp [h1] at this; omega
      subst hil
      rw [List.getElem?_append_right (by omega), h1] at hx
      simp at hx
      subst hx
      exact ha
theorem rd_slice {α : Type} {R : CR α} {t e : TypeId} {k : Nat} (ht : Tryz.prog.underlying t = some (.slice e)) (hk : Tryz.prog.cellsOf e = k) (hk0 : 0 < k) (he : Rd e R) : Rd t (rSl k R) := fun H enc w fuel cs x h => by
  rcases open_slice ht h with ⟨rfl, _⟩ | ⟨a, len, cap, m, n, D, Pl, rfl, _, hl, hm, hmm, _, hx⟩
  · exact ⟨[], none, 0, rfl, Sl.nil_⟩
  · simp only [if_true] at hmm
    subst hmm
    obtain ⟨xs, hlen, hxs⟩ := exists_list (p := fun i y => ∃ ecs : List Value, ecs.length = k ∧ (∀ j, j < k → w.cell? ((a.add (i * k)).add j) = ecs[j]?) ∧ R w w.heap.size ecs y) len (fun i hi => by
      obtain ⟨cs', hc, htr⟩ := hx i (by omega)
      rw [hk] at hc
      obtain ⟨_, h1, h2⟩ := World.cells?_some hc
      obtain ⟨y, hy⟩ := he H enc w n cs' _ htr
      exact ⟨y, cs', h1, h2, hy⟩)
    refine ⟨xs, some a, m, by rw [hlen], by omega, fun i y hy => ?_⟩
    have hi : i < len := by rw [← hlen]; exact (List.getElem?_eq_some_iff.1 hy).1
    obtain ⟨ecs0, g1, g2, _⟩ := hxs 0 (xs[0]'(by omega)) (List.getElem?_eq_getElem (by omega))
    have hz : w.cell? a = some (ecs0[0]'(by omega)) := by
      have := g2 0 hk0
      rw [List.getElem?_eq_getElem (by omega)] at this
      simpa [Addr.add] using this
    obtain ⟨b, o, rfl⟩ := addr_spot hz
    have hb := World.block_lt_of_cell? w _ hz
    obtain ⟨ecs, h1, h2, h3⟩ := hxs i y hy
    have hadd : ∀ j, ((⟨b, o, none⟩ : Addr).add (i * k)).add j = ⟨b, o + i * k + j, none⟩ := fun j => by unfold Addr.add; split <;> split <;> simp_all
    refine ⟨b, o, ecs, rfl, hb, h1, fun j u hu => ?_, h3⟩
    have hj : j < k := by have := (List.getElem?_eq_some_iff.1 hu).1; omega
    rw [← hadd j, h2 j hj, hu]
/-- A row's last step where nothing that lay has turned; no 'again'. -/
theorem post_below {H : Type} {enc : TypeId × Value → H} {P : Program} {f : Func} {s : ChangeSpec} {apart fresh handsOn : Bool} {W W' : World} {args : Array Value} {v : Value} {ds gs : List (DataW H)} {before pa pv : List MemPlace}
    (hW : DataW.Whole enc P f.params.toList s.vars apart W args.toList ds gs before)
    (hres : ∀ (b : Nat) (sp : Nat → Bool) (hd : Bool), DataW.TrodAll enc P W' b sp hd f.resultTypes.toList (v.resultList f.resultTypes.size) (s.fn H (ds ++ gs)).results [])
    (hargs : DataW.TrodAll enc P W' 0 (fun b => decide (b < W.heap.size)) true f.params.toList args.toList (s.fn H (ds ++ gs)).args pa)
    (hvars : DataW.TrodVars enc P W' (fun b => decide (b < W.heap.size)) s.vars (s.fn H (ds ++ gs)).vars pv)
    (hps : before = pa ++ pv) (hb : Below W.heap.size W W') : s.post enc P f apart fresh handsOn false W args v W' := by
  have hlt : ∀ p ∈ before, p.block < W.heap.size := fun p hp => hW.lt p hp
  refine ⟨ds, gs, before, [], pa, pv, hW, hres _ _ _, hargs, hvars, World.keptBut_mono (fun p hp => ⟨hp, ?_⟩) (hb.frame (· ∈ before)), fun h => by cases h⟩
  rw [hps, List.mem_append] at hp
  exact Or.inr hp
end Go.Proofs.YtcgmkjpgaigmfaaGreat
/-! Openers where a reading is of so small a bulk: trees as they lie. -/
namespace Go.Proofs.YtcgmkjpgaigmfaaGreat
open Go.ChangeShapes Go.WideShapes Go.ChangeAt Go.RowKit Go.Deep
/-- Whatever reads as data of type t, of bulk at most m, reads as R. -/
def RdB {α : Type} (m : Nat) (t : TypeId) (R : CR α) : Prop :=
  ∀ (H : Type) (enc : TypeId × Value → H) (w : World) (fuel : Nat) (cs : List Value) (x : DataW H × List MemPlace), DataW.trod enc Tryz.prog w 0 (fun _ => true) true fuel t cs = some x → Rows.uptoBulk x.1 ≤ m → ∃ a, R w w.heap.size cs a
theorem rdb_of {α : Type} {m : Nat} {t : TypeId} {R : CR α} (h : Rd t R) : RdB m t R := fun H enc w fuel cs x hx _ => h H enc w fuel cs x hx
theorem rdb_le {α : Type} {m m' : Nat} {t : TypeId} {R : CR α} (hm : m' ≤ m) (h : RdB m t R) : RdB m' t R := fun H enc w fuel cs x hx hb => h H enc w fuel cs x hx (by omega)
theorem bulk_mem {H : Type} {d : DataW H} : ∀ {l : List (DataW H)}, d ∈ l → Rows.uptoBulk d ≤ Rows.uptoBulkAll l
  | [], h => by simp at h
  | y :: l, h => by
    simp only [Rows.uptoBulkAll]
    rcases List.mem_cons.1 h with rfl | h
    · omega
    · have := bulk_mem h; omega
theorem bulk_part {H : Type} {d : DataW H} {l : List (DataW H)} {m : Nat} (h : d ∈ l) (hb : Rows.uptoBulk (.agg l) ≤ m + 1) : Rows.uptoBulk d ≤ m := by
  have := bulk_mem h
  simp only [Rows.uptoBulk] at hb
  omega
/-- Strings are as short as their bulk. -/
def rStrM (m : Nat) : CR ByteArray := fun _ _ cs s => cs = [.string s] ∧ s.size ≤ maxLen ∧ s.size ≤ m
theorem rdb_str {m : Nat} {t : TypeId} (ht : Tryz.prog.underlying t = some .string) : RdB m t (rStrM m) := fun _ _ _ _ _ _ h hb => by
  obtain ⟨s, rfl, hx, hs⟩ := DataW.trod_string ht h
  refine ⟨s, rfl, hs, ?_⟩
  rw [hx] at hb
  simp only [Rows.uptoBulk] at hb
  have : s.data.toList.length = s.size := rfl
  omega
theorem rdb_slice {α : Type} {R : CR α} {t e : TypeId} {k m : Nat} (ht : Tryz.prog.underlying t = some (.slice e)) (hk : Tryz.prog.cellsOf e = k) (hk0 : 0 < k) (he : RdB m e R) : RdB (m + 1) t (rSl k R) := fun H enc w fuel cs x h hb => by
  rcases open_slice ht h with ⟨rfl, _⟩ | ⟨a, len, cap, mm, n, D, Pl, rfl, _, hl, hm, hmm, hxx, hx⟩
  · exact ⟨[], none, 0, rfl, Sl.nil_⟩
  · simp only [if_true] at hmm
    subst hmm
    have hbD : ∀ i, i < len → Rows.uptoBulk (D i) ≤ m := fun i hi => by
      rw [hxx] at hb
      simp only [Rows.uptoBulk] at hb
      have := bulk_mem (d := D i) (l := (List.range len).map D) (List.mem_map.2 ⟨i, List.mem_range.2 hi, rfl⟩)
      omega
    obtain ⟨xs, hlen, hxs⟩ := exists_list (p := fun i y => ∃ ecs : List Value, ecs.length = k ∧ (∀ j, j < k → w.cell? ((a.add (i * k)).add j) = ecs[j]?) ∧ R w w.heap.size ecs y) len (fun i hi => by
      obtain ⟨cs', hc, htr⟩ := hx i (by omega)
      rw [hk] at hc
      obtain ⟨_, h1, h2⟩ := World.cells?_some hc
      obtain ⟨y, hy⟩ := he H enc w n cs' _ htr (hbD i hi)
      exact ⟨y, cs', h1, h2, hy⟩)
    refine ⟨xs, some a, mm, by rw [hlen], by omega, fun i y hy => ?_⟩
    have hi : i < len := by rw [← hlen]; exact (List.getElem?_eq_some_iff.1 hy).1
    obtain ⟨ecs0, g1, g2, _⟩ := hxs 0 (xs[0]'(by omega)) (List.getElem?_eq_getElem (by omega))
    have hz : w.cell? a = some (ecs0[0]'(by omega)) := by
      have := g2 0 hk0
      rw [List.getElem?_eq_getElem (by omega)] at this
      simpa [Addr.add] using this
    obtain ⟨b, o, rfl⟩ := addr_spot hz
    have hb := World.block_lt_of_cell? w _ hz
    obtain ⟨ecs, h1, h2, h3⟩ := hxs i y hy
    have hadd : ∀ j, ((⟨b, o, none⟩ : Addr).add (i * k)).add j = ⟨b, o + i * k + j, none⟩ := fun j => by unfold Addr.add; split <;> split <;> simp_all
    refine ⟨b, o, ecs, rfl, hb, h1, fun j u hu => ?_, h3⟩
    have hj : j < k := by have := (List.getElem?_eq_some_iff.1 hu).1; omega
    rw [← hadd j, h2 j hj, hu]
theorem bulk_pos {H : Type} (d : DataW H) : 1 ≤ Rows.uptoBulk d := by
  cases d with
  | lit l => cases l <;> simp [Rows.uptoBulk]
  | _ => simp [Rows.uptoBulk]
theorem Sl.imp {α : Type} {R R' : CR α} {k : Nat} {w : World} {B : Nat} {A : Option Addr} {xs : List α} (h : Sl k R w B A xs) (hi : ∀ cs x, R w B cs x → R' w B cs x) : Sl k R' w B A xs :=
  ⟨h.1, fun i x hx => by
    obtain ⟨b, o, ecs, h1, h2, h3, h4, h5⟩ := h.2 i x hx
    exact ⟨b, o, ecs, h1, h2, h3, h4, hi _ _ h5⟩⟩
end Go.Proofs.YtcgmkjpgaigmfaaGreat
