import Derived.Test.YtcgmkjpgaigmfaaGreatChk51
import Derived.Test.YtcgmkjpgaigmfaaGreatChk26
import Derived.Test.YtcgmkjpgaigmfaaGreatChk47
import Derived.Test.YtcgmkjpgaigmfaaGreatChk01
import Derived.ProofKit
import Derived.Deep.Slices
set_option linter.all false
/-! The page's examples. -/
namespace Go.Proofs.YtcgmkjpgaigmfaaGreat
open Go.RowKit
def kS : Sa := ⟨ByteArray.mk #[115], [], accS, [], []⟩
def kP1 : Pg := ⟨[], [], [kS], [], [], [], []⟩
def kP2 : Pg := ⟨[], [], [kS, kS], [], [], [], []⟩
theorem chk_k1 : checkR kP1 = (2, 0) := by decide +kernel
theorem chk_k2 : checkR kP2 = (2, 8) := by decide +kernel
def kC : List Value := [.string (ByteArray.mk #[115]), .slice none 0 0, .string accS, .slice none 0 0, .slice none 0 0]
theorem kS_r (w : World) (B : Nat) : rSa w B kC kS := ⟨none, 0, none, 0, none, 0, rfl, by decide, by decide, Sl.nil_, Sl.nil_, Sl.nil_⟩
theorem pg_k {w : World} {B g : Nat} {l : List Sa} (hl : ∀ x ∈ l, x = kS) (hn : l.length ≤ 2) (hg : g < B) (hc : ∀ i j u, i < l.length → kC[j]? = some u → w.cell? ⟨g, i * 5 + j, none⟩ = some u) : PgS w B none none (some ⟨g, 0, none⟩) none none none none ⟨[], [], l, [], [], [], []⟩ :=
 ⟨Sl.nil_, Sl.nil_, ⟨by simp [maxLen]; omega, fun i x hx => ⟨g, 0, kC, rfl, hg, rfl, fun j u hu => by
  have := hc i j u (List.getElem?_eq_some_iff.1 hx).1 hu
  simpa using this, by rw [hl x (List.mem_of_getElem? hx)]; exact kS_r w B⟩⟩, Sl.nil_, Sl.nil_, Sl.nil_, Sl.nil_⟩
theorem chk_lit {m : Int} {w : World} {g : Nat} {l : List Sa} {c : Int × Int} (hz : w.cell? ⟨0, 0, none⟩ = some (.int .i64 m)) (hl : ∀ x ∈ l, x = kS) (hn : l.length ≤ 2) (hg : g < w.heap.size) (hc : ∀ i j u, i < l.length → kC[j]? = some u → w.cell? ⟨g, i * 5 + j, none⟩ = some u) (cap : Nat)
  (hr : checkR ⟨[], [], l, [], [], [], []⟩ = c) :
  Calls Tryz.prog 7 #[.agg #[.slice none 0 0, .slice none 0 0, .slice (some ⟨g, 0, none⟩) l.length cap, .slice none 0 0, .slice none 0 0, .slice none 0 0, .slice none 0 0]] w fun e w' => e = .returned (.tuple #[.int .i64 c.1, .int .i64 c.2]) ∧ Below w.heap.size w w' := by
 subst hr
 have h0 : 0 < w.heap.size := World.block_lt_of_cell? w _ hz
 have hP := pg_k (B := w.heap.size) hl hn hg hc
 exact check07_any none none (some ⟨g, 0, none⟩) none none none none ⟨[], [], l, [], [], [], []⟩ 0 0 cap 0 0 0 0 w.heap.size w (Nat.le_refl _) hP
  (fun W hB hb => may_any W none none (some ⟨g, 0, none⟩) none none none none ⟨[], [], l, [], [], [], []⟩ 0 0 cap 0 0 0 0 hB h0 (zcell h0 hz hb) (hP.below hb))
theorem k_five {j : Nat} {u : Value} (h : kC[j]? = some u) : (#[.string (ByteArray.mk #[115]), .slice none 0 0, .string (ByteArray.mk #[97, 99, 99, 101, 112, 116]), .slice none 0 0, .slice none 0 0] : Array Value)[j]? = some u := by
 simpa [kC, accS] using h
theorem k_ten {i j : Nat} {u : Value} (hi : i < 2) (h : kC[j]? = some u) : (#[.string (ByteArray.mk #[115]), .slice none 0 0, .string (ByteArray.mk #[97, 99, 99, 101, 112, 116]), .slice none 0 0, .slice none 0 0, .string (ByteArray.mk #[115]), .slice none 0 0, .string (ByteArray.mk #[97, 99, 99, 101, 112, 116]), .slice none 0 0, .slice none 0 0] : Array Value)[i * 5 + j]? = some u := by
 have hj : j < 5 := (List.getElem?_eq_some_iff.1 h).1
 rcases (show i = 0 ∨ i = 1 by omega) with rfl | rfl <;> rcases (show j = 0 ∨ j = 1 ∨ j = 2 ∨ j = 3 ∨ j = 4 by omega) with rfl | rfl | rfl | rfl | rfl <;> exact h
set_option maxRecDepth 100000 in
set_option maxHeartbeats 1000000 in
theorem known_any (m : Int) : Knows m := by
 intro w hz
 have h0 : 0 < w.heap.size := World.block_lt_of_cell? w _ hz
 have hq1 : Hid (Calls Tryz.prog 7 #[.agg #[.slice none 0 0, .slice none 0 0, .slice (some ⟨w.heap.size + 1, 0, none⟩) 1 1, .slice none 0 0, .slice none 0 0, .slice none 0 0, .slice none 0 0]] ((w.alloc (.cells #[.string (ByteArray.mk #[115]), .slice none 0 0, .string (ByteArray.mk #[97, 99, 99, 101, 112, 116]), .slice none 0 0, .slice none 0 0] 52)).alloc (.cells #[.string (ByteArray.mk #[115]), .slice none 0 0, .string (ByteArray.mk #[97, 99, 99, 101, 112, 116]), .slice none 0 0, .slice none 0 0] 52)) fun e w' => e = .returned (.tuple #[.int .i64 2, .int .i64 0]) ∧ Below (w.heap.size + 2) ((w.alloc (.cells #[.string (ByteArray.mk #[115]), .slice none 0 0, .string (ByteArray.mk #[97, 99, 99, 101, 112, 116]), .slice none 0 0, .slice none 0 0] 52)).alloc (.cells #[.string (ByteArray.mk #[115]), .slice none 0 0, .string (ByteArray.mk #[97, 99, 99, 101, 112, 116]), .slice none 0 0, .slice none 0 0] 52)) w') := hide (by
  have hb1 : Below w.heap.size w (w.alloc (.cells #[.string (ByteArray.mk #[115]), .slice none 0 0, .string (ByteArray.mk #[97, 99, 99, 101, 112, 116]), .slice none 0 0, .slice none 0 0] 52)) := (Below.refl _ _).alloc (Nat.le_refl _) _
  have hs1 : (w.alloc (.cells #[.string (ByteArray.mk #[115]), .slice none 0 0, .string (ByteArray.mk #[97, 99, 99, 101, 112, 116]), .slice none 0 0, .slice none 0 0] 52)).heap.size = w.heap.size + 1 := by simp
  have hb2 : Below (w.heap.size + 1) (w.alloc (.cells #[.string (ByteArray.mk #[115]), .slice none 0 0, .string (ByteArray.mk #[97, 99, 99, 101, 112, 116]), .slice none 0 0, .slice none 0 0] 52)) ((w.alloc (.cells #[.string (ByteArray.mk #[115]), .slice none 0 0, .string (ByteArray.mk #[97, 99, 99, 101, 112, 116]), .slice none 0 0, .slice none 0 0] 52)).alloc (.cells #[.string (ByteArray.mk #[115]), .slice none 0 0, .string (ByteArray.mk #[97, 99, 99, 101, 112, 116]), .slice none 0 0, .slice none 0 0] 52)) := (Below.refl _ _).alloc (Nat.le_of_eq hs1.symm) _
  have hs2 : ((w.alloc (.cells #[.string (ByteArray.mk #[115]), .slice none 0 0, .string (ByteArray.mk #[97, 99, 99, 101, 112, 116]), .slice none 0 0, .slice none 0 0] 52)).alloc (.cells #[.string (ByteArray.mk #[115]), .slice none 0 0, .string (ByteArray.mk #[97, 99, 99, 101, 112, 116]), .slice none 0 0, .slice none 0 0] 52)).heap.size = w.heap.size + 2 := by simp
  have hcl : ∀ i, ((w.alloc (.cells #[.string (ByteArray.mk #[115]), .slice none 0 0, .string (ByteArray.mk #[97, 99, 99, 101, 112, 116]), .slice none 0 0, .slice none 0 0] 52)).alloc (.cells #[.string (ByteArray.mk #[115]), .slice none 0 0, .string (ByteArray.mk #[97, 99, 99, 101, 112, 116]), .slice none 0 0, .slice none 0 0] 52)).cell? ⟨w.heap.size + 1, i, none⟩ = (#[.string (ByteArray.mk #[115]), .slice none 0 0, .string (ByteArray.mk #[97, 99, 99, 101, 112, 116]), .slice none 0 0, .slice none 0 0] : Array Value)[i]? := fun i => by
   rw [← hs1]; exact World.cell?_alloc_at _ _ _ _ rfl
  have hz2 := zcell h0 hz (hb1.trans (hb2.mono (by omega)))
  generalize (w.alloc (.cells #[.string (ByteArray.mk #[115]), .slice none 0 0, .string (ByteArray.mk #[97, 99, 99, 101, 112, 116]), .slice none 0 0, .slice none 0 0] 52)).alloc (.cells #[.string (ByteArray.mk #[115]), .slice none 0 0, .string (ByteArray.mk #[97, 99, 99, 101, 112, 116]), .slice none 0 0, .slice none 0 0] 52) = wb at *
  have := chk_lit (l := [kS]) (c := (2, 0)) (g := w.heap.size + 1) hz2 (by simp) (by simp) (by omega) (fun i j u hi hu => by
   have hi0 : i = 0 := by simpa using hi
   subst hi0
   rw [Nat.zero_mul, Nat.zero_add, hcl]
   exact k_five hu) 1 chk_k1
  rw [hs2] at this
  exact this)
 have hq2 : Hid (∀ w1 : World, w1.cell? ⟨0, 0, none⟩ = some (.int .i64 m) → Calls Tryz.prog 7 #[.agg #[.slice none 0 0, .slice none 0 0, .slice (some ⟨w1.heap.size, 0, none⟩) 2 2, .slice none 0 0, .slice none 0 0, .slice none 0 0, .slice none 0 0]] (w1.alloc (.cells #[.string (ByteArray.mk #[115]), .slice none 0 0, .string (ByteArray.mk #[97, 99, 99, 101, 112, 116]), .slice none 0 0, .slice none 0 0, .string (ByteArray.mk #[115]), .slice none 0 0, .string (ByteArray.mk #[97, 99, 99, 101, 112, 116]), .slice none 0 0, .slice none 0 0] 52)) fun e w' => e = .returned (.tuple #[.int .i64 2, .int .i64 8]) ∧ Below w1.heap.size w1 w') := hide (fun w1 hz1 => by
  have h01 : 0 < w1.heap.size := World.block_lt_of_cell? w1 _ hz1
  have hb1 : Below w1.heap.size w1 (w1.alloc (.cells #[.string (ByteArray.mk #[115]), .slice none 0 0, .string (ByteArray.mk #[97, 99, 99, 101, 112, 116]), .slice none 0 0, .slice none 0 0, .string (ByteArray.mk #[115]), .slice none 0 0, .string (ByteArray.mk #[97, 99, 99, 101, 112, 116]), .slice none 0 0, .slice none 0 0] 52)) := (Below.refl _ _).alloc (Nat.le_refl _) _
  have hs1 : (w1.alloc (.cells #[.string (ByteArray.mk #[115]), .slice none 0 0, .string (ByteArray.mk #[97, 99, 99, 101, 112, 116]), .slice none 0 0, .slice none 0 0, .string (ByteArray.mk #[115]), .slice none 0 0, .string (ByteArray.mk #[97, 99, 99, 101, 112, 116]), .slice none 0 0, .slice none 0 0] 52)).heap.size = w1.heap.size + 1 := by simp
  have hcl : ∀ i, (w1.alloc (.cells #[.string (ByteArray.mk #[115]), .slice none 0 0, .string (ByteArray.mk #[97, 99, 99, 101, 112, 116]), .slice none 0 0, .slice none 0 0, .string (ByteArray.mk #[115]), .slice none 0 0, .string (ByteArray.mk #[97, 99, 99, 101, 112, 116]), .slice none 0 0, .slice none 0 0] 52)).cell? ⟨w1.heap.size, i, none⟩ = (#[.string (ByteArray.mk #[115]), .slice none 0 0, .string (ByteArray.mk #[97, 99, 99, 101, 112, 116]), .slice none 0 0, .slice none 0 0, .string (ByteArray.mk #[115]), .slice none 0 0, .string (ByteArray.mk #[97, 99, 99, 101, 112, 116]), .slice none 0 0, .slice none 0 0] : Array Value)[i]? := fun i => World.cell?_alloc_at _ _ _ _ rfl
  have hz2 := zcell h01 hz1 hb1
  generalize w1.alloc (.cells #[.string (ByteArray.mk #[115]), .slice none 0 0, .string (ByteArray.mk #[97, 99, 99, 101, 112, 116]), .slice none 0 0, .slice none 0 0, .string (ByteArray.mk #[115]), .slice none 0 0, .string (ByteArray.mk #[97, 99, 99, 101, 112, 116]), .slice none 0 0, .slice none 0 0] 52) = wb at *
  refine (chk_lit (l := [kS, kS]) (c := (2, 8)) (g := w1.heap.size) hz2 (by simp) (by simp) (by omega) (fun i j u hi hu => by
   rw [hcl]
   exact k_ten (by simpa using hi) hu) 2 chk_k2).mono fun e w' h => ⟨h.1, hb1.trans (h.2.mono (by omega))⟩)
 have hst : Hid (∀ w1 : World, Below (w.heap.size + 2) ((w.alloc (.cells #[.string (ByteArray.mk #[115]), .slice none 0 0, .string (ByteArray.mk #[97, 99, 99, 101, 112, 116]), .slice none 0 0, .slice none 0 0] 52)).alloc (.cells #[.string (ByteArray.mk #[115]), .slice none 0 0, .string (ByteArray.mk #[97, 99, 99, 101, 112, 116]), .slice none 0 0, .slice none 0 0] 52)) w1 → Below w.heap.size w w1 ∧ ∀ i, w1.cell? ⟨w.heap.size, i, none⟩ = (#[.string (ByteArray.mk #[115]), .slice none 0 0, .string (ByteArray.mk #[97, 99, 99, 101, 112, 116]), .slice none 0 0, .slice none 0 0] : Array Value)[i]?) := hide (fun w1 hb => by
  have hb1 : Below w.heap.size w (w.alloc (.cells #[.string (ByteArray.mk #[115]), .slice none 0 0, .string (ByteArray.mk #[97, 99, 99, 101, 112, 116]), .slice none 0 0, .slice none 0 0] 52)) := (Below.refl _ _).alloc (Nat.le_refl _) _
  have hs1 : (w.alloc (.cells #[.string (ByteArray.mk #[115]), .slice none 0 0, .string (ByteArray.mk #[97, 99, 99, 101, 112, 116]), .slice none 0 0, .slice none 0 0] 52)).heap.size = w.heap.size + 1 := by simp
  have hb2 : Below (w.heap.size + 1) (w.alloc (.cells #[.string (ByteArray.mk #[115]), .slice none 0 0, .string (ByteArray.mk #[97, 99, 99, 101, 112, 116]), .slice none 0 0, .slice none 0 0] 52)) ((w.alloc (.cells #[.string (ByteArray.mk #[115]), .slice none 0 0, .string (ByteArray.mk #[97, 99, 99, 101, 112, 116]), .slice none 0 0, .slice none 0 0] 52)).alloc (.cells #[.string (ByteArray.mk #[115]), .slice none 0 0, .string (ByteArray.mk #[97, 99, 99, 101, 112, 116]), .slice none 0 0, .slice none 0 0] 52)) := (Below.refl _ _).alloc (Nat.le_of_eq hs1.symm) _
  have hcl : ∀ i, (w.alloc (.cells #[.string (ByteArray.mk #[115]), .slice none 0 0, .string (ByteArray.mk #[97, 99, 99, 101, 112, 116]), .slice none 0 0, .slice none 0 0] 52)).cell? ⟨w.heap.size, i, none⟩ = (#[.string (ByteArray.mk #[115]), .slice none 0 0, .string (ByteArray.mk #[97, 99, 99, 101, 112, 116]), .slice none 0 0, .slice none 0 0] : Array Value)[i]? := fun i => World.cell?_alloc_at _ _ _ _ rfl
  refine ⟨hb1.trans ((hb2.mono (by omega)).trans (hb.mono (by omega))), fun i => ?_⟩
  rw [hb.cell (p := ⟨w.heap.size, i, none⟩) (by show w.heap.size < _; omega), hb2.cell (p := ⟨w.heap.size, i, none⟩) (by show w.heap.size < _; omega)]
  exact hcl i)
 go_enter Tryz.func6, Tryz.ntmps6
 go_wp2_with fail
 refine hq1.out.mono ?_
 rintro e w1 ⟨rfl, hb1⟩
 obtain ⟨hw1, hc1⟩ := hst.out w1 hb1
 obtain ⟨y0, y1, y2, y3, y4⟩ := row5 hc1
 have hz1 := hide (zcell h0 hz hw1)
 have hzs := hw1.size
 replace hw1 := hide hw1
 have hlt : w.heap.size < w1.heap.size := World.block_lt_of_cell? w1 _ y0
 clear hc1 hb1 hst hq1
 go_wp2_with fail
 refine (hq2.out w1 hz1.out).mono ?_
 rintro e w2 ⟨rfl, hb2⟩
 go_wp2
 go_ret
 exact ⟨rfl, hw1.out.trans (hb2.mono hzs)⟩
end Go.Proofs.YtcgmkjpgaigmfaaGreat
/-! ResolveChecks: the law's walk. -/
namespace Go.Proofs.YtcgmkjpgaigmfaaGreat
open Go.RowKit
set_option maxRecDepth 100000 in
set_option maxHeartbeats 2000000 in
theorem checks_any {m : Int} (hknown : Knows m) (w : World) (A1 A2 A3 A4 A5 A6 A7 : Option Addr) (p : Pg) (c1 c2 c3 c4 c5 c6 c7 : Nat) (hz : w.cell? ⟨0, 0, none⟩ = some (.int .i64 m)) (h : PgS w w.heap.size A1 A2 A3 A4 A5 A6 A7 p) (hbig : mayP p = true → (itemsP p).length ≤ bigI) :
  Calls Tryz.prog 3 #[.agg #[.slice A1 p.headers.length c1, .slice A2 p.metas.length c2, .slice A3 p.states.length c3, .slice A4 p.actions.length c4, .slice A5 p.tables.length c5, .slice A6 p.control.length c6, .slice A7 p.emit.length c7]] w fun e w' => e = .returned (.bool true) ∧ Below w.heap.size w w' := by
 have h0 : 0 < w.heap.size := World.block_lt_of_cell? w _ hz
 obtain ⟨wb, hwb, hsz, hba, hcb, -⟩ := box1 w #[.slice A1 p.headers.length c1, .slice A2 p.metas.length c2, .slice A3 p.states.length c3, .slice A4 p.actions.length c4, .slice A5 p.tables.length c5, .slice A6 p.control.length c6, .slice A7 p.emit.length c7] 30
 obtain ⟨y0, y1, y2, y3, y4, y5, y6⟩ := row7 (w := wb) (a := w.heap.size) fun i => hcb i
 have hb0 : Below wb.heap.size wb wb := Below.refl _ _
 have hBk := hide (show ∀ W, Below wb.heap.size wb W → Below w.heap.size w W from fun W hb => hba.trans (hb.mono (by omega)))
 have hc0 := hide (show ∀ W, Below wb.heap.size wb W → W.cell? ⟨0, 0, none⟩ = some (.int .i64 m) from fun W hb => zcell h0 hz (hBk.out W hb))
 have hk := hide (show ∀ W, Below wb.heap.size wb W → PgS W w.heap.size A1 A2 A3 A4 A5 A6 A7 p from fun W hb => h.below (hBk.out W hb))
 have hle : ∀ W, Below wb.heap.size wb W → w.heap.size ≤ W.heap.size := fun W hb => (hBk.out W hb).size
 have qG := hide (fun (W : World) (hb : Below wb.heap.size wb W) => (great04_any W A1 A2 A3 A4 A5 A6 A7 p c1 c2 c3 c4 c5 c6 c7 ((hk.out W hb).more (hle W hb))).mono (fun e w' h => (⟨h.1, hb.trans (h.2.mono hb.size)⟩ : (∃ g, e = .returned (.bool g)) ∧ Below wb.heap.size wb w')))
 have qC := hide (fun (W : World) (hb : Below wb.heap.size wb W) => (check07_any A1 A2 A3 A4 A5 A6 A7 p c1 c2 c3 c4 c5 c6 c7 w.heap.size W (hle W hb) (hk.out W hb) (fun W' hB' hb' => may_any W' A1 A2 A3 A4 A5 A6 A7 p c1 c2 c3 c4 c5 c6 c7 hB' h0 (zcell (Nat.lt_of_lt_of_le h0 (hle W hb)) (hc0.out W hb) hb') ((hk.out W hb).below (hb'.mono (hle W hb))))).mono (fun e w' h => (⟨h.1, hb.trans (h.2.mono hb.size)⟩ : e = .returned (.tuple #[.int .i64 (checkR p).1, .int .i64 (checkR p).2]) ∧ Below wb.heap.size wb w')))
 have qR := hide (fun (W : World) (hb : Below wb.heap.size wb W) => (check07r_any A1 A2 A3 A4 A5 A6 A7 p c1 c2 c3 c4 c5 c6 c7 w.heap.size W (hle W hb) (hk.out W hb) hbig).mono (fun e w' h => (⟨h.1, hb.trans (h.2.mono hb.size)⟩ : e = .returned (.tuple #[.int .i64 (checkR p).1, .int .i64 (checkR p).2]) ∧ Below wb.heap.size wb w')))
 have qK := hide (fun (W : World) (hb : Below wb.heap.size wb W) => (hknown W (hc0.out W hb)).mono (fun e w' h => (⟨h.1, hb.trans (h.2.mono hb.size)⟩ : e = .returned (.bool true) ∧ Below wb.heap.size wb w')))
 have hlz : w.heap.size < wb.heap.size := by omega
 generalize (checkR p).1 = n at qC qR
 generalize (checkR p).2 = c at qC qR
 clear hcb hba hz h hle
 go_enter Tryz.func3, Tryz.ntmps3
 go_wp2_with fail
 refine (qG.out _ hb0).mono ?_
 rintro e w1 ⟨⟨g, rfl⟩, hb1⟩
 have kb1 := bcell' hb1
 cases g with
 | true =>
  go_wp2_with (go_at_call 6; refine (qK.out _ hb1).mono ?_; rintro e w2 ⟨rfl, hb2⟩)
  go_ret
  exact ⟨rfl, hBk.out _ hb2⟩
 | false =>
  go_wp2_with fail
  refine (qC.out _ hb1).mono ?_
  rintro e w2 ⟨rfl, hb2⟩
  have kb2 := bcell' hb2
  clear qG qC kb1
  go_wp2_with fail
  refine (qR.out _ hb2).mono ?_
  rintro e w3 ⟨rfl, hb3⟩
  go_wp2_with (go_at_call 6; refine (qK.out _ hb3).mono ?_; rintro e w4 ⟨rfl, hb4⟩)
  go_ret
  exact ⟨rfl, hBk.out _ hb4⟩
end Go.Proofs.YtcgmkjpgaigmfaaGreat
/-! Arguments opened to what the walks speak of: a type that reads as R. -/
namespace Go.Proofs.YtcgmkjpgaigmfaaGreat
open Go.ChangeShapes Go.WideShapes Go.ChangeAt Go.RowKit Go.Deep
/-- Whatever reads as data of type t, reads as R. -/
def Rd {α : Type} (t : TypeId) (R : CR α) : Prop :=
 ∀ (H : Type) (enc : TypeId × Value → H) (w : World) (fuel : Nat) (cs : List Value) (x : DataW H × List MemPlace), DataW.trod enc Tryz.prog w 0 (fun _ => true) true fuel t cs = some x → ∃ a, R w w.heap.size cs a
theorem rd_int {t : TypeId} (ht : Tryz.prog.underlying t = some (.int .i64)) : Rd t rInt := fun _ _ _ _ _ _ h => by
 obtain ⟨n, rfl, _, _⟩ := DataW.trod_int ht h
 exact ⟨n, rfl⟩
theorem rd_str {t : TypeId} (ht : Tryz.prog.underlying t = some .string) : Rd t rStr := fun _ _ _ _ _ _ h => by
 obtain ⟨s, rfl, _, hs⟩ := DataW.trod_string ht h
 exact ⟨s, rfl, hs⟩
theorem addr_spot {w : World} {a : Addr} {v : Value} (h : w.cell? a = some v) : ∃ b o, a = ⟨b, o, none⟩ := by
 obtain ⟨b, o, spot⟩ := a
 cases spot with
 | none => exact ⟨b, o, rfl⟩
 | some s => simp [World.cell?] at h; split at h <;> cases h
theorem exists_list {α : Type} {p : Nat → α → Prop} : ∀ len : Nat, (∀ i, i < len → ∃ a, p i a) → ∃ xs : List α, xs.length = len ∧ ∀ i x, xs[i]? = some x → p i x
 | 0, _ => ⟨[], rfl, fun i x h => by simp at h⟩
 | len + 1, h => by
  obtain ⟨xs, h1, h2⟩ := exists_list len (fun i hi => h i (by omega))
  obtain ⟨a, ha⟩ := h len (by omega)
  refine ⟨xs ++ [a], by simp [h1], fun i x hx => ?_⟩
  by_cases hi : i < len
  ·rw [List.getElem?_append_left (by omega)] at hx
   exact h2 i x hx
  ·have hil : i = len := by
    have := (List.getElem?_eq_some_iff.1 hx).1
    simp [h1] at this; omega
   subst hil
   rw [List.getElem?_append_right (by omega), h1] at hx
   simp at hx
   subst hx
   exact ha
theorem rd_slice {α : Type} {R : CR α} {t e : TypeId} {k : Nat} (ht : Tryz.prog.underlying t = some (.slice e)) (hk : Tryz.prog.cellsOf e = k) (hk0 : 0 < k) (he : Rd e R) : Rd t (rSl k R) := fun H enc w fuel cs x h => by
 rcases open_slice ht h with ⟨rfl, _⟩ | ⟨a, len, cap, m, n, D, Pl, rfl, _, hl, hm, hmm, _, hx⟩
 ·exact ⟨[], none, 0, rfl, Sl.nil_⟩
 ·simp only [if_true] at hmm
  subst hmm
  obtain ⟨xs, hlen, hxs⟩ := exists_list (p := fun i y => ∃ ecs : List Value, ecs.length = k ∧ (∀ j, j < k → w.cell? ((a.add (i * k)).add j) = ecs[j]?) ∧ R w w.heap.size ecs y) len (fun i hi => by
   obtain ⟨cs', hc, htr⟩ := hx i (by omega)
   rw [hk] at hc
   obtain ⟨_, h1, h2⟩ := World.cells?_some hc
   obtain ⟨y, hy⟩ := he H enc w n cs' _ htr
   exact ⟨y, cs', h1, h2, hy⟩)
  refine ⟨xs, some a, m, by rw [hlen], by omega, fun i y hy => ?_⟩
  have hi : i < len := by rw [← hlen]; exact (List.getElem?_eq_some_iff.1 hy).1
  obtain ⟨ecs0, g1, g2, _⟩ := hxs 0 (xs[0]'(by omega)) (List.getElem?_eq_getElem (by omega))
  have hz : w.cell? a = some (ecs0[0]'(by omega)) := by
   have := g2 0 hk0
   rw [List.getElem?_eq_getElem (by omega)] at this
   simpa [Addr.add] using this
  obtain ⟨b, o, rfl⟩ := addr_spot hz
  have hb := World.block_lt_of_cell? w _ hz
  obtain ⟨ecs, h1, h2, h3⟩ := hxs i y hy
  have hadd : ∀ j, ((⟨b, o, none⟩ : Addr).add (i * k)).add j = ⟨b, o + i * k + j, none⟩ := fun j => by unfold Addr.add; split <;> split <;> simp_all
  refine ⟨b, o, ecs, rfl, hb, h1, fun j u hu => ?_, h3⟩
  have hj : j < k := by have := (List.getElem?_eq_some_iff.1 hu).1; omega
  rw [← hadd j, h2 j hj, hu]
/-- A row's last step where nothing that lay has turned; no 'again'. -/
theorem post_below {H : Type} {enc : TypeId × Value → H} {P : Program} {f : Func} {s : ChangeSpec} {apart fresh handsOn : Bool} {W W' : World} {args : Array Value} {v : Value} {ds gs : List (DataW H)} {before pa pv : List MemPlace}
  (hW : DataW.Whole enc P f.params.toList s.vars apart W args.toList ds gs before)
  (hres : ∀ (b : Nat) (sp : Nat → Bool) (hd : Bool), DataW.TrodAll enc P W' b sp hd f.resultTypes.toList (v.resultList f.resultTypes.size) (s.fn H (ds ++ gs)).results [])
  (hargs : DataW.TrodAll enc P W' 0 (fun b => decide (b < W.heap.size)) true f.params.toList args.toList (s.fn H (ds ++ gs)).args pa)
  (hvars : DataW.TrodVars enc P W' (fun b => decide (b < W.heap.size)) s.vars (s.fn H (ds ++ gs)).vars pv)
  (hps : before = pa ++ pv) (hb : Below W.heap.size W W') : s.post enc P f apart fresh handsOn false W args v W' := by
 have hlt : ∀ p ∈ before, p.block < W.heap.size := fun p hp => hW.lt p hp
 refine ⟨ds, gs, before, [], pa, pv, hW, hres _ _ _, hargs, hvars, World.keptBut_mono (fun p hp => ⟨hp, ?_⟩) (hb.frame (· ∈ before)), fun h => by cases h⟩
 rw [hps, List.mem_append] at hp
 exact Or.inr hp
end Go.Proofs.YtcgmkjpgaigmfaaGreat
