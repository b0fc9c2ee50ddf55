import Derived.Test.YtbjokgnnklcbcaaGreatDoorShelf
import Derived.Test.YtbjokgnnklcbcaaGreatDoorTpb01
import Derived.Test.YtbjokgnnklcbcaaGreatDoorTpb35
import Derived.Test.YtbjokgnnklcbcaaGreatDoorTpb18
import Derived.Lib.LaidTab
import Derived.Laws.EntriesVeiled
set_option linter.all false
/-! Layer 13: what the builder and Itoa answer. -/
namespace Go.Proofs.YtbjokgnnklcbcaaGreatDoor
open Go.RowKit
def Tryz.lays166_ren : Go.Shelf.Ren := ⟨fun | 166 => 33 | 240 => 66 | 276 => 85 | n => n, fun | 0 => 0 | 3 => 3 | 4 => 4 | 9 => 9 | 20 => 20 | 37 => 78 | 70 => 77 | 72 => 80 | 75 => 82 | 80 => 87 | 164 => 116 | 5 => 5 | n => n, fun | n => n⟩
theorem Tryz.lays166 : Go.Proofs.Lays.n166 Tryz.prog Tryz.lays166_ren := {
 mixed := by kernel_rfl
 f166 := Tryz.func33.trans (congrArg some (by kernel_rfl))
 f240 := Tryz.func66.trans (congrArg some (by kernel_rfl))
 f276 := Tryz.func85.trans (congrArg some (by kernel_rfl))
 t0 := Tryz.underlying0
 a0 := Tryz.isAgg0
 z0 := Tryz.sizeOf0
 v0 := Tryz.zeroValue0
 t3 := Tryz.underlying3
 a3 := Tryz.isAgg3
 z3 := Tryz.sizeOf3
 v3 := Tryz.zeroValue3
 t4 := Tryz.underlying4
 a4 := Tryz.isAgg4
 z4 := Tryz.sizeOf4
 v4 := Tryz.zeroValue4
 t9 := Tryz.underlying9
 a9 := Tryz.isAgg9
 z9 := Tryz.sizeOf9
 v9 := Tryz.zeroValue9
 t20 := Tryz.underlying20
 a20 := Tryz.isAgg20
 z20 := Tryz.sizeOf20
 v20 := Tryz.zeroValue20
 t37 := Tryz.underlying78
 a37 := Tryz.isAgg78
 z37 := Tryz.sizeOf78
 v37 := Tryz.zeroValue78
 t70 := Tryz.underlying77
 a70 := Tryz.isAgg77
 z70 := Tryz.sizeOf77
 v70 := Tryz.zeroValue77
 t72 := Tryz.underlying80
 a72 := Tryz.isAgg80
 z72 := Tryz.sizeOf80
 v72 := Tryz.zeroValue80
 t75 := Tryz.underlying82
 a75 := Tryz.isAgg82
 z75 := Tryz.sizeOf82
 v75 := Tryz.zeroValue82
 t164 := Tryz.underlying116
 a164 := Tryz.isAgg116
 z164 := Tryz.sizeOf116
 v164 := Tryz.zeroValue116 }
theorem Tryz.Builder_Extra_166 : Builder.Extra Tryz.prog Tryz.lays166_ren := {
 sizeBuilder := by kernel_rfl
 liesBuilder := by kernel_rfl
 t5 := Tryz.underlying5
 a5 := Tryz.isAgg5
 z5 := Tryz.sizeOf5
 v5 := Tryz.zeroValue5
 infoByte := by kernel_rfl
 cellsByte := by kernel_rfl
 sizeByte := by kernel_rfl
 neB5 := by decide }
/-- A builder that is written. -/
def BlS (W : World) (b : Nat) (l : List UInt8) : Prop := Go.Lib.IsBuilder 80 5 b b (Go.Lib.byteCells l) W
theorem write13 (b : Nat) (l : List UInt8) (s : ByteArray) (w : World) (h : BlS w b l) (hlen : l.length + s.size ≤ 140737488355328) (hb : b ≤ w.heap.size) :
  Calls Tryz.prog 33 #[.pointer (some ⟨b, 0, none⟩), .string s] w fun e w' => e = .returned (.tuple #[.int .i64 s.size, .nilIface]) ∧ BlS w' b (l ++ s.data.toList) ∧ Below b w w' :=
 (Any.Builder_WriteString Tryz.lays166 Tryz.Builder_Extra_166 b b (Go.Lib.byteCells l) s w h (by simpa [Go.Lib.byteCells] using hlen) hb).mono fun e w' h => ⟨h.1, .inr (by
  have := h.2.1
  rw [show Go.Lib.byteCells l ++ Go.Lib.strCells s = Go.Lib.byteCells (l ++ s.data.toList) from by simp [Go.Lib.byteCells, Go.Lib.strCells]] at this
  exact this), h.2.2⟩
theorem string13 (b : Nat) (l : List UInt8) (w : World) (h : BlS w b l) (hb : b ≤ w.heap.size) :
  Calls Tryz.prog 36 #[.pointer (some ⟨b, 0, none⟩)] w fun e w' => e = .returned (.string ⟨l.toArray⟩) ∧ Below b w w' := Tryz.Builder_String_any b b l w h hb
/-- The table that Itoa reads. -/
def PowS (w : World) : Prop := Go.Lib.TabIs Tryz.prog w "internal/strconv.uint64pow10" .u64 Go.Lib.pow10Tab
theorem PowS.below {w w' : World} (h : PowS w) (hb : Below w.heap.size w w') (hl : 1 < w.heap.size) : PowS w' := by
 unfold PowS Go.Lib.TabIs at *
 rw [← h]
 unfold World.var?
 rw [show Tryz.prog.globalNamed "internal/strconv.uint64pow10" = some 1 from by kernel_rfl]
 simp only [Option.bind_some]
 rw [hb.block _ hl]
theorem itoa13 (n : Int) (w : World) (h0 : 0 ≤ n) (h1 : n ≤ 511) (hp : PowS w) :
  Calls Tryz.prog 34 #[.int .i64 n] w fun e w' => e = .returned (.string ⟨(Go.Lib.itoa n).toArray⟩) ∧ Below w.heap.size w w' :=
 (Tryz.strconv_Itoa n (by omega) (by omega) w hp).mono fun e w' h => ⟨h.1, by
  obtain ⟨k, os, hk⟩ := h.2
  rw [hk]
  exact below_regrown w (w.drawn + k) os⟩
end Go.Proofs.YtbjokgnnklcbcaaGreatDoor
/-! Layer 13: rows that are the same are told the same. -/
namespace Go.Proofs.YtbjokgnnklcbcaaGreatDoor
open Go.RowKit
set_option maxRecDepth 100000 in
set_option maxHeartbeats 4000000 in
theorem eqInts13 (xs : List Int) (A B : Option Addr) (c d : Nat) (w : World) (ha : Sl 1 rInt w w.heap.size A xs) (hb : Sl 1 rInt w w.heap.size B xs) :
  Calls Tryz.prog 39 #[.slice A xs.length c, .slice B xs.length d] w fun e w' => e = .returned (.bool true) ∧ Below w.heap.size w w' := by
 have hla := ha.len
 obtain ⟨L, hL⟩ : ∃ L, L = xs.length := ⟨_, rfl⟩
 rw [← hL] at hla ⊢
 replace hL := hide hL
 go_enter Tryz.func39, Tryz.ntmps39
 go_wp2
 go_loopw [5, 13] (fun _ j wr => ∃ k : Nat, k ≤ L ∧ j = .int .i64 k ∧ Hid (Below w.heap.size w wr)) (fun _ j _ => L - (intOf j).toNat)
 case atStart => exact ⟨0, Nat.zero_le _, rfl, hide (Below.refl _ _)⟩
 case round =>
  obtain ⟨k, hk, rfl, hB⟩ := hrel
  have hzr := hB.out.size
  have hg := gcell' hB.out hzr
  by_cases hlt : k < L
  ·have hkz : (k : Int) < (L : Int) := by omega
   have hk0 : (0 : Int) ≤ (k : Int) := by omega
   have h1 : k < xs.length := by rw [← hL.out]; exact hlt
   obtain ⟨b, o, rfl, hb1, a0⟩ := ha.int h1
   obtain ⟨b', o', rfl, hb2, b0⟩ := hb.int h1
   generalize xs[k] = v at a0 b0
   clear ha hb h1
   go_wp2_with fail
   refine wp_region_quiet_below (by kernel_rfl) (by kernel_rfl) ?_
   repeat (any_goals (first | go_big_quiet_step (fail) | quiet_step (fail)))
   refine wpQuiet_nil ?_
   intro w1 hw1
   replace hw1 := below_of_regrown hw1
   have hB1 := hide (hB.out.trans (hw1.mono hzr))
   clear hg
   go_wp2
   go_roundw
   case rel => exact ⟨k + 1, by omega, by go_num, hB1⟩
   case measure => simp [intOf]; omega
  ·go_wp2
   go_ret
   exact ⟨rfl, hB.out⟩
set_option maxRecDepth 100000 in
set_option maxHeartbeats 4000000 in
theorem eqStrs13 (xs : List ByteArray) (A B : Option Addr) (c d : Nat) (w : World) (ha : Sl 1 rStr w w.heap.size A xs) (hb : Sl 1 rStr w w.heap.size B xs) :
  Calls Tryz.prog 40 #[.slice A xs.length c, .slice B xs.length d] w fun e w' => e = .returned (.bool true) ∧ Below w.heap.size w w' := by
 have hla := ha.len
 obtain ⟨L, hL⟩ : ∃ L, L = xs.length := ⟨_, rfl⟩
 rw [← hL] at hla ⊢
 replace hL := hide hL
 go_enter Tryz.func40, Tryz.ntmps40
 go_wp2
 go_loopw [5, 13] (fun _ j wr => ∃ k : Nat, k ≤ L ∧ j = .int .i64 k ∧ Hid (Below w.heap.size w wr)) (fun _ j _ => L - (intOf j).toNat)
 case atStart => exact ⟨0, Nat.zero_le _, rfl, hide (Below.refl _ _)⟩
 case round =>
  obtain ⟨k, hk, rfl, hB⟩ := hrel
  have hzr := hB.out.size
  have hg := gcell' hB.out hzr
  by_cases hlt : k < L
  ·have hkz : (k : Int) < (L : Int) := by omega
   have hk0 : (0 : Int) ≤ (k : Int) := by omega
   have h1 : k < xs.length := by rw [← hL.out]; exact hlt
   obtain ⟨b, o, rfl, hb1, a0, -⟩ := ha.str h1
   obtain ⟨b', o', rfl, hb2, b0, -⟩ := hb.str h1
   generalize xs[k] = v at a0 b0
   clear ha hb h1
   go_wp2_with fail
   refine wp_region_quiet_below (by kernel_rfl) (by kernel_rfl) ?_
   repeat (any_goals (first | go_big_quiet_step (fail) | quiet_step (fail)))
   refine wpQuiet_nil ?_
   intro w1 hw1
   replace hw1 := below_of_regrown hw1
   have hB1 := hide (hB.out.trans (hw1.mono hzr))
   clear hg
   go_wp2
   go_roundw
   case rel => exact ⟨k + 1, by omega, by go_num, hB1⟩
   case measure => simp [intOf]; omega
  ·go_wp2
   go_ret
   exact ⟨rfl, hB.out⟩
set_option maxRecDepth 100000 in
set_option maxHeartbeats 4000000 in
theorem eqLinks13 (xs : List ((Int × Int) × (Int × Int))) (A B : Option Addr) (c d : Nat) (w : World) (ha : Sl 4 rLink w w.heap.size A xs) (hb : Sl 4 rLink w w.heap.size B xs) :
  Calls Tryz.prog 41 #[.slice A xs.length c, .slice B xs.length d] w fun e w' => e = .returned (.bool true) ∧ Below w.heap.size w w' := by
 have hla := ha.len
 obtain ⟨L, hL⟩ : ∃ L, L = xs.length := ⟨_, rfl⟩
 rw [← hL] at hla ⊢
 replace hL := hide hL
 go_enter Tryz.func41, Tryz.ntmps41
 go_wp2
 go_loopw [5, 13] (fun _ j wr => ∃ k : Nat, k ≤ L ∧ j = .int .i64 k ∧ Hid (Below w.heap.size w wr)) (fun _ j _ => L - (intOf j).toNat)
 case atStart => exact ⟨0, Nat.zero_le _, rfl, hide (Below.refl _ _)⟩
 case round =>
  obtain ⟨k, hk, rfl, hB⟩ := hrel
  have hzr := hB.out.size
  have hg := gcell' hB.out hzr
  by_cases hlt : k < L
  ·have hkz : (k : Int) < (L : Int) := by omega
   have hk0 : (0 : Int) ≤ (k : Int) := by omega
   have h1 : k < xs.length := by rw [← hL.out]; exact hlt
   obtain ⟨b, o, rfl, hb1, a0, a1, a2, a3⟩ := ha.link h1
   obtain ⟨b', o', rfl, hb2, b0, b1, b2, b3⟩ := hb.link h1
   generalize xs[k].1.1 = v0 at a0 b0
   generalize xs[k].1.2 = v1 at a1 b1
   generalize xs[k].2.1 = v2 at a2 b2
   generalize xs[k].2.2 = v3 at a3 b3
   clear ha hb h1
   go_wp2_with fail
   refine wp_region_quiet_below (by kernel_rfl) (by kernel_rfl) ?_
   repeat (any_goals (first | go_big_quiet_step (fail) | quiet_step (fail)))
   refine wpQuiet_nil ?_
   intro w1 hw1
   replace hw1 := below_of_regrown hw1
   have hB1 := hide (hB.out.trans (hw1.mono hzr))
   clear hg
   go_wp2
   go_roundw
   case rel => exact ⟨k + 1, by omega, by go_num, hB1⟩
   case measure => simp [intOf]; omega
  ·go_wp2
   go_ret
   exact ⟨rfl, hB.out⟩
end Go.Proofs.YtbjokgnnklcbcaaGreatDoor
/-! Layer 13: Same, of two that are the same. -/
namespace Go.Proofs.YtbjokgnnklcbcaaGreatDoor
open Go.RowKit
set_option maxHeartbeats 1000000 in
theorem same1_13 (xs : List Int) (A B : Option Addr) (c d : Nat) (w : World) (ha : Sl 1 rInt w w.heap.size A xs) (hb : Sl 1 rInt w w.heap.size B xs) :
  Calls Tryz.prog 38 #[.slice A xs.length c, .slice B xs.length d] w fun e w' => e = .returned (.bool true) ∧ Below w.heap.size w w' := by
 have h := hide (eqInts13 xs A B c d w ha hb)
 clear ha hb
 go_enter Tryz.func38, Tryz.ntmps38
 go_wp2_with (go_at_call 39; refine h.out.mono ?_; rintro e w1 ⟨rfl, hb1⟩)
 go_ret
 exact ⟨rfl, hb1⟩
set_option maxRecDepth 100000 in
set_option maxHeartbeats 4000000 in
theorem eqFunc13 (fid : Nat) (hfid : fid = 38) (eg : ∀ args w, (callFunc fid args).run Tryz.prog w = .ok (.enter fid args) w) (xs : List (List Int)) (A B : Option Addr) (c d : Nat) (w : World) (ha : Sl 1 (rSl 1 rInt) w w.heap.size A xs) (hb : Sl 1 (rSl 1 rInt) w w.heap.size B xs) :
  Calls Tryz.prog 37 #[.slice A xs.length c, .slice B xs.length d, .func (.func fid) #[] #[]] w fun e w' => e = .returned (.bool true) ∧ Below w.heap.size w w' := by
 have hla := ha.len
 have hcl := hide (fun (ys : List Int) (A B : Option Addr) (c d : Nat) (W : World) (h1 : Sl 1 rInt W W.heap.size A ys) (h2 : Sl 1 rInt W W.heap.size B ys) => hfid ▸ same1_13 ys A B c d W h1 h2)
 obtain ⟨L, hL⟩ : ∃ L, L = xs.length := ⟨_, rfl⟩
 rw [← hL] at hla ⊢
 replace hL := hide hL
 clear hfid
 go_enter Tryz.func37, Tryz.ntmps37
 go_wp2
 go_loopw [7, 8, 9, 17] (fun _ _ _ j wr => ∃ k : Nat, k ≤ L ∧ j = .int .i64 k ∧ Hid (Below w.heap.size w wr)) (fun _ _ _ j _ => L - (intOf j).toNat)
 case atStart => exact ⟨0, Nat.zero_le _, rfl, hide (Below.refl _ _)⟩
 case round =>
  obtain ⟨k, hk, rfl, hB⟩ := hrel
  have hzr := hB.out.size
  have hcw := bcell' hB.out
  by_cases hlt : k < L
  ·have hkz : (k : Int) < (L : Int) := by omega
   have hk0 : (0 : Int) ≤ (k : Int) := by omega
   have h1 : k < xs.length := by rw [← hL.out]; exact hlt
   obtain ⟨b, o, A1, c1, rfl, hb1, a0, s1⟩ := ha.ints h1
   obtain ⟨b', o', B1, d1, rfl, hb2, b0, s2⟩ := hb.ints h1
   have hcall := hide (hcl.out xs[k] A1 B1 c1 d1 wr ((s1.keep sta_int fun q hq => hB.out.cell hq).more sta_int hzr) ((s2.keep sta_int fun q hq => hB.out.cell hq).more sta_int hzr))
   replace a0 := (hcw.1 _ _ hb1).trans a0
   replace b0 := (hcw.1 _ _ hb2).trans b0
   have hlb1 : b < wr.heap.size := by omega
   have hlb2 : b' < wr.heap.size := by omega
   generalize xs[k].length = n1 at a0 b0 hcall
   clear ha hb h1 s1 s2 hcl hcw
   go_wp2_with (go_at_fn fid; refine hcall.out.mono ?_; rintro e w' ⟨rfl, hb3⟩)
   go_roundw
   case rel => exact ⟨k + 1, by omega, by go_num, hide (hB.out.trans (hb3.mono hzr))⟩
   case measure => simp [intOf]; omega
  ·go_wp2
   go_ret
   exact ⟨rfl, hB.out⟩
set_option maxRecDepth 100000 in
set_option maxHeartbeats 4000000 in
theorem tsame13 (n : Net) (A1 A2 A3 B1 B2 B3 : Option Addr) (c1 c2 c3 d1 d2 d3 : Nat) (w : World) (ha : NetS w w.heap.size A1 A2 A3 n) (hb : NetS w w.heap.size B1 B2 B3 n) :
  Calls Tryz.prog 12 #[netV n A1 A2 A3 c1 c2 c3, netV n B1 B2 B3 d1 d2 d3] w fun e w' => e = .returned (.bool true) ∧ Below w.heap.size w w' := by
 obtain ⟨wa, hwa, hsa, hba, hca, -⟩ := box1 w #[.slice A1 n.sw.length c1, .slice A2 n.ports.length c2, .slice A3 n.links.length c3] 27
 obtain ⟨wb, hwb, hsb, hbb, hcb, -⟩ := box1 wa #[.slice B1 n.sw.length d1, .slice B2 n.ports.length d2, .slice B3 n.links.length d3] 27
 have hB := hba.trans (hbb.mono (by omega))
 have x0 := ((bcell' hbb).1 w.heap.size 0 (by omega)).trans (hca 0)
 have x1 := ((bcell' hbb).1 w.heap.size 1 (by omega)).trans (hca 1)
 have x2 := ((bcell' hbb).1 w.heap.size 2 (by omega)).trans (hca 2)
 have y0 := hcb 0
 have y1 := hcb 1
 have y2 := hcb 2
 simp at x0 x1 x2 y0 y1 y2
 have hNa := hide (ha.below hB)
 have hNb := hide (hb.below hB)
 have eg : ∀ args w, (callFunc 38 args).run Tryz.prog w = .ok (.enter 38 args) w := enters_of Tryz.func38 (by kernel_rfl) rfl
 have hlw : w.heap.size < wb.heap.size := by omega
 have hlw1 : wa.heap.size < wb.heap.size := by omega
 have hF := hide (eqFunc13 _ rfl eg n.ports A2 B2 c2 d2 wb ((hNa.out.2.1).more (sta_sl sta_int) (Nat.le_of_lt hlw)) ((hNb.out.2.1).more (sta_sl sta_int) (Nat.le_of_lt hlw)))
 have hS := hide (fun (W : World) (hW : Below wb.heap.size wb W) => eqStrs13 n.sw A1 B1 c1 d1 W ((hNa.out.1.keep sta_str fun q hq => hW.cell (Nat.lt_trans hq hlw)).more sta_str (Nat.le_trans (Nat.le_of_lt hlw) hW.size)) ((hNb.out.1.keep sta_str fun q hq => hW.cell (Nat.lt_trans hq hlw)).more sta_str (Nat.le_trans (Nat.le_of_lt hlw) hW.size)))
 have hK := hide (fun (W : World) (hW : Below wb.heap.size wb W) => eqLinks13 n.links A3 B3 c3 d3 W ((hNa.out.2.2.keep sta_link fun q hq => hW.cell (Nat.lt_trans hq hlw)).more sta_link (Nat.le_trans (Nat.le_of_lt hlw) hW.size)) ((hNb.out.2.2.keep sta_link fun q hq => hW.cell (Nat.lt_trans hq hlw)).more sta_link (Nat.le_trans (Nat.le_of_lt hlw) hW.size)))
 have hBB := hide hB
 replace hsa := hide hsa
 replace hsb := hide hsb
 clear hca hcb hba hbb hB ha hb hNa hNb eg
 unfold netV
 go_enter Tryz.func12, Tryz.ntmps12
 go_wp2_with (first
  | (go_at_call 37; refine hF.out.mono ?_; rintro e w1 ⟨rfl, hb1⟩; have kk := bcell' hb1; replace x0 := (kk.1 _ 0 hlw).trans x0; replace x2 := (kk.1 _ 2 hlw).trans x2; replace y0 := (kk.1 _ 0 hlw1).trans y0; replace y2 := (kk.1 _ 2 hlw1).trans y2; clear kk)
  | (go_at_call 40; refine (hS.out _ hb1).mono ?_; rintro e w2 ⟨rfl, hb2⟩; have hb3 := hb1.trans (hb2.mono hb1.size); have kk := bcell' hb2; have hl1 := Nat.lt_of_lt_of_le hlw hb1.size; have hl2 := Nat.lt_of_lt_of_le hlw1 hb1.size; replace x2 := (kk.1 _ 2 hl1).trans x2; replace y2 := (kk.1 _ 2 hl2).trans y2; clear kk)
  | (go_at_call 41; refine (hK.out _ hb3).mono ?_; rintro e w4 ⟨rfl, hb4⟩))
 go_ret
 exact ⟨rfl, hBB.out.trans ((hb3.trans (hb4.mono hb3.size)).mono hBB.out.size)⟩
end Go.Proofs.YtbjokgnnklcbcaaGreatDoor
