import Derived.Test.YtbbdhknagofghaaGreatWhl20
set_option linter.all false
/-! Layer 4: mayStmt at a forward, a validity, a set. -/
namespace Go.Proofs.YtbbdhknagofghaaGreat
open Go.RowKit
theorem zcell {m : Int} {w W : World} (h0 : 0 < w.heap.size) (hz : w.cell? ⟨0, 0, none⟩ = some (.int .i64 m)) (hb : Below w.heap.size w W) : W.cell? ⟨0, 0, none⟩ = some (.int .i64 m) := (hb.cell (p := ⟨0, 0, none⟩) h0).trans hz
set_option maxRecDepth 200000 in
set_option maxHeartbeats 400000 in
theorem mays_fwd {m : Int} {B : Nat} (kind : Int) (hk : kind = 5) (head name : ByteArray) (e : Ex) (thn els : List St) (cs : List Value) (w : World) (deep : Nat) (hr : rSt w B cs (.mk kind head name e thn els)) (hel : cs.length = 14)
  (hB : B ≤ w.heap.size) (h00 : 0 < B) (hz : w.cell? ⟨0, 0, none⟩ = some (.int .i64 m)) (hb : thn.length + els.length = 0) :
  Calls Tryz.prog 148 #[.agg cs.toArray, .int .i64 (deep : Int)] w fun r w' => r = .returned (.bool (mayS (.mk kind head name e thn els) deep)) ∧ Below w.heap.size w w' := by
 have hv : mayS (.mk kind head name e thn els) deep = (decide (head = strE ∧ name = strE) && mayE e) := by
  simp [mayS, emp2 hb, hk, Bool.and_assoc]
 rw [hv]
 clear hv
 obtain ⟨es, A1, c1, A2, c2, rfl, h0, h1, h2', he, hT, hE⟩ := RS.inv hr
 have hsm := RS.small hr
 have l1 := hT.len
 have l2 := hE.len
 have hX0 := fun (W : World) (hb : Below w.heap.size w W) => mayexpr_any e es W (Nat.le_trans hB hb.size) h00 (zcell (Nat.lt_of_lt_of_le h00 hB) hz hb) (sta_ex.keep he fun q hq => (hb.mono hB).cell hq)
 obtain ⟨op, lit, eh, en, hi, lo, args⟩ := e
 obtain ⟨A, cap, rfl, -, -, -, -, -, -, hs⟩ := RE.inv he
 have hla := hs.len
 obtain ⟨wa, hwa, hsa, hba, hca, -⟩ := box1 w #[.int .u8 kind, .string head, .string name, .int .u8 op, .int .i64 lit.1, .int .u64 lit.2.1, .int .u64 lit.2.2, .string eh, .string en, .int .i64 hi, .int .i64 lo, .slice A args.length cap, .slice A1 thn.length c1, .slice A2 els.length c2] 47
 obtain ⟨y0, y1, y2, y3, y4, y5, y6, y7, y8, y9, y10, y11, y12, y13⟩ := row14 hca
 have hza : wa.cell? ⟨0, 0, none⟩ = some (.int .i64 m) := (hba.cell (p := ⟨0, 0, none⟩) (by show 0 < _; omega)).trans hz
 have hNh := isName_any head m wa (Nat.le_trans h1 (by decide)) hza
 have hNn := isName_any name m wa (Nat.le_trans h2' (by decide)) hza
 clear hca
 have hX1 := hX0 wa hba
 clear hX0 hr he hT hE hs hel
 replace hba := hide hba
 have hle : w.heap.size ≤ wa.heap.size := by omega
 have hbw : (thn.length : Int) + (els.length : Int) ≤ 9223372036854775807 := by unfold sm at hsm; omega
 show Calls _ _ #[.agg #[.int .u8 kind, .string head, .string name, .int .u8 op, .int .i64 lit.1, .int .u64 lit.2.1, .int .u64 lit.2.2, .string eh, .string en, .int .i64 hi, .int .i64 lo, .slice A args.length cap, .slice A1 thn.length c1, .slice A2 els.length c2], .int .i64 (deep : Int)] _ _
 have hbz : ¬ ((thn.length : Int) + (els.length : Int) > 0) := by omega
 have hcat : head.size + name.size ≤ 9223372036854775807 := by unfold sm at h1 h2'; omega
 subst hk
 have hX : Hid (Calls Tryz.prog 28 #[.agg #[.int .u8 op, .int .i64 lit.1, .int .u64 lit.2.1, .int .u64 lit.2.2, .string eh, .string en, .int .i64 hi, .int .i64 lo, .slice A args.length cap]] wa fun r w' => r = .returned (.bool (mayE (.mk op lit eh en hi lo args))) ∧ Below wa.heap.size wa w') := hide hX1
 clear hX1
 generalize mayE (.mk op lit eh en hi lo args) = z at hX ⊢
 clear hNh hNn
 by_cases e1 : head = strE ∧ name = strE
 ·rw [decide_eq_true e1]
  have q1 := emp_add.1 e1
  clear e1
  go_enter Tryz.func148, Tryz.ntmps148
  go_wp2_with (go_at_call 28; refine hX.out.mono ?_; rintro e w1 ⟨rfl, hb1⟩)
  go_ret
  exact ⟨rfl, hba.out.trans (hb1.mono hle)⟩
 ·rw [decide_eq_false e1]
  have q1 := fun h => e1 (emp_add.2 h)
  clear e1
  go_enter Tryz.func148, Tryz.ntmps148
  go_wp2
  go_ret
  exact ⟨rfl, hba.out⟩
set_option maxRecDepth 200000 in
set_option maxHeartbeats 400000 in
theorem mays_valid6 {m : Int} {B : Nat} (kind : Int) (hk : kind = 6) (head name : ByteArray) (e : Ex) (thn els : List St) (cs : List Value) (w : World) (deep : Nat) (hr : rSt w B cs (.mk kind head name e thn els)) (hel : cs.length = 14)
  (hB : B ≤ w.heap.size) (h00 : 0 < B) (hz : w.cell? ⟨0, 0, none⟩ = some (.int .i64 m)) (hb : thn.length + els.length = 0) :
  Calls Tryz.prog 148 #[.agg cs.toArray, .int .i64 (deep : Int)] w fun r w' => r = .returned (.bool (mayS (.mk kind head name e thn els) deep)) ∧ Below w.heap.size w w' := by
 have hv : mayS (.mk kind head name e thn els) deep = (nameB head && (decide (name = strE) && noEx e)) := by
  simp [mayS, emp2 hb, hk, Bool.and_assoc]
 rw [hv]
 clear hv
 obtain ⟨es, A1, c1, A2, c2, rfl, h0, h1, h2', he, hT, hE⟩ := RS.inv hr
 have hsm := RS.small hr
 have l1 := hT.len
 have l2 := hE.len
 have hX0 := fun (W : World) (hb : Below w.heap.size w W) => isNone_any e es W (sta_ex.keep he fun q hq => (hb.mono hB).cell hq)
 obtain ⟨op, lit, eh, en, hi, lo, args⟩ := e
 obtain ⟨A, cap, rfl, -, -, -, -, -, -, hs⟩ := RE.inv he
 have hla := hs.len
 obtain ⟨wa, hwa, hsa, hba, hca, -⟩ := box1 w #[.int .u8 kind, .string head, .string name, .int .u8 op, .int .i64 lit.1, .int .u64 lit.2.1, .int .u64 lit.2.2, .string eh, .string en, .int .i64 hi, .int .i64 lo, .slice A args.length cap, .slice A1 thn.length c1, .slice A2 els.length c2] 47
 obtain ⟨y0, y1, y2, y3, y4, y5, y6, y7, y8, y9, y10, y11, y12, y13⟩ := row14 hca
 have hza : wa.cell? ⟨0, 0, none⟩ = some (.int .i64 m) := (hba.cell (p := ⟨0, 0, none⟩) (by show 0 < _; omega)).trans hz
 have hNh := isName_any head m wa (Nat.le_trans h1 (by decide)) hza
 have hNn := isName_any name m wa (Nat.le_trans h2' (by decide)) hza
 clear hca
 have hX1 := hX0 wa hba
 clear hX0 hr he hT hE hs hel
 replace hba := hide hba
 have hle : w.heap.size ≤ wa.heap.size := by omega
 have hbw : (thn.length : Int) + (els.length : Int) ≤ 9223372036854775807 := by unfold sm at hsm; omega
 show Calls _ _ #[.agg #[.int .u8 kind, .string head, .string name, .int .u8 op, .int .i64 lit.1, .int .u64 lit.2.1, .int .u64 lit.2.2, .string eh, .string en, .int .i64 hi, .int .i64 lo, .slice A args.length cap, .slice A1 thn.length c1, .slice A2 els.length c2], .int .i64 (deep : Int)] _ _
 have hbz : ¬ ((thn.length : Int) + (els.length : Int) > 0) := by omega
 subst hk
 have hX : Hid (Calls Tryz.prog 202 #[.agg #[.int .u8 op, .int .i64 lit.1, .int .u64 lit.2.1, .int .u64 lit.2.2, .string eh, .string en, .int .i64 hi, .int .i64 lo, .slice A args.length cap]] wa fun r w' => r = .returned (.bool (noEx (.mk op lit eh en hi lo args))) ∧ Below wa.heap.size wa w') := hide hX1
 clear hX1
 generalize noEx (.mk op lit eh en hi lo args) = z at hX ⊢
 clear hNn
 generalize nameB head = y at hNh ⊢
 cases y with
 | false =>
  go_enter Tryz.func148, Tryz.ntmps148
  go_wp2_with (go_at_call 58; refine hNh.mono ?_; rintro e w' ⟨rfl, rfl⟩)
  go_ret
  exact ⟨rfl, hba.out⟩
 | true =>
  by_cases e1 : name = strE
  ·rw [decide_eq_true e1]
   have q1 := emp_iff.1 e1
   clear e1
   go_enter Tryz.func148, Tryz.ntmps148
   go_wp2_with (first | (go_at_call 58; refine hNh.mono ?_; rintro e w' ⟨rfl, rfl⟩) | (go_at_call 202; refine hX.out.mono ?_; rintro e w1 ⟨rfl, hb1⟩))
   go_ret
   exact ⟨rfl, hba.out.trans (hb1.mono hle)⟩
  ·rw [decide_eq_false e1]
   have q1 := fun h => e1 (emp_iff.2 h)
   clear e1
   go_enter Tryz.func148, Tryz.ntmps148
   go_wp2_with (go_at_call 58; refine hNh.mono ?_; rintro e w' ⟨rfl, rfl⟩)
   go_ret
   exact ⟨rfl, hba.out⟩
set_option maxRecDepth 200000 in
set_option maxHeartbeats 400000 in
theorem mays_valid7 {m : Int} {B : Nat} (kind : Int) (hk : kind = 7) (head name : ByteArray) (e : Ex) (thn els : List St) (cs : List Value) (w : World) (deep : Nat) (hr : rSt w B cs (.mk kind head name e thn els)) (hel : cs.length = 14)
  (hB : B ≤ w.heap.size) (h00 : 0 < B) (hz : w.cell? ⟨0, 0, none⟩ = some (.int .i64 m)) (hb : thn.length + els.length = 0) :
  Calls Tryz.prog 148 #[.agg cs.toArray, .int .i64 (deep : Int)] w fun r w' => r = .returned (.bool (mayS (.mk kind head name e thn els) deep)) ∧ Below w.heap.size w w' := by
 have hv : mayS (.mk kind head name e thn els) deep = (nameB head && (decide (name = strE) && noEx e)) := by
  simp [mayS, emp2 hb, hk, Bool.and_assoc]
 rw [hv]
 clear hv
 obtain ⟨es, A1, c1, A2, c2, rfl, h0, h1, h2', he, hT, hE⟩ := RS.inv hr
 have hsm := RS.small hr
 have l1 := hT.len
 have l2 := hE.len
 have hX0 := fun (W : World) (hb : Below w.heap.size w W) => isNone_any e es W (sta_ex.keep he fun q hq => (hb.mono hB).cell hq)
 obtain ⟨op, lit, eh, en, hi, lo, args⟩ := e
 obtain ⟨A, cap, rfl, -, -, -, -, -, -, hs⟩ := RE.inv he
 have hla := hs.len
 obtain ⟨wa, hwa, hsa, hba, hca, -⟩ := box1 w #[.int .u8 kind, .string head, .string name, .int .u8 op, .int .i64 lit.1, .int .u64 lit.2.1, .int .u64 lit.2.2, .string eh, .string en, .int .i64 hi, .int .i64 lo, .slice A args.length cap, .slice A1 thn.length c1, .slice A2 els.length c2] 47
 obtain ⟨y0, y1, y2, y3, y4, y5, y6, y7, y8, y9, y10, y11, y12, y13⟩ := row14 hca
 have hza : wa.cell? ⟨0, 0, none⟩ = some (.int .i64 m) := (hba.cell (p := ⟨0, 0, none⟩) (by show 0 < _; omega)).trans hz
 have hNh := isName_any head m wa (Nat.le_trans h1 (by decide)) hza
 have hNn := isName_any name m wa (Nat.le_trans h2' (by decide)) hza
 clear hca
 have hX1 := hX0 wa hba
 clear hX0 hr he hT hE hs hel
 replace hba := hide hba
 have hle : w.heap.size ≤ wa.heap.size := by omega
 have hbw : (thn.length : Int) + (els.length : Int) ≤ 9223372036854775807 := by unfold sm at hsm; omega
 show Calls _ _ #[.agg #[.int .u8 kind, .string head, .string name, .int .u8 op, .int .i64 lit.1, .int .u64 lit.2.1, .int .u64 lit.2.2, .string eh, .string en, .int .i64 hi, .int .i64 lo, .slice A args.length cap, .slice A1 thn.length c1, .slice A2 els.length c2], .int .i64 (deep : Int)] _ _
 have hbz : ¬ ((thn.length : Int) + (els.length : Int) > 0) := by omega
 subst hk
 have hX : Hid (Calls Tryz.prog 202 #[.agg #[.int .u8 op, .int .i64 lit.1, .int .u64 lit.2.1, .int .u64 lit.2.2, .string eh, .string en, .int .i64 hi, .int .i64 lo, .slice A args.length cap]] wa fun r w' => r = .returned (.bool (noEx (.mk op lit eh en hi lo args))) ∧ Below wa.heap.size wa w') := hide hX1
 clear hX1
 generalize noEx (.mk op lit eh en hi lo args) = z at hX ⊢
 clear hNn
 generalize nameB head = y at hNh ⊢
 cases y with
 | false =>
  go_enter Tryz.func148, Tryz.ntmps148
  go_wp2_with (go_at_call 58; refine hNh.mono ?_; rintro e w' ⟨rfl, rfl⟩)
  go_ret
  exact ⟨rfl, hba.out⟩
 | true =>
  by_cases e1 : name = strE
  ·rw [decide_eq_true e1]
   have q1 := emp_iff.1 e1
   clear e1
   go_enter Tryz.func148, Tryz.ntmps148
   go_wp2_with (first | (go_at_call 58; refine hNh.mono ?_; rintro e w' ⟨rfl, rfl⟩) | (go_at_call 202; refine hX.out.mono ?_; rintro e w1 ⟨rfl, hb1⟩))
   go_ret
   exact ⟨rfl, hba.out.trans (hb1.mono hle)⟩
  ·rw [decide_eq_false e1]
   have q1 := fun h => e1 (emp_iff.2 h)
   clear e1
   go_enter Tryz.func148, Tryz.ntmps148
   go_wp2_with (go_at_call 58; refine hNh.mono ?_; rintro e w' ⟨rfl, rfl⟩)
   go_ret
   exact ⟨rfl, hba.out⟩
end Go.Proofs.YtbbdhknagofghaaGreat
/-! Layer 4: mayStmt at a set. -/
namespace Go.Proofs.YtbbdhknagofghaaGreat
open Go.RowKit
set_option maxRecDepth 200000 in
set_option maxHeartbeats 400000 in
theorem mays_set {m : Int} {B : Nat} (kind : Int) (hk : kind = 1) (head name : ByteArray) (e : Ex) (thn els : List St) (cs : List Value) (w : World) (deep : Nat) (hr : rSt w B cs (.mk kind head name e thn els)) (hel : cs.length = 14)
  (hB : B ≤ w.heap.size) (h00 : 0 < B) (hz : w.cell? ⟨0, 0, none⟩ = some (.int .i64 m)) (hb : thn.length + els.length = 0) :
  Calls Tryz.prog 148 #[.agg cs.toArray, .int .i64 (deep : Int)] w fun r w' => r = .returned (.bool (mayS (.mk kind head name e thn els) deep)) ∧ Below w.heap.size w w' := by
 have hv : mayS (.mk kind head name e thn els) deep = ((decide (head = strE) || nameB head) && (nameB name && mayE e)) := by
  simp [mayS, emp2 hb, hk, Bool.and_assoc]
 rw [hv]
 clear hv
 obtain ⟨es, A1, c1, A2, c2, rfl, h0, h1, h2', he, hT, hE⟩ := RS.inv hr
 have hsm := RS.small hr
 have l1 := hT.len
 have l2 := hE.len
 have hX0 := fun (W : World) (hb : Below w.heap.size w W) => mayexpr_any e es W (Nat.le_trans hB hb.size) h00 (zcell (Nat.lt_of_lt_of_le h00 hB) hz hb) (sta_ex.keep he fun q hq => (hb.mono hB).cell hq)
 obtain ⟨op, lit, eh, en, hi, lo, args⟩ := e
 obtain ⟨A, cap, rfl, -, -, -, -, -, -, hs⟩ := RE.inv he
 have hla := hs.len
 obtain ⟨wa, hwa, hsa, hba, hca, -⟩ := box1 w #[.int .u8 kind, .string head, .string name, .int .u8 op, .int .i64 lit.1, .int .u64 lit.2.1, .int .u64 lit.2.2, .string eh, .string en, .int .i64 hi, .int .i64 lo, .slice A args.length cap, .slice A1 thn.length c1, .slice A2 els.length c2] 47
 obtain ⟨y0, y1, y2, y3, y4, y5, y6, y7, y8, y9, y10, y11, y12, y13⟩ := row14 hca
 have hza : wa.cell? ⟨0, 0, none⟩ = some (.int .i64 m) := (hba.cell (p := ⟨0, 0, none⟩) (by show 0 < _; omega)).trans hz
 have hNh := isName_any head m wa (Nat.le_trans h1 (by decide)) hza
 have hNn := isName_any name m wa (Nat.le_trans h2' (by decide)) hza
 clear hca
 have hX1 := hX0 wa hba
 clear hX0 hr he hT hE hs hel
 replace hba := hide hba
 have hle : w.heap.size ≤ wa.heap.size := by omega
 have hbw : (thn.length : Int) + (els.length : Int) ≤ 9223372036854775807 := by unfold sm at hsm; omega
 show Calls _ _ #[.agg #[.int .u8 kind, .string head, .string name, .int .u8 op, .int .i64 lit.1, .int .u64 lit.2.1, .int .u64 lit.2.2, .string eh, .string en, .int .i64 hi, .int .i64 lo, .slice A args.length cap, .slice A1 thn.length c1, .slice A2 els.length c2], .int .i64 (deep : Int)] _ _
 have hbz : ¬ ((thn.length : Int) + (els.length : Int) > 0) := by omega
 subst hk
 have hX : Hid (Calls Tryz.prog 28 #[.agg #[.int .u8 op, .int .i64 lit.1, .int .u64 lit.2.1, .int .u64 lit.2.2, .string eh, .string en, .int .i64 hi, .int .i64 lo, .slice A args.length cap]] wa fun r w' => r = .returned (.bool (mayE (.mk op lit eh en hi lo args))) ∧ Below wa.heap.size wa w') := hide hX1
 clear hX1
 generalize mayE (.mk op lit eh en hi lo args) = z at hX ⊢
 by_cases e1 : head = strE
 ·rw [decide_eq_true e1]
  have q1 := emp_iff.1 e1
  clear e1 hNh
  generalize nameB name = y2 at hNn ⊢
  cases y2 with
  | false =>
   go_enter Tryz.func148, Tryz.ntmps148
   go_wp2_with (first | (go_at_call 58; refine hNn.mono ?_; rintro e w' ⟨rfl, rfl⟩) | (go_at_call 28; refine hX.out.mono ?_; rintro e w1 ⟨rfl, hb1⟩))
   go_ret
   exact ⟨rfl, hba.out⟩
  | true =>
   go_enter Tryz.func148, Tryz.ntmps148
   go_wp2_with (first | (go_at_call 58; refine hNn.mono ?_; rintro e w' ⟨rfl, rfl⟩) | (go_at_call 28; refine hX.out.mono ?_; rintro e w1 ⟨rfl, hb1⟩))
   go_ret
   exact ⟨rfl, hba.out.trans (hb1.mono hle)⟩
 ·rw [decide_eq_false e1]
  have q1 := fun h => e1 (emp_iff.2 h)
  clear e1
  generalize nameB head = y at hNh ⊢
  cases y with
  | false =>
   go_enter Tryz.func148, Tryz.ntmps148
   go_wp2_with (go_at_call 58; refine hNh.mono ?_; rintro e w' ⟨rfl, rfl⟩)
   go_ret
   exact ⟨rfl, hba.out⟩
  | true =>
   generalize nameB name = y2 at hNn ⊢
   cases y2 with
   | false =>
    go_enter Tryz.func148, Tryz.ntmps148
    go_wp2_with (first | (go_at_call 58; first | (with_reducible refine hNh.mono ?_; rintro e w' ⟨rfl, rfl⟩) | (with_reducible refine hNn.mono ?_; rintro e w' ⟨rfl, rfl⟩)) | (go_at_call 28; refine hX.out.mono ?_; rintro e w1 ⟨rfl, hb1⟩))
    go_ret
    exact ⟨rfl, hba.out⟩
   | true =>
    go_enter Tryz.func148, Tryz.ntmps148
    go_wp2_with (first | (go_at_call 58; first | (with_reducible refine hNh.mono ?_; rintro e w' ⟨rfl, rfl⟩) | (with_reducible refine hNn.mono ?_; rintro e w' ⟨rfl, rfl⟩)) | (go_at_call 28; refine hX.out.mono ?_; rintro e w1 ⟨rfl, hb1⟩))
    go_ret
    exact ⟨rfl, hba.out.trans (hb1.mono hle)⟩
end Go.Proofs.YtbbdhknagofghaaGreat
/-! Layer 4: mayStmt at an if; mayStmt of any statement. -/
namespace Go.Proofs.YtbbdhknagofghaaGreat
open Go.RowKit
set_option maxRecDepth 200000 in
set_option maxHeartbeats 400000 in
theorem mays_if {m : Int} {B : Nat} (kind : Int) (hk : kind = 2) (head name : ByteArray) (e : Ex) (thn els : List St) (cs : List Value) (w : World) (deep : Nat) (hr : rSt w B cs (.mk kind head name e thn els)) (hel : cs.length = 14)
  (hB : B ≤ w.heap.size) (h00 : 0 < B) (hz : w.cell? ⟨0, 0, none⟩ = some (.int .i64 m)) (hd : deep ≤ 8) (ih1 : ∀ x ∈ thn, MayStIs m B x) (ih2 : ∀ x ∈ els, MayStIs m B x) :
  Calls Tryz.prog 148 #[.agg cs.toArray, .int .i64 (deep : Int)] w fun r w' => r = .returned (.bool (mayS (.mk kind head name e thn els) deep)) ∧ Below w.heap.size w w' := by
 have hv : mayS (.mk kind head name e thn els) deep = (decide (head = strE ∧ name = strE) && (mayE e && (mayBlk thn (deep + 1) && mayBlk els (deep + 1)))) := by
  simp only [mayS, hk, if_neg (show ¬ (2 : Int) = 1 by decide), if_true, mayBlk, Bool.decide_and, Bool.and_assoc]
 rw [hv]
 clear hv
 obtain ⟨es, A1, c1, A2, c2, rfl, h0, h1, h2', he, hT, hE⟩ := RS.inv hr
 have hsm := RS.small hr
 have l1 := hT.len
 have l2 := hE.len
 have hX0 := fun (W : World) (hb : Below w.heap.size w W) => mayexpr_any e es W (Nat.le_trans hB hb.size) h00 (zcell (Nat.lt_of_lt_of_le h00 hB) hz hb) (sta_ex.keep he fun q hq => (hb.mono hB).cell hq)
 obtain ⟨op, lit, eh, en, hi, lo, args⟩ := e
 obtain ⟨A, cap, rfl, -, -, -, -, -, -, hs⟩ := RE.inv he
 have hla := hs.len
 obtain ⟨wa, hwa, hsa, hba, hca, -⟩ := box1 w #[.int .u8 kind, .string head, .string name, .int .u8 op, .int .i64 lit.1, .int .u64 lit.2.1, .int .u64 lit.2.2, .string eh, .string en, .int .i64 hi, .int .i64 lo, .slice A args.length cap, .slice A1 thn.length c1, .slice A2 els.length c2] 47
 obtain ⟨y0, y1, y2, y3, y4, y5, y6, y7, y8, y9, y10, y11, y12, y13⟩ := row14 hca
 have hb0 : Below wa.heap.size wa wa := Below.refl _ _
 have hBk := hide (show ∀ W, Below wa.heap.size wa W → Below w.heap.size w W from fun W hb => hba.trans (hb.mono (by omega)))
 have hc0 : ∀ W, Below wa.heap.size wa W → W.cell? ⟨0, 0, none⟩ = some (.int .i64 m) := fun W hb => ((hb.cell (p := ⟨0, 0, none⟩) (by show 0 < _; omega)).trans ((hba.cell (p := ⟨0, 0, none⟩) (by show 0 < _; omega)).trans hz))
 have hBW : ∀ W, Below wa.heap.size wa W → B ≤ W.heap.size := fun W hb => by have := hb.size; omega
 have q1 : Hid (∀ (W : World), Below wa.heap.size wa W → Calls Tryz.prog 28 #[.agg #[.int .u8 op, .int .i64 lit.1, .int .u64 lit.2.1, .int .u64 lit.2.2, .string eh, .string en, .int .i64 hi, .int .i64 lo, .slice A args.length cap]] W fun r w' => r = .returned (.bool (mayE (.mk op lit eh en hi lo args))) ∧ Below wa.heap.size wa w') := hide (fun W hb => (hX0 W (hBk.out W hb)).mono fun e w' h => ⟨h.1, hb.trans (h.2.mono hb.size)⟩)
 have hdd : ((deep + 1 : Nat) : Int) = (deep : Int) + 1 := by omega
 have q2 : Hid (∀ (W : World), Below wa.heap.size wa W → Calls Tryz.prog 68 #[.slice A1 thn.length c1, .int .i64 ((deep : Int) + 1)] W fun r w' => r = .returned (.bool (mayBlk thn (deep + 1))) ∧ Below wa.heap.size wa w') := hide (fun W hb => by
  rw [← hdd]
  exact (mayb_of thn ih1 A1 c1 W (deep + 1) (by omega) (hBW W hb) h00 (hc0 W hb) (hT.below sta_st ((hBk.out W hb).mono hB))).mono fun e w' h => ⟨h.1, hb.trans (h.2.mono hb.size)⟩)
 have q3 : Hid (∀ (W : World), Below wa.heap.size wa W → Calls Tryz.prog 68 #[.slice A2 els.length c2, .int .i64 ((deep : Int) + 1)] W fun r w' => r = .returned (.bool (mayBlk els (deep + 1))) ∧ Below wa.heap.size wa w') := hide (fun W hb => by
  rw [← hdd]
  exact (mayb_of els ih2 A2 c2 W (deep + 1) (by omega) (hBW W hb) h00 (hc0 W hb) (hE.below sta_st ((hBk.out W hb).mono hB))).mono fun e w' h => ⟨h.1, hb.trans (h.2.mono hb.size)⟩)
 have hbw : (thn.length : Int) + (els.length : Int) ≤ 9223372036854775807 := by unfold sm at hsm; omega
 have hcat : head.size + name.size ≤ 9223372036854775807 := by unfold sm at h1 h2'; omega
 have hdz : (deep : Int) ≤ 8 := by omega
 clear hca hX0 hr he hT hE hs hel hba hc0 hBW hz ih1 ih2 hdd
 subst hk
 generalize mayE (.mk op lit eh en hi lo args) = z1 at q1 ⊢
 generalize mayBlk thn (deep + 1) = z2 at q2 ⊢
 generalize mayBlk els (deep + 1) = z3 at q3 ⊢
 show Calls _ _ #[.agg #[.int .u8 2, .string head, .string name, .int .u8 op, .int .i64 lit.1, .int .u64 lit.2.1, .int .u64 lit.2.2, .string eh, .string en, .int .i64 hi, .int .i64 lo, .slice A args.length cap, .slice A1 thn.length c1, .slice A2 els.length c2], .int .i64 (deep : Int)] _ _
 by_cases e1 : head = strE ∧ name = strE
 ·rw [decide_eq_true e1]
  have q0 := emp_add.1 e1
  clear e1
  cases z1 with
  | false =>
   go_enter Tryz.func148, Tryz.ntmps148
   go_wp2_with (first | (go_at_call 28; refine (q1.out _ (by assumption)).mono ?_; rintro e w1 ⟨rfl, hb1⟩; have khb1 := bcell' hb1) | (go_at_call 68; first | (with_reducible refine (q2.out _ (by assumption)).mono ?_; rintro e w1 ⟨rfl, hb2⟩; have khb2 := bcell' hb2) | (with_reducible refine (q3.out _ (by assumption)).mono ?_; rintro e w1 ⟨rfl, hb3⟩)))
   go_ret
   exact ⟨ret_b (by simp), hBk.out _ (by assumption)⟩
  | true =>
   cases z2 with
   | false =>
    go_enter Tryz.func148, Tryz.ntmps148
    go_wp2_with (first | (go_at_call 28; refine (q1.out _ (by assumption)).mono ?_; rintro e w1 ⟨rfl, hb1⟩; have khb1 := bcell' hb1) | (go_at_call 68; first | (with_reducible refine (q2.out _ (by assumption)).mono ?_; rintro e w1 ⟨rfl, hb2⟩; have khb2 := bcell' hb2) | (with_reducible refine (q3.out _ (by assumption)).mono ?_; rintro e w1 ⟨rfl, hb3⟩)))
    go_ret
    exact ⟨ret_b (by simp), hBk.out _ (by assumption)⟩
   | true =>
    cases z3 with
    | false =>
     go_enter Tryz.func148, Tryz.ntmps148
     go_wp2_with (first | (go_at_call 28; refine (q1.out _ (by assumption)).mono ?_; rintro e w1 ⟨rfl, hb1⟩; have khb1 := bcell' hb1) | (go_at_call 68; first | (with_reducible refine (q2.out _ (by assumption)).mono ?_; rintro e w1 ⟨rfl, hb2⟩; have khb2 := bcell' hb2) | (with_reducible refine (q3.out _ (by assumption)).mono ?_; rintro e w1 ⟨rfl, hb3⟩)))
     go_ret
     exact ⟨ret_b (by simp), hBk.out _ (by assumption)⟩
    | true =>
     go_enter Tryz.func148, Tryz.ntmps148
     go_wp2_with (first | (go_at_call 28; refine (q1.out _ (by assumption)).mono ?_; rintro e w1 ⟨rfl, hb1⟩; have khb1 := bcell' hb1) | (go_at_call 68; first | (with_reducible refine (q2.out _ (by assumption)).mono ?_; rintro e w1 ⟨rfl, hb2⟩; have khb2 := bcell' hb2) | (with_reducible refine (q3.out _ (by assumption)).mono ?_; rintro e w1 ⟨rfl, hb3⟩)))
     go_ret
     exact ⟨ret_b (by simp), hBk.out _ (by assumption)⟩
 ·rw [decide_eq_false e1]
  have q0 := fun h => e1 (emp_add.2 h)
  clear e1 q1 q2 q3
  go_enter Tryz.func148, Tryz.ntmps148
  go_wp2
  go_ret
  exact ⟨by simp, hBk.out _ hb0⟩
theorem rst_len {w : World} {B : Nat} {cs : List Value} {s : St} (h : rSt w B cs s) : cs.length = 14 := by
 obtain ⟨kind, head, name, e, thn, els⟩ := s
 obtain ⟨es, A1, c1, A2, c2, rfl, -, -, -, he, -, -⟩ := RS.inv h
 obtain ⟨op, lit, eh, en, hi, lo, args⟩ := e
 obtain ⟨A, cap, rfl, -⟩ := RE.inv he
 rfl
theorem maySt_all {m : Int} {B : Nat} (s : St) : MayStIs m B s := by
 induction s using St.ind with
 | h kind head name e thn els ih1 ih2 =>
  intro cs w deep hd hB h00 hz hr
  have hel := rst_len hr
  by_cases h2 : kind = 2
  ·exact mays_if kind h2 head name e thn els cs w deep hr hel hB h00 hz hd ih1 ih2
  ·by_cases hb : thn.length + els.length = 0
   ·by_cases h1 : kind = 1
    ·exact mays_set kind h1 head name e thn els cs w deep hr hel hB h00 hz hb
    by_cases h3 : kind = 3
    ·exact mays_apply kind h3 head name e thn els cs w deep hr hel hB h00 hz hb
    by_cases h4 : kind = 4
    ·exact mays_drop kind h4 head name e thn els cs w deep hr hel hB h00 hz hb
    by_cases h5 : kind = 5
    ·exact mays_fwd kind h5 head name e thn els cs w deep hr hel hB h00 hz hb
    by_cases h6 : kind = 6
    ·exact mays_valid6 kind h6 head name e thn els cs w deep hr hel hB h00 hz hb
    by_cases h7 : kind = 7
    ·exact mays_valid7 kind h7 head name e thn els cs w deep hr hel hB h00 hz hb
    exact mays_other (m := m) (B := B) kind head name e thn els cs w deep hr hel h1 h2 h3 h4 h5 h6 h7 hb (by omega)
   ·have hsm := RS.small hr
    unfold sm at hsm
    exact mays_bodies (m := m) (B := B) kind head name e thn els cs w deep hr hel h2 hb (by omega)
end Go.Proofs.YtbbdhknagofghaaGreat
/-! Printed by gen_may.py. Layer 4: all of a list's names, fields, numbers, expressions, sets. -/
namespace Go.Proofs.YtbbdhknagofghaaGreat
open Go.RowKit
theorem enters_isname : ∀ args w, (callFunc 58 args).run Tryz.prog w = .ok (.enter 58 args) w := enters_of Tryz.func58 (by kernel_rfl) rfl
theorem enters_isfield : ∀ args w, (callFunc 60 args).run Tryz.prog w = .ok (.enter 60 args) w := enters_of Tryz.func60 (by kernel_rfl) rfl
theorem enters_islit : ∀ args w, (callFunc 49 args).run Tryz.prog w = .ok (.enter 49 args) w := enters_of Tryz.func49 (by kernel_rfl) rfl
theorem enters_isset : ∀ args w, (callFunc 138 args).run Tryz.prog w = .ok (.enter 138 args) w := enters_of Tryz.func138 (by kernel_rfl) rfl
theorem enters_mayexpr : ∀ args w, (callFunc 28 args).run Tryz.prog w = .ok (.enter 28 args) w := enters_of Tryz.func28 (by kernel_rfl) rfl
theorem names_all {m : Int} {B : Nat} (l : List ByteArray) (A : Option Addr) (cap : Nat) (w : World) (hB : B ≤ w.heap.size) (h0 : 0 < B) (hz : w.cell? ⟨0, 0, none⟩ = some (.int .i64 m)) (h : Sl 1 rStr w B A l) :
  Calls Tryz.prog 69 #[.slice A l.length cap, .func (.func 58) #[] #[]] w fun e w' => e = .returned (.bool (l.all nameB)) ∧ Below w.heap.size w w' :=
 all_string sta_str 58 #[] enters_isname nameB A cap l w hB h (fun i x cs W hx hb hr hel => by
  obtain ⟨rfl, hs⟩ := hr
  exact (isName_any x m W hs (zcell (by omega) hz hb)).mono fun e w' h => ⟨h.1, h.2 ▸ Below.refl _ _⟩)
theorem fields_all {m : Int} {B : Nat} (l : List Fd) (A : Option Addr) (cap : Nat) (w : World) (hB : B ≤ w.heap.size) (h0 : 0 < B) (hz : w.cell? ⟨0, 0, none⟩ = some (.int .i64 m)) (h : Sl 2 rFd w B A l) :
  Calls Tryz.prog 59 #[.slice A l.length cap, .func (.func 60) #[] #[]] w fun e w' => e = .returned (.bool (l.all fdB)) ∧ Below w.heap.size w w' :=
 all_Field sta_fd 60 #[] enters_isfield fdB A cap l w hB h (fun i x cs W hx hb hr hel => by
  obtain ⟨rfl, hs, -⟩ := hr
  exact isField_any x m W hs (zcell (by omega) hz hb))
theorem lits_all {m : Int} {B : Nat} (l : List Lt) (A : Option Addr) (cap : Nat) (w : World) (hB : B ≤ w.heap.size) (h0 : 0 < B) (hz : w.cell? ⟨0, 0, none⟩ = some (.int .i64 m)) (h : Sl 3 rLt w B A l) :
  Calls Tryz.prog 145 #[.slice A l.length cap, .func (.func 49) #[] #[]] w fun e w' => e = .returned (.bool (l.all litB)) ∧ Below w.heap.size w w' :=
 all_Lit sta_lt 49 #[] enters_islit litB A cap l w hB h (fun i x cs W hx hb hr hel => by
  obtain ⟨rfl, hs⟩ := hr
  exact isLit_any x W hs)
theorem sets_all {m : Int} {B : Nat} (l : List Se) (A : Option Addr) (cap : Nat) (w : World) (hB : B ≤ w.heap.size) (h0 : 0 < B) (hz : w.cell? ⟨0, 0, none⟩ = some (.int .i64 m)) (h : Sl 7 rSe w B A l) :
  Calls Tryz.prog 137 #[.slice A l.length cap, .func (.func 138) #[] #[]] w fun e w' => e = .returned (.bool (l.all seB)) ∧ Below w.heap.size w w' :=
 all_Set sta_se 138 #[] enters_isset seB A cap l w hB h (fun i x cs W hx hb hr hel => by
  obtain ⟨rfl, h1, h2, h3⟩ := hr
  exact isSet_any x W h1 h2 h3)
theorem exprs_all {m : Int} {B : Nat} (l : List Ex) (A : Option Addr) (cap : Nat) (w : World) (hB : B ≤ w.heap.size) (h0 : 0 < B) (hz : w.cell? ⟨0, 0, none⟩ = some (.int .i64 m)) (h : Sl 9 rEx w B A l) :
  Calls Tryz.prog 52 #[.slice A l.length cap, .func (.func 28) #[] #[]] w fun e w' => e = .returned (.bool (l.all mayE)) ∧ Below w.heap.size w w' :=
 all_Expr sta_ex 28 #[] enters_mayexpr mayE A cap l w hB h (fun i x cs W hx hb hr hel => by
  exact mayexpr_any x cs W (by have := hb.size; omega) h0 (zcell (by omega) hz hb) hr)
end Go.Proofs.YtbbdhknagofghaaGreat
