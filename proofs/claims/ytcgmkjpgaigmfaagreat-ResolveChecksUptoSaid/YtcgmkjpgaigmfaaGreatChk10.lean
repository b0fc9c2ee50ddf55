import Derived.Test.YtcgmkjpgaigmfaaGreatChk09
set_option linter.all false
/-! Layer 4: mayStmt at an apply, a drop, a validity. -/
namespace Go.Proofs.YtcgmkjpgaigmfaaGreat
open Go.RowKit
theorem emp2 {thn els : List St} (hb : thn.length + els.length = 0) : thn.isEmpty = true ∧ els.isEmpty = true := by
 cases thn <;> cases els <;> simp_all
set_option maxRecDepth 200000 in
set_option maxHeartbeats 400000 in
theorem mays_apply {m : Int} {B : Nat} (kind : Int) (hk : kind = 3) (head name : ByteArray) (e : Ex) (thn els : List St) (cs : List Value) (w : World) (deep : Nat) (hr : rSt w B cs (.mk kind head name e thn els)) (hel : cs.length = 14)
  (hB : B ≤ w.heap.size) (h00 : 0 < B) (hz : w.cell? ⟨0, 0, none⟩ = some (.int .i64 m)) (hb : thn.length + els.length = 0) :
  Calls Tryz.prog 115 #[.agg cs.toArray, .int .i64 (deep : Int)] w fun r w' => r = .returned (.bool (mayS (.mk kind head name e thn els) deep)) ∧ Below w.heap.size w w' := by
 have hv : mayS (.mk kind head name e thn els) deep = (decide (head = strE) && (nameB name && noEx e)) := by
  simp [mayS, emp2 hb, hk, Bool.and_assoc]
 rw [hv]
 clear hv
 obtain ⟨es, A1, c1, A2, c2, rfl, h0, h1, h2', he, hT, hE⟩ := RS.inv hr
 have hsm := RS.small hr
 have l1 := hT.len
 have l2 := hE.len
 have hX0 := fun (W : World) (hb : Below w.heap.size w W) => isNone_any e es W (sta_ex.keep he fun q hq => (hb.mono hB).cell hq)
 obtain ⟨op, lit, eh, en, hi, lo, args⟩ := e
 obtain ⟨A, cap, rfl, -, -, -, -, -, -, hs⟩ := RE.inv he
 have hla := hs.len
 obtain ⟨wa, hwa, hsa, hba, hca, -⟩ := box1 w #[.int .u8 kind, .string head, .string name, .int .u8 op, .int .i64 lit.1, .int .u64 lit.2.1, .int .u64 lit.2.2, .string eh, .string en, .int .i64 hi, .int .i64 lo, .slice A args.length cap, .slice A1 thn.length c1, .slice A2 els.length c2] 75
 obtain ⟨y0, y1, y2, y3, y4, y5, y6, y7, y8, y9, y10, y11, y12, y13⟩ := row14 hca
 have hza : wa.cell? ⟨0, 0, none⟩ = some (.int .i64 m) := (hba.cell (p := ⟨0, 0, none⟩) (by show 0 < _; omega)).trans hz
 have hNh := isName_any head m wa (Nat.le_trans h1 (by decide)) hza
 have hNn := isName_any name m wa (Nat.le_trans h2' (by decide)) hza
 clear hca
 have hX1 := hX0 wa hba
 clear hX0 hr he hT hE hs hel
 replace hba := hide hba
 have hle : w.heap.size ≤ wa.heap.size := by omega
 have hbw : (thn.length : Int) + (els.length : Int) ≤ 9223372036854775807 := by unfold sm at hsm; omega
 show Calls _ _ #[.agg #[.int .u8 kind, .string head, .string name, .int .u8 op, .int .i64 lit.1, .int .u64 lit.2.1, .int .u64 lit.2.2, .string eh, .string en, .int .i64 hi, .int .i64 lo, .slice A args.length cap, .slice A1 thn.length c1, .slice A2 els.length c2], .int .i64 (deep : Int)] _ _
 have hbz : ¬ ((thn.length : Int) + (els.length : Int) > 0) := by omega
 subst hk
 have hX : Hid (Calls Tryz.prog 163 #[.agg #[.int .u8 op, .int .i64 lit.1, .int .u64 lit.2.1, .int .u64 lit.2.2, .string eh, .string en, .int .i64 hi, .int .i64 lo, .slice A args.length cap]] wa fun r w' => r = .returned (.bool (noEx (.mk op lit eh en hi lo args))) ∧ Below wa.heap.size wa w') := hide hX1
 clear hX1
 generalize noEx (.mk op lit eh en hi lo args) = z at hX ⊢
 by_cases e1 : head = strE
 ·rw [decide_eq_true e1]
  have q1 := emp_iff.1 e1
  clear e1 hNh
  generalize nameB name = y at hNn ⊢
  cases y with
  | false =>
   go_enter Tryz.func115, Tryz.ntmps115
   go_wp2_with (go_at_call 35; refine hNn.mono ?_; rintro e w' ⟨rfl, rfl⟩)
   go_ret
   exact ⟨rfl, hba.out⟩
  | true =>
   go_enter Tryz.func115, Tryz.ntmps115
   go_wp2_with (first | (go_at_call 35; refine hNn.mono ?_; rintro e w' ⟨rfl, rfl⟩) | (go_at_call 163; refine hX.out.mono ?_; rintro e w1 ⟨rfl, hb1⟩))
   go_ret
   exact ⟨rfl, hba.out.trans (hb1.mono hle)⟩
 ·rw [decide_eq_false e1]
  have q1 := fun h => e1 (emp_iff.2 h)
  clear e1
  go_enter Tryz.func115, Tryz.ntmps115
  go_wp2
  go_ret
  exact ⟨rfl, hba.out⟩
end Go.Proofs.YtcgmkjpgaigmfaaGreat
/-! Layer 4: mayStmt at a drop, a forward, a set. -/
namespace Go.Proofs.YtcgmkjpgaigmfaaGreat
open Go.RowKit
theorem emp_add {a b : ByteArray} : (a = strE ∧ b = strE) ↔ (a ++ b).toList = [] := by
 rw [← emp_iff]
 constructor
 ·rintro ⟨rfl, rfl⟩; rfl
 ·intro h
  have : (a ++ b).size = 0 := by rw [h]; rfl
  rw [ByteArray.size_append] at this
  refine ⟨ByteArray.ext (Array.eq_empty_of_size_eq_zero ?_), ByteArray.ext (Array.eq_empty_of_size_eq_zero ?_)⟩
  ·show a.size = 0; omega
  ·show b.size = 0; omega
set_option maxRecDepth 200000 in
set_option maxHeartbeats 400000 in
theorem mays_drop {m : Int} {B : Nat} (kind : Int) (hk : kind = 4) (head name : ByteArray) (e : Ex) (thn els : List St) (cs : List Value) (w : World) (deep : Nat) (hr : rSt w B cs (.mk kind head name e thn els)) (hel : cs.length = 14)
  (hB : B ≤ w.heap.size) (h00 : 0 < B) (hz : w.cell? ⟨0, 0, none⟩ = some (.int .i64 m)) (hb : thn.length + els.length = 0) :
  Calls Tryz.prog 115 #[.agg cs.toArray, .int .i64 (deep : Int)] w fun r w' => r = .returned (.bool (mayS (.mk kind head name e thn els) deep)) ∧ Below w.heap.size w w' := by
 have hv : mayS (.mk kind head name e thn els) deep = (decide (head = strE ∧ name = strE) && noEx e) := by
  simp [mayS, emp2 hb, hk, Bool.and_assoc]
 rw [hv]
 clear hv
 obtain ⟨es, A1, c1, A2, c2, rfl, h0, h1, h2', he, hT, hE⟩ := RS.inv hr
 have hsm := RS.small hr
 have l1 := hT.len
 have l2 := hE.len
 have hX0 := fun (W : World) (hb : Below w.heap.size w W) => isNone_any e es W (sta_ex.keep he fun q hq => (hb.mono hB).cell hq)
 obtain ⟨op, lit, eh, en, hi, lo, args⟩ := e
 obtain ⟨A, cap, rfl, -, -, -, -, -, -, hs⟩ := RE.inv he
 have hla := hs.len
 obtain ⟨wa, hwa, hsa, hba, hca, -⟩ := box1 w #[.int .u8 kind, .string head, .string name, .int .u8 op, .int .i64 lit.1, .int .u64 lit.2.1, .int .u64 lit.2.2, .string eh, .string en, .int .i64 hi, .int .i64 lo, .slice A args.length cap, .slice A1 thn.length c1, .slice A2 els.length c2] 75
 obtain ⟨y0, y1, y2, y3, y4, y5, y6, y7, y8, y9, y10, y11, y12, y13⟩ := row14 hca
 have hza : wa.cell? ⟨0, 0, none⟩ = some (.int .i64 m) := (hba.cell (p := ⟨0, 0, none⟩) (by show 0 < _; omega)).trans hz
 have hNh := isName_any head m wa (Nat.le_trans h1 (by decide)) hza
 have hNn := isName_any name m wa (Nat.le_trans h2' (by decide)) hza
 clear hca
 have hX1 := hX0 wa hba
 clear hX0 hr he hT hE hs hel
 replace hba := hide hba
 have hle : w.heap.size ≤ wa.heap.size := by omega
 have hbw : (thn.length : Int) + (els.length : Int) ≤ 9223372036854775807 := by unfold sm at hsm; omega
 show Calls _ _ #[.agg #[.int .u8 kind, .string head, .string name, .int .u8 op, .int .i64 lit.1, .int .u64 lit.2.1, .int .u64 lit.2.2, .string eh, .string en, .int .i64 hi, .int .i64 lo, .slice A args.length cap, .slice A1 thn.length c1, .slice A2 els.length c2], .int .i64 (deep : Int)] _ _
 have hbz : ¬ ((thn.length : Int) + (els.length : Int) > 0) := by omega
 have hcat : head.size + name.size ≤ 9223372036854775807 := by unfold sm at h1 h2'; omega
 subst hk
 have hX : Hid (Calls Tryz.prog 163 #[.agg #[.int .u8 op, .int .i64 lit.1, .int .u64 lit.2.1, .int .u64 lit.2.2, .string eh, .string en, .int .i64 hi, .int .i64 lo, .slice A args.length cap]] wa fun r w' => r = .returned (.bool (noEx (.mk op lit eh en hi lo args))) ∧ Below wa.heap.size wa w') := hide hX1
 clear hX1
 generalize noEx (.mk op lit eh en hi lo args) = z at hX ⊢
 clear hNh hNn
 by_cases e1 : head = strE ∧ name = strE
 ·rw [decide_eq_true e1]
  have q1 := emp_add.1 e1
  clear e1
  go_enter Tryz.func115, Tryz.ntmps115
  go_wp2_with (go_at_call 163; refine hX.out.mono ?_; rintro e w1 ⟨rfl, hb1⟩)
  go_ret
  exact ⟨rfl, hba.out.trans (hb1.mono hle)⟩
 ·rw [decide_eq_false e1]
  have q1 := fun h => e1 (emp_add.2 h)
  clear e1
  go_enter Tryz.func115, Tryz.ntmps115
  go_wp2
  go_ret
  exact ⟨rfl, hba.out⟩
end Go.Proofs.YtcgmkjpgaigmfaaGreat
/-! Layer 4: mayStmt at a forward, a validity, a set. -/
namespace Go.Proofs.YtcgmkjpgaigmfaaGreat
open Go.RowKit
theorem zcell {m : Int} {w W : World} (h0 : 0 < w.heap.size) (hz : w.cell? ⟨0, 0, none⟩ = some (.int .i64 m)) (hb : Below w.heap.size w W) : W.cell? ⟨0, 0, none⟩ = some (.int .i64 m) := (hb.cell (p := ⟨0, 0, none⟩) h0).trans hz
set_option maxRecDepth 200000 in
set_option maxHeartbeats 400000 in
theorem mays_fwd {m : Int} {B : Nat} (kind : Int) (hk : kind = 5) (head name : ByteArray) (e : Ex) (thn els : List St) (cs : List Value) (w : World) (deep : Nat) (hr : rSt w B cs (.mk kind head name e thn els)) (hel : cs.length = 14)
  (hB : B ≤ w.heap.size) (h00 : 0 < B) (hz : w.cell? ⟨0, 0, none⟩ = some (.int .i64 m)) (hb : thn.length + els.length = 0) :
  Calls Tryz.prog 115 #[.agg cs.toArray, .int .i64 (deep : Int)] w fun r w' => r = .returned (.bool (mayS (.mk kind head name e thn els) deep)) ∧ Below w.heap.size w w' := by
 have hv : mayS (.mk kind head name e thn els) deep = (decide (head = strE ∧ name = strE) && mayE e) := by
  simp [mayS, emp2 hb, hk, Bool.and_assoc]
 rw [hv]
 clear hv
 obtain ⟨es, A1, c1, A2, c2, rfl, h0, h1, h2', he, hT, hE⟩ := RS.inv hr
 have hsm := RS.small hr
 have l1 := hT.len
 have l2 := hE.len
 have hX0 := fun (W : World) (hb : Below w.heap.size w W) => mayexpr_any e es W (Nat.le_trans hB hb.size) h00 (zcell (Nat.lt_of_lt_of_le h00 hB) hz hb) (sta_ex.keep he fun q hq => (hb.mono hB).cell hq)
 obtain ⟨op, lit, eh, en, hi, lo, args⟩ := e
 obtain ⟨A, cap, rfl, -, -, -, -, -, -, hs⟩ := RE.inv he
 have hla := hs.len
 obtain ⟨wa, hwa, hsa, hba, hca, -⟩ := box1 w #[.int .u8 kind, .string head, .string name, .int .u8 op, .int .i64 lit.1, .int .u64 lit.2.1, .int .u64 lit.2.2, .string eh, .string en, .int .i64 hi, .int .i64 lo, .slice A args.length cap, .slice A1 thn.length c1, .slice A2 els.length c2] 75
 obtain ⟨y0, y1, y2, y3, y4, y5, y6, y7, y8, y9, y10, y11, y12, y13⟩ := row14 hca
 have hza : wa.cell? ⟨0, 0, none⟩ = some (.int .i64 m) := (hba.cell (p := ⟨0, 0, none⟩) (by show 0 < _; omega)).trans hz
 have hNh := isName_any head m wa (Nat.le_trans h1 (by decide)) hza
 have hNn := isName_any name m wa (Nat.le_trans h2' (by decide)) hza
 clear hca
 have hX1 := hX0 wa hba
 clear hX0 hr he hT hE hs hel
 replace hba := hide hba
 have hle : w.heap.size ≤ wa.heap.size := by omega
 have hbw : (thn.length : Int) + (els.length : Int) ≤ 9223372036854775807 := by unfold sm at hsm; omega
 show Calls _ _ #[.agg #[.int .u8 kind, .string head, .string name, .int .u8 op, .int .i64 lit.1, .int .u64 lit.2.1, .int .u64 lit.2.2, .string eh, .string en, .int .i64 hi, .int .i64 lo, .slice A args.length cap, .slice A1 thn.length c1, .slice A2 els.length c2], .int .i64 (deep : Int)] _ _
 have hbz : ¬ ((thn.length : Int) + (els.length : Int) > 0) := by omega
 have hcat : head.size + name.size ≤ 9223372036854775807 := by unfold sm at h1 h2'; omega
 subst hk
 have hX : Hid (Calls Tryz.prog 100 #[.agg #[.int .u8 op, .int .i64 lit.1, .int .u64 lit.2.1, .int .u64 lit.2.2, .string eh, .string en, .int .i64 hi, .int .i64 lo, .slice A args.length cap]] wa fun r w' => r = .returned (.bool (mayE (.mk op lit eh en hi lo args))) ∧ Below wa.heap.size wa w') := hide hX1
 clear hX1
 generalize mayE (.mk op lit eh en hi lo args) = z at hX ⊢
 clear hNh hNn
 by_cases e1 : head = strE ∧ name = strE
 ·rw [decide_eq_true e1]
  have q1 := emp_add.1 e1
  clear e1
  go_enter Tryz.func115, Tryz.ntmps115
  go_wp2_with (go_at_call 100; refine hX.out.mono ?_; rintro e w1 ⟨rfl, hb1⟩)
  go_ret
  exact ⟨rfl, hba.out.trans (hb1.mono hle)⟩
 ·rw [decide_eq_false e1]
  have q1 := fun h => e1 (emp_add.2 h)
  clear e1
  go_enter Tryz.func115, Tryz.ntmps115
  go_wp2
  go_ret
  exact ⟨rfl, hba.out⟩
set_option maxRecDepth 200000 in
set_option maxHeartbeats 400000 in
theorem mays_valid6 {m : Int} {B : Nat} (kind : Int) (hk : kind = 6) (head name : ByteArray) (e : Ex) (thn els : List St) (cs : List Value) (w : World) (deep : Nat) (hr : rSt w B cs (.mk kind head name e thn els)) (hel : cs.length = 14)
  (hB : B ≤ w.heap.size) (h00 : 0 < B) (hz : w.cell? ⟨0, 0, none⟩ = some (.int .i64 m)) (hb : thn.length + els.length = 0) :
  Calls Tryz.prog 115 #[.agg cs.toArray, .int .i64 (deep : Int)] w fun r w' => r = .returned (.bool (mayS (.mk kind head name e thn els) deep)) ∧ Below w.heap.size w w' := by
 have hv : mayS (.mk kind head name e thn els) deep = (nameB head && (decide (name = strE) && noEx e)) := by
  simp [mayS, emp2 hb, hk, Bool.and_assoc]
 rw [hv]
 clear hv
 obtain ⟨es, A1, c1, A2, c2, rfl, h0, h1, h2', he, hT, hE⟩ := RS.inv hr
 have hsm := RS.small hr
 have l1 := hT.len
 have l2 := hE.len
 have hX0 := fun (W : World) (hb : Below w.heap.size w W) => isNone_any e es W (sta_ex.keep he fun q hq => (hb.mono hB).cell hq)
 obtain ⟨op, lit, eh, en, hi, lo, args⟩ := e
 obtain ⟨A, cap, rfl, -, -, -, -, -, -, hs⟩ := RE.inv he
 have hla := hs.len
 obtain ⟨wa, hwa, hsa, hba, hca, -⟩ := box1 w #[.int .u8 kind, .string head, .string name, .int .u8 op, .int .i64 lit.1, .int .u64 lit.2.1, .int .u64 lit.2.2, .string eh, .string en, .int .i64 hi, .int .i64 lo, .slice A args.length cap, .slice A1 thn.length c1, .slice A2 els.length c2] 75
 obtain ⟨y0, y1, y2, y3, y4, y5, y6, y7, y8, y9, y10, y11, y12, y13⟩ := row14 hca
 have hza : wa.cell? ⟨0, 0, none⟩ = some (.int .i64 m) := (hba.cell (p := ⟨0, 0, none⟩) (by show 0 < _; omega)).trans hz
 have hNh := isName_any head m wa (Nat.le_trans h1 (by decide)) hza
 have hNn := isName_any name m wa (Nat.le_trans h2' (by decide)) hza
 clear hca
 have hX1 := hX0 wa hba
 clear hX0 hr he hT hE hs hel
 replace hba := hide hba
 have hle : w.heap.size ≤ wa.heap.size := by omega
 have hbw : (thn.length : Int) + (els.length : Int) ≤ 9223372036854775807 := by unfold sm at hsm; omega
 show Calls _ _ #[.agg #[.int .u8 kind, .string head, .string name, .int .u8 op, .int .i64 lit.1, .int .u64 lit.2.1, .int .u64 lit.2.2, .string eh, .string en, .int .i64 hi, .int .i64 lo, .slice A args.length cap, .slice A1 thn.length c1, .slice A2 els.length c2], .int .i64 (deep : Int)] _ _
 have hbz : ¬ ((thn.length : Int) + (els.length : Int) > 0) := by omega
 subst hk
 have hX : Hid (Calls Tryz.prog 163 #[.agg #[.int .u8 op, .int .i64 lit.1, .int .u64 lit.2.1, .int .u64 lit.2.2, .string eh, .string en, .int .i64 hi, .int .i64 lo, .slice A args.length cap]] wa fun r w' => r = .returned (.bool (noEx (.mk op lit eh en hi lo args))) ∧ Below wa.heap.size wa w') := hide hX1
 clear hX1
 generalize noEx (.mk op lit eh en hi lo args) = z at hX ⊢
 clear hNn
 generalize nameB head = y at hNh ⊢
 cases y with
 | false =>
  go_enter Tryz.func115, Tryz.ntmps115
  go_wp2_with (go_at_call 35; refine hNh.mono ?_; rintro e w' ⟨rfl, rfl⟩)
  go_ret
  exact ⟨rfl, hba.out⟩
 | true =>
  by_cases e1 : name = strE
  ·rw [decide_eq_true e1]
   have q1 := emp_iff.1 e1
   clear e1
   go_enter Tryz.func115, Tryz.ntmps115
   go_wp2_with (first | (go_at_call 35; refine hNh.mono ?_; rintro e w' ⟨rfl, rfl⟩) | (go_at_call 163; refine hX.out.mono ?_; rintro e w1 ⟨rfl, hb1⟩))
   go_ret
   exact ⟨rfl, hba.out.trans (hb1.mono hle)⟩
  ·rw [decide_eq_false e1]
   have q1 := fun h => e1 (emp_iff.2 h)
   clear e1
   go_enter Tryz.func115, Tryz.ntmps115
   go_wp2_with (go_at_call 35; refine hNh.mono ?_; rintro e w' ⟨rfl, rfl⟩)
   go_ret
   exact ⟨rfl, hba.out⟩
set_option maxRecDepth 200000 in
set_option maxHeartbeats 400000 in
theorem mays_valid7 {m : Int} {B : Nat} (kind : Int) (hk : kind = 7) (head name : ByteArray) (e : Ex) (thn els : List St) (cs : List Value) (w : World) (deep : Nat) (hr : rSt w B cs (.mk kind head name e thn els)) (hel : cs.length = 14)
  (hB : B ≤ w.heap.size) (h00 : 0 < B) (hz : w.cell? ⟨0, 0, none⟩ = some (.int .i64 m)) (hb : thn.length + els.length = 0) :
  Calls Tryz.prog 115 #[.agg cs.toArray, .int .i64 (deep : Int)] w fun r w' => r = .returned (.bool (mayS (.mk kind head name e thn els) deep)) ∧ Below w.heap.size w w' := by
 have hv : mayS (.mk kind head name e thn els) deep = (nameB head && (decide (name = strE) && noEx e)) := by
  simp [mayS, emp2 hb, hk, Bool.and_assoc]
 rw [hv]
 clear hv
 obtain ⟨es, A1, c1, A2, c2, rfl, h0, h1, h2', he, hT, hE⟩ := RS.inv hr
 have hsm := RS.small hr
 have l1 := hT.len
 have l2 := hE.len
 have hX0 := fun (W : World) (hb : Below w.heap.size w W) => isNone_any e es W (sta_ex.keep he fun q hq => (hb.mono hB).cell hq)
 obtain ⟨op, lit, eh, en, hi, lo, args⟩ := e
 obtain ⟨A, cap, rfl, -, -, -, -, -, -, hs⟩ := RE.inv he
 have hla := hs.len
 obtain ⟨wa, hwa, hsa, hba, hca, -⟩ := box1 w #[.int .u8 kind, .string head, .string name, .int .u8 op, .int .i64 lit.1, .int .u64 lit.2.1, .int .u64 lit.2.2, .string eh, .string en, .int .i64 hi, .int .i64 lo, .slice A args.length cap, .slice A1 thn.length c1, .slice A2 els.length c2] 75
 obtain ⟨y0, y1, y2, y3, y4, y5, y6, y7, y8, y9, y10, y11, y12, y13⟩ := row14 hca
 have hza : wa.cell? ⟨0, 0, none⟩ = some (.int .i64 m) := (hba.cell (p := ⟨0, 0, none⟩) (by show 0 < _; omega)).trans hz
 have hNh := isName_any head m wa (Nat.le_trans h1 (by decide)) hza
 have hNn := isName_any name m wa (Nat.le_trans h2' (by decide)) hza
 clear hca
 have hX1 := hX0 wa hba
 clear hX0 hr he hT hE hs hel
 replace hba := hide hba
 have hle : w.heap.size ≤ wa.heap.size := by omega
 have hbw : (thn.length : Int) + (els.length : Int) ≤ 9223372036854775807 := by unfold sm at hsm; omega
 show Calls _ _ #[.agg #[.int .u8 kind, .string head, .string name, .int .u8 op, .int .i64 lit.1, .int .u64 lit.2.1, .int .u64 lit.2.2, .string eh, .string en, .int .i64 hi, .int .i64 lo, .slice A args.length cap, .slice A1 thn.length c1, .slice A2 els.length c2], .int .i64 (deep : Int)] _ _
 have hbz : ¬ ((thn.length : Int) + (els.length : Int) > 0) := by omega
 subst hk
 have hX : Hid (Calls Tryz.prog 163 #[.agg #[.int .u8 op, .int .i64 lit.1, .int .u64 lit.2.1, .int .u64 lit.2.2, .string eh, .string en, .int .i64 hi, .int .i64 lo, .slice A args.length cap]] wa fun r w' => r = .returned (.bool (noEx (.mk op lit eh en hi lo args))) ∧ Below wa.heap.size wa w') := hide hX1
 clear hX1
 generalize noEx (.mk op lit eh en hi lo args) = z at hX ⊢
 clear hNn
 generalize nameB head = y at hNh ⊢
 cases y with
 | false =>
  go_enter Tryz.func115, Tryz.ntmps115
  go_wp2_with (go_at_call 35; refine hNh.mono ?_; rintro e w' ⟨rfl, rfl⟩)
  go_ret
  exact ⟨rfl, hba.out⟩
 | true =>
  by_cases e1 : name = strE
  ·rw [decide_eq_true e1]
   have q1 := emp_iff.1 e1
   clear e1
   go_enter Tryz.func115, Tryz.ntmps115
   go_wp2_with (first | (go_at_call 35; refine hNh.mono ?_; rintro e w' ⟨rfl, rfl⟩) | (go_at_call 163; refine hX.out.mono ?_; rintro e w1 ⟨rfl, hb1⟩))
   go_ret
   exact ⟨rfl, hba.out.trans (hb1.mono hle)⟩
  ·rw [decide_eq_false e1]
   have q1 := fun h => e1 (emp_iff.2 h)
   clear e1
   go_enter Tryz.func115, Tryz.ntmps115
   go_wp2_with (go_at_call 35; refine hNh.mono ?_; rintro e w' ⟨rfl, rfl⟩)
   go_ret
   exact ⟨rfl, hba.out⟩
end Go.Proofs.YtcgmkjpgaigmfaaGreat
/-! Layer 4: mayStmt at a set. -/
namespace Go.Proofs.YtcgmkjpgaigmfaaGreat
open Go.RowKit
set_option maxRecDepth 200000 in
set_option maxHeartbeats 400000 in
theorem mays_set {m : Int} {B : Nat} (kind : Int) (hk : kind = 1) (head name : ByteArray) (e : Ex) (thn els : List St) (cs : List Value) (w : World) (deep : Nat) (hr : rSt w B cs (.mk kind head name e thn els)) (hel : cs.length = 14)
  (hB : B ≤ w.heap.size) (h00 : 0 < B) (hz : w.cell? ⟨0, 0, none⟩ = some (.int .i64 m)) (hb : thn.length + els.length = 0) :
  Calls Tryz.prog 115 #[.agg cs.toArray, .int .i64 (deep : Int)] w fun r w' => r = .returned (.bool (mayS (.mk kind head name e thn els) deep)) ∧ Below w.heap.size w w' := by
 have hv : mayS (.mk kind head name e thn els) deep = ((decide (head = strE) || nameB head) && (nameB name && mayE e)) := by
  simp [mayS, emp2 hb, hk, Bool.and_assoc]
 rw [hv]
 clear hv
 obtain ⟨es, A1, c1, A2, c2, rfl, h0, h1, h2', he, hT, hE⟩ := RS.inv hr
 have hsm := RS.small hr
 have l1 := hT.len
 have l2 := hE.len
 have hX0 := fun (W : World) (hb : Below w.heap.size w W) => mayexpr_any e es W (Nat.le_trans hB hb.size) h00 (zcell (Nat.lt_of_lt_of_le h00 hB) hz hb) (sta_ex.keep he fun q hq => (hb.mono hB).cell hq)
 obtain ⟨op, lit, eh, en, hi, lo, args⟩ := e
 obtain ⟨A, cap, rfl, -, -, -, -, -, -, hs⟩ := RE.inv he
 have hla := hs.len
 obtain ⟨wa, hwa, hsa, hba, hca, -⟩ := box1 w #[.int .u8 kind, .string head, .string name, .int .u8 op, .int .i64 lit.1, .int .u64 lit.2.1, .int .u64 lit.2.2, .string eh, .string en, .int .i64 hi, .int .i64 lo, .slice A args.length cap, .slice A1 thn.length c1, .slice A2 els.length c2] 75
 obtain ⟨y0, y1, y2, y3, y4, y5, y6, y7, y8, y9, y10, y11, y12, y13⟩ := row14 hca
 have hza : wa.cell? ⟨0, 0, none⟩ = some (.int .i64 m) := (hba.cell (p := ⟨0, 0, none⟩) (by show 0 < _; omega)).trans hz
 have hNh := isName_any head m wa (Nat.le_trans h1 (by decide)) hza
 have hNn := isName_any name m wa (Nat.le_trans h2' (by decide)) hza
 clear hca
 have hX1 := hX0 wa hba
 clear hX0 hr he hT hE hs hel
 replace hba := hide hba
 have hle : w.heap.size ≤ wa.heap.size := by omega
 have hbw : (thn.length : Int) + (els.length : Int) ≤ 9223372036854775807 := by unfold sm at hsm; omega
 show Calls _ _ #[.agg #[.int .u8 kind, .string head, .string name, .int .u8 op, .int .i64 lit.1, .int .u64 lit.2.1, .int .u64 lit.2.2, .string eh, .string en, .int .i64 hi, .int .i64 lo, .slice A args.length cap, .slice A1 thn.length c1, .slice A2 els.length c2], .int .i64 (deep : Int)] _ _
 have hbz : ¬ ((thn.length : Int) + (els.length : Int) > 0) := by omega
 subst hk
 have hX : Hid (Calls Tryz.prog 100 #[.agg #[.int .u8 op, .int .i64 lit.1, .int .u64 lit.2.1, .int .u64 lit.2.2, .string eh, .string en, .int .i64 hi, .int .i64 lo, .slice A args.length cap]] wa fun r w' => r = .returned (.bool (mayE (.mk op lit eh en hi lo args))) ∧ Below wa.heap.size wa w') := hide hX1
 clear hX1
 generalize mayE (.mk op lit eh en hi lo args) = z at hX ⊢
 by_cases e1 : head = strE
 ·rw [decide_eq_true e1]
  have q1 := emp_iff.1 e1
  clear e1 hNh
  generalize nameB name = y2 at hNn ⊢
  cases y2 with
  | false =>
   go_enter Tryz.func115, Tryz.ntmps115
   go_wp2_with (first | (go_at_call 35; refine hNn.mono ?_; rintro e w' ⟨rfl, rfl⟩) | (go_at_call 100; refine hX.out.mono ?_; rintro e w1 ⟨rfl, hb1⟩))
   go_ret
   exact ⟨rfl, hba.out⟩
  | true =>
   go_enter Tryz.func115, Tryz.ntmps115
   go_wp2_with (first | (go_at_call 35; refine hNn.mono ?_; rintro e w' ⟨rfl, rfl⟩) | (go_at_call 100; refine hX.out.mono ?_; rintro e w1 ⟨rfl, hb1⟩))
   go_ret
   exact ⟨rfl, hba.out.trans (hb1.mono hle)⟩
 ·rw [decide_eq_false e1]
  have q1 := fun h => e1 (emp_iff.2 h)
  clear e1
  generalize nameB head = y at hNh ⊢
  cases y with
  | false =>
   go_enter Tryz.func115, Tryz.ntmps115
   go_wp2_with (go_at_call 35; refine hNh.mono ?_; rintro e w' ⟨rfl, rfl⟩)
   go_ret
   exact ⟨rfl, hba.out⟩
  | true =>
   generalize nameB name = y2 at hNn ⊢
   cases y2 with
   | false =>
    go_enter Tryz.func115, Tryz.ntmps115
    go_wp2_with (first | (go_at_call 35; first | (with_reducible refine hNh.mono ?_; rintro e w' ⟨rfl, rfl⟩) | (with_reducible refine hNn.mono ?_; rintro e w' ⟨rfl, rfl⟩)) | (go_at_call 100; refine hX.out.mono ?_; rintro e w1 ⟨rfl, hb1⟩))
    go_ret
    exact ⟨rfl, hba.out⟩
   | true =>
    go_enter Tryz.func115, Tryz.ntmps115
    go_wp2_with (first | (go_at_call 35; first | (with_reducible refine hNh.mono ?_; rintro e w' ⟨rfl, rfl⟩) | (with_reducible refine hNn.mono ?_; rintro e w' ⟨rfl, rfl⟩)) | (go_at_call 100; refine hX.out.mono ?_; rintro e w1 ⟨rfl, hb1⟩))
    go_ret
    exact ⟨rfl, hba.out.trans (hb1.mono hle)⟩
end Go.Proofs.YtcgmkjpgaigmfaaGreat
