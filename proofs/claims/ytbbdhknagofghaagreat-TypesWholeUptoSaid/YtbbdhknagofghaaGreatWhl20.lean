import Derived.Test.YtbbdhknagofghaaGreatWhl19
import Derived.Test.YtbbdhknagofghaaGreatWhl07
import Derived.Test.YtbbdhknagofghaaGreatWhl06
set_option linter.all false
/-! Layer 4: is an expression nought? -/
namespace Go.Proofs.YtbbdhknagofghaaGreat
open Go.RowKit
set_option maxHeartbeats 400000 in
theorem equalNil_any (A : Option Addr) (n cap : Nat) (w : World) (hn : n ≤ 9223372036854775807) :
  Calls Tryz.prog 231 #[.slice A n cap, .slice none 0 0, .func (.func 223) #[] #[]] w fun e w' => e = .returned (.bool (n == 0)) ∧ w = w' := by
 by_cases h : n = 0
 ·subst h
  go_enter Tryz.func231, Tryz.ntmps231
  go_wp2
  go_loop [17] (fun i => i = .int .i64 0) (fun _ => 0)
  case atStart => rfl
  case round =>
   subst hrel
   go_wp2
   go_ret
   exact ⟨rfl, rfl⟩
 ·have h1 : (n == 0) = false := beq_eq_false_iff_ne.2 h
  have h2 : ((n : Int) != 0) = true := by simpa using h
  go_enter Tryz.func231, Tryz.ntmps231
  go_wp2
  go_ret
  exact ⟨ret_b h1.symm, rfl⟩
def noB (op : Int) (lit : Lt) (head name : ByteArray) (hi lo : Int) (n : Nat) : Bool := decide (op = 0) && decide (lit = zLt) && decide (head = strE) && decide (name = strE) && decide (hi = 0) && decide (lo = 0) && (n == 0)
set_option maxRecDepth 100000 in
set_option maxHeartbeats 4000000 in
theorem sameNil_any (op : Int) (lit : Lt) (head name : ByteArray) (hi lo : Int) (A : Option Addr) (n cap : Nat) (w : World) (hn : n ≤ 9223372036854775807) :
  Calls Tryz.prog 223 #[.agg #[.int .u8 op, .int .i64 lit.1, .int .u64 lit.2.1, .int .u64 lit.2.2, .string head, .string name, .int .i64 hi, .int .i64 lo, .slice A n cap], .agg #[.int .u8 0, .int .i64 0, .int .u64 0, .int .u64 0, .string (ByteArray.mk #[]), .string (ByteArray.mk #[]), .int .i64 0, .int .i64 0, .slice none 0 0]] w fun r w' => r = .returned (.bool (noB op lit head name hi lo n)) ∧ Below w.heap.size w w' := by
 have hE := hide fun W => equalNil_any A n cap W hn
 obtain ⟨wa, hwa, hsa, hba, hca, -⟩ := box1 w #[.int .u8 op, .int .i64 lit.1, .int .u64 lit.2.1, .int .u64 lit.2.2, .string head, .string name, .int .i64 hi, .int .i64 lo, .slice A n cap] 45
 obtain ⟨wb, hwb, hsb, hbb, hcb, -⟩ := box1 wa #[.int .u8 0, .int .i64 0, .int .u64 0, .int .u64 0, .string (ByteArray.mk #[]), .string (ByteArray.mk #[]), .int .i64 0, .int .i64 0, .slice none 0 0] 45
 have hw := hide (hba.trans (hbb.mono (by omega)))
 have hqz : ∀ i, wb.cell? ⟨w.heap.size, i, none⟩ = (#[.int .u8 op, .int .i64 lit.1, .int .u64 lit.2.1, .int .u64 lit.2.2, .string head, .string name, .int .i64 hi, .int .i64 lo, .slice A n cap] : Array Value)[i]? := fun i => (hbb.cell (p := ⟨w.heap.size, i, none⟩) (by show w.heap.size < _; omega)).trans (hca i)
 simp only [hsa] at hcb
 obtain ⟨x0, x1, x2, x3, x4, x5, x6, x7, x8⟩ := row9 hqz
 obtain ⟨y0, y1, y2, y3, y4, y5, y6, y7, y8⟩ := row9 hcb
 replace hsb := hide hsb
 clear hca hcb hqz hba hbb
 by_cases h1 : op = 0
 ·have o1 : (op == 0) = true := beq_iff_eq.2 h1
  by_cases h2 : lit = zLt
  ·obtain ⟨p1, p2, p3⟩ := (zlt_iff lit).1 h2
   replace p1 := eq_true p1
   replace p2 := eq_true p2
   replace p3 := eq_true p3
   by_cases h3 : head = strE
   ·have s1 : (head.toList == []) = true := by rw [emp_iff.1 h3]; rfl
    have s2 : head.toList.isEmpty = true := by rw [emp_iff.1 h3]; rfl
    by_cases h4 : name = strE
    ·have s3 : (name.toList == []) = true := by rw [emp_iff.1 h4]; rfl
     have s4 : name.toList.isEmpty = true := by rw [emp_iff.1 h4]; rfl
     by_cases h5 : hi = 0
     ·have s5 : (hi == 0) = true := beq_iff_eq.2 h5
      by_cases h6 : lo = 0
      ·have s6 : (lo == 0) = true := beq_iff_eq.2 h6
       have hv := hide (show noB op lit head name hi lo n = (n == 0) from by simp [noB, h1, h2, h3, h4, h5, h6])
       clear h1 h2 h3 h4 h5 h6
       go_enter Tryz.func223, Tryz.ntmps223
       go_wp2_with (go_at_call 231; refine (hE.out _).mono ?_; rintro e w' ⟨rfl, rfl⟩)
       go_ret
       exact ⟨ret_b hv.out.symm, hw.out⟩
      ·have s6 : (lo == 0) = false := beq_eq_false_iff_ne.2 h6
       have hv := hide (show noB op lit head name hi lo n = false from by simp [noB, h6])
       clear h1 h2 h3 h4 h5 h6
       go_enter Tryz.func223, Tryz.ntmps223
       go_wp2_with (go_at_call 231; refine (hE.out _).mono ?_; rintro e w' ⟨rfl, rfl⟩)
       go_ret
       exact ⟨ret_b hv.out.symm, hw.out⟩
     ·have s5 : (hi == 0) = false := beq_eq_false_iff_ne.2 h5
      have hv := hide (show noB op lit head name hi lo n = false from by simp [noB, h5])
      clear h1 h2 h3 h4 h5
      go_enter Tryz.func223, Tryz.ntmps223
      go_wp2_with (go_at_call 231; refine (hE.out _).mono ?_; rintro e w' ⟨rfl, rfl⟩)
      go_ret
      exact ⟨ret_b hv.out.symm, hw.out⟩
    ·have s3 : (name.toList == []) = false := by rw [beq_eq_false_iff_ne]; exact fun h => h4 (emp_iff.2 h)
     have s4 : name.toList.isEmpty = false := by rw [List.isEmpty_eq_false_iff]; exact fun h => h4 (emp_iff.2 h)
     have hv := hide (show noB op lit head name hi lo n = false from by simp [noB, h4])
     clear h1 h2 h3 h4
     go_enter Tryz.func223, Tryz.ntmps223
     go_wp2_with (go_at_call 231; refine (hE.out _).mono ?_; rintro e w' ⟨rfl, rfl⟩)
     go_ret
     exact ⟨ret_b hv.out.symm, hw.out⟩
   ·have s1 : (head.toList == []) = false := by rw [beq_eq_false_iff_ne]; exact fun h => h3 (emp_iff.2 h)
    have s2 : head.toList.isEmpty = false := by rw [List.isEmpty_eq_false_iff]; exact fun h => h3 (emp_iff.2 h)
    have hv := hide (show noB op lit head name hi lo n = false from by simp [noB, h3])
    clear h1 h2 h3
    go_enter Tryz.func223, Tryz.ntmps223
    go_wp2_with (go_at_call 231; refine (hE.out _).mono ?_; rintro e w' ⟨rfl, rfl⟩)
    go_ret
    exact ⟨ret_b hv.out.symm, hw.out⟩
  ·have hv0 := hide h2
   by_cases p1 : lit.1 = 0
   ·by_cases p2 : lit.2.1 = 0
    ·by_cases p3 : lit.2.2 = 0
     ·exact absurd ((zlt_iff lit).2 ⟨p1, p2, p3⟩) h2
     ·replace p1 := eq_true p1
      replace p2 := eq_true p2
      have hv := hide (show noB op lit head name hi lo n = false from by simp [noB, h2])
      clear h1 h2
      go_enter Tryz.func223, Tryz.ntmps223
      go_wp2_with (go_at_call 231; refine (hE.out _).mono ?_; rintro e w' ⟨rfl, rfl⟩)
      go_ret
      exact ⟨ret_b hv.out.symm, hw.out⟩
    ·replace p1 := eq_true p1
     have hv := hide (show noB op lit head name hi lo n = false from by simp [noB, h2])
     clear h1 h2
     go_enter Tryz.func223, Tryz.ntmps223
     go_wp2_with (go_at_call 231; refine (hE.out _).mono ?_; rintro e w' ⟨rfl, rfl⟩)
     go_ret
     exact ⟨ret_b hv.out.symm, hw.out⟩
   ·skip
    have hv := hide (show noB op lit head name hi lo n = false from by simp [noB, h2])
    clear h1 h2
    go_enter Tryz.func223, Tryz.ntmps223
    go_wp2_with (go_at_call 231; refine (hE.out _).mono ?_; rintro e w' ⟨rfl, rfl⟩)
    go_ret
    exact ⟨ret_b hv.out.symm, hw.out⟩
 ·have o1 : (op == 0) = false := beq_eq_false_iff_ne.2 h1
  have hv := hide (show noB op lit head name hi lo n = false from by simp [noB, h1])
  clear h1
  go_enter Tryz.func223, Tryz.ntmps223
  go_wp2_with (go_at_call 231; refine (hE.out _).mono ?_; rintro e w' ⟨rfl, rfl⟩)
  go_ret
  exact ⟨ret_b hv.out.symm, hw.out⟩
set_option maxRecDepth 100000 in
set_option maxHeartbeats 2000000 in
theorem isNone_any (e : Ex) (cs : List Value) (w : World) {B : Nat} (he : rEx w B cs e) : Calls Tryz.prog 202 #[.agg cs.toArray] w fun r w' => r = .returned (.bool (noEx e)) ∧ Below w.heap.size w w' := by
 obtain ⟨op, lit, head, name, hi, lo, args⟩ := e
 obtain ⟨A, cap, rfl, -, -, -, -, -, -, hs⟩ := RE.inv he
 have hla := hs.len
 have hE := fun W => equalNil_any A args.length cap W hla
 show Calls _ _ #[.agg #[.int .u8 op, .int .i64 lit.1, .int .u64 lit.2.1, .int .u64 lit.2.2, .string head, .string name, .int .i64 hi, .int .i64 lo, .slice A args.length cap]] _ _
 generalize hn : args.length = n at *
 have hno : noEx (.mk op lit head name hi lo args) = (decide (op = 0) && decide (lit = zLt) && decide (head = strE) && decide (name = strE) && decide (hi = 0) && decide (lo = 0) && (n == 0)) := by
  rw [← hn]; simp only [noEx]; cases args <;> simp
 replace hno := hide hno
 clear he hs hn
 have hX := hide fun W => sameNil_any op lit head name hi lo A n cap W hla
 have hz : Below w.heap.size w (w.alloc (.cells #[.int .u8 op, .int .i64 lit.1, .int .u64 lit.2.1, .int .u64 lit.2.2, .string head, .string name, .int .i64 hi, .int .i64 lo, .slice A n cap] 45)) := (Below.refl _ _).alloc (Nat.le_refl _) _
 replace hz := hide hz
 replace hE := hide hE
 go_enter Tryz.func202, Tryz.ntmps202
 go_wp2_with (go_at_call 223; refine (hX.out _).mono ?_; rintro e w1 ⟨rfl, hb1⟩)
 go_ret
 exact ⟨ret_b hno.out.symm, hz.out.trans (hb1.mono (by simp))⟩
end Go.Proofs.YtbbdhknagofghaaGreat
/-! Layer 4: mayBlock, where mayStmt answers of its statements. -/
namespace Go.Proofs.YtbbdhknagofghaaGreat
open Go.RowKit
def MayStIs (m : Int) (B : Nat) (s : St) : Prop := ∀ (cs : List Value) (w : World) (deep : Nat), deep ≤ 8 → B ≤ w.heap.size → 0 < B → w.cell? ⟨0, 0, none⟩ = some (.int .i64 m) → rSt w B cs s →
 Calls Tryz.prog 148 #[.agg cs.toArray, .int .i64 (deep : Int)] w fun r w' => r = .returned (.bool (mayS s deep)) ∧ Below w.heap.size w w'
theorem enters_mayb1 : ∀ args w, (callFunc 147 args).run Tryz.prog w = .ok (.enter 147 args) w := enters_of Tryz.func147 (by kernel_rfl) rfl
theorem len14 {cs : List Value} (h : cs.length = 14) : ∃ a0 a1 a2 a3 a4 a5 a6 a7 a8 a9 a10 a11 a12 a13, cs = [a0, a1, a2, a3, a4, a5, a6, a7, a8, a9, a10, a11, a12, a13] := by
 match cs, h with
 | [a0, a1, a2, a3, a4, a5, a6, a7, a8, a9, a10, a11, a12, a13], _ => exact ⟨a0, a1, a2, a3, a4, a5, a6, a7, a8, a9, a10, a11, a12, a13, rfl⟩
set_option maxRecDepth 100000 in
set_option maxHeartbeats 400000 in
theorem mayb1_any {m : Int} {B : Nat} {s : St} (ih : MayStIs m B s) (cs : List Value) (w : World) (deep bd : Nat) (hd : deep ≤ 8) (hB : B ≤ w.heap.size) (h0 : 0 < B) (hz : w.cell? ⟨0, 0, none⟩ = some (.int .i64 m)) (hr : rSt w B cs s) (hel : cs.length = 14)
  (hl : w.cell? ⟨bd, 0, none⟩ = some (.int .i64 (deep : Int))) :
  Calls Tryz.prog 147 #[.agg cs.toArray, .pointer (some ⟨bd, 0, none⟩)] w fun r w' => r = .returned (.bool (mayS s deep)) ∧ Below w.heap.size w w' := by
 obtain ⟨a0, a1, a2, a3, a4, a5, a6, a7, a8, a9, a10, a11, a12, a13, rfl⟩ := len14 hel
 have hX0 := fun (W : World) (hb : Below w.heap.size w W) => ih _ W deep hd (by have := hb.size; omega) h0 ((hb.cell (p := ⟨0, 0, none⟩) (by show 0 < _; omega)).trans hz) (sta_st.keep hr fun q hq => (hb.mono hB).cell hq)
 obtain ⟨wa, hwa, hsa, hba, hca, -⟩ := box1 w #[a0, a1, a2, a3, a4, a5, a6, a7, a8, a9, a10, a11, a12, a13] 47
 have hbl : bd < w.heap.size := World.block_lt_of_cell? w _ hl
 have hX : Hid (Calls Tryz.prog 148 #[.agg #[a0, a1, a2, a3, a4, a5, a6, a7, a8, a9, a10, a11, a12, a13], .int .i64 (deep : Int)] wa fun r w' => r = .returned (.bool (mayS s deep)) ∧ Below wa.heap.size wa w') := hide (hX0 wa hba)
 have l0 : wa.cell? ⟨bd, 0, none⟩ = some (.int .i64 (deep : Int)) := (hba.cell (p := ⟨bd, 0, none⟩) hbl).trans hl
 obtain ⟨y0, y1, y2, y3, y4, y5, y6, y7, y8, y9, y10, y11, y12, y13⟩ := row14 hca
 show Calls _ _ #[.agg #[a0, a1, a2, a3, a4, a5, a6, a7, a8, a9, a10, a11, a12, a13], .pointer (some ⟨bd, 0, none⟩)] _ _
 replace hba := hide hba
 have hle : w.heap.size ≤ wa.heap.size := by omega
 generalize mayS s deep = z at hX ⊢
 clear hca hX0 ih hr hel
 go_enter Tryz.func147, Tryz.ntmps147
 go_wp2_with (go_at_call 148; refine hX.out.mono ?_; rintro e w1 ⟨rfl, hb1⟩)
 go_ret
 exact ⟨rfl, hba.out.trans (hb1.mono hle)⟩
end Go.Proofs.YtbbdhknagofghaaGreat
/-! Layer 4: mayBlock, where mayStmt answers of its statements. -/
namespace Go.Proofs.YtbbdhknagofghaaGreat
open Go.RowKit
set_option maxRecDepth 100000 in
set_option maxHeartbeats 400000 in
theorem mayb_of {m : Int} {B : Nat} (l : List St) (ih : ∀ x ∈ l, MayStIs m B x) (A : Option Addr) (cap : Nat) (w : World) (deep : Nat) (hd : deep ≤ 9) (hB : B ≤ w.heap.size) (h0 : 0 < B) (hz : w.cell? ⟨0, 0, none⟩ = some (.int .i64 m)) (hS : Sl 14 rSt w B A l) :
  Calls Tryz.prog 68 #[.slice A l.length cap, .int .i64 (deep : Int)] w fun r w' => r = .returned (.bool (mayBlk l deep)) ∧ Below w.heap.size w w' := by
 have hl := hS.len
 obtain ⟨wa, hwa, hsa, hba, hca, -⟩ := box1 w #[.int .i64 (deep : Int)] 3
 have n0 : wa.cell? ⟨w.heap.size, 0, none⟩ = some (.int .i64 (deep : Int)) := hca 0
 have hza : wa.cell? ⟨0, 0, none⟩ = some (.int .i64 m) := (hba.cell (p := ⟨0, 0, none⟩) (by show 0 < _; omega)).trans hz
 have hAll : deep ≤ 8 → Calls Tryz.prog 146 #[.slice A l.length cap, .func (.func 147) #[] #[.pointer (some ⟨w.heap.size, 0, none⟩)]] wa fun e w' => e = .returned (.bool (mayL l deep)) ∧ Below wa.heap.size wa w' := fun hd8 => by
  rw [mayL_all]
  exact all_Stmt sta_st 147 #[.pointer (some ⟨w.heap.size, 0, none⟩)] enters_mayb1 (fun s => mayS s deep) A cap l wa (by omega) (hS.below sta_st (hba.mono hB))
   (fun i x cs W hx hb hr hel => mayb1_any (ih x (List.mem_of_getElem? hx)) cs W deep w.heap.size hd8 (by have := hb.size; omega) h0 ((hb.cell (p := ⟨0, 0, none⟩) (by show 0 < _; omega)).trans hza) hr hel ((hb.cell (p := ⟨w.heap.size, 0, none⟩) (by show w.heap.size < _; omega)).trans n0))
 have hm : mayBlk l deep = (decide (l.length = 0) || (decide (deep ≤ 8) && decide (l.length ≤ 32) && mayL l deep)) := by
  unfold mayBlk
  cases l <;> simp
 rw [hm]
 generalize mayL l deep = z at hAll ⊢
 replace hba := hide hba
 have hle : w.heap.size ≤ wa.heap.size := by omega
 clear hca ih hz hza hS hm
 by_cases hn : l.length = 0
 ·rw [decide_eq_true hn]
  have hnz : (l.length : Int) = 0 := by omega
  clear hAll
  go_enter Tryz.func68, Tryz.ntmps68
  go_wp2
  go_ret
  exact ⟨rfl, hba.out⟩
 ·rw [decide_eq_false hn]
  have hnz : ¬ (l.length : Int) = 0 := by omega
  by_cases hd8 : deep ≤ 8
  ·rw [decide_eq_true hd8]
   have hdz : (deep : Int) ≤ 8 := by omega
   have hX := hide (hAll hd8)
   by_cases h32 : l.length ≤ 32
   ·rw [decide_eq_true h32]
    have h3z : (l.length : Int) ≤ 32 := by omega
    clear hAll
    have eg := enters_mayb1
    go_enter Tryz.func68, Tryz.ntmps68
    go_wp2_with (go_at_call 146; refine hX.out.mono ?_; rintro e w1 ⟨rfl, hb1⟩)
    go_ret
    exact ⟨by simp, hba.out.trans (hb1.mono hle)⟩
   ·rw [decide_eq_false h32]
    have h3z : ¬ (l.length : Int) ≤ 32 := by omega
    clear hAll hX
    go_enter Tryz.func68, Tryz.ntmps68
    go_wp2
    go_ret
    exact ⟨by simp, hba.out⟩
  ·rw [decide_eq_false hd8]
   have hdz : ¬ (deep : Int) ≤ 8 := by omega
   clear hAll
   go_enter Tryz.func68, Tryz.ntmps68
   go_wp2
   go_ret
   exact ⟨by simp, hba.out⟩
end Go.Proofs.YtbbdhknagofghaaGreat
/-! Layer 4: mayStmt. BEGUN: the leaf of a body where the kind bears none. -/
namespace Go.Proofs.YtbbdhknagofghaaGreat
open Go.RowKit
theorem mayS_bodies {kind : Int} {head name : ByteArray} {e : Ex} {thn els : List St} {deep : Nat} (h2 : kind ≠ 2) (hb : thn.length + els.length ≠ 0) : mayS (.mk kind head name e thn els) deep = false := by
 have hn : (thn.isEmpty && els.isEmpty) = false := by
  cases thn <;> cases els <;> simp_all
 simp only [mayS, hn, if_neg h2, Bool.false_and]
 simp
set_option maxRecDepth 200000 in
set_option maxHeartbeats 400000 in
theorem mays_bodies {m : Int} {B : Nat} (kind : Int) (head name : ByteArray) (e : Ex) (thn els : List St) (cs : List Value) (w : World) (deep : Nat) (hr : rSt w B cs (.mk kind head name e thn els)) (hel : cs.length = 14) (h2 : kind ≠ 2) (hb : thn.length + els.length ≠ 0)
  (hsm : thn.length + els.length ≤ 9223372036854775807) :
  Calls Tryz.prog 148 #[.agg cs.toArray, .int .i64 (deep : Int)] w fun r w' => r = .returned (.bool (mayS (.mk kind head name e thn els) deep)) ∧ Below w.heap.size w w' := by
 rw [mayS_bodies h2 hb]
 obtain ⟨es, A1, c1, A2, c2, rfl, h0, h1, h2', he, hT, hE⟩ := RS.inv hr
 have l1 := hT.len
 have l2 := hE.len
 obtain ⟨op, lit, eh, en, hi, lo, args⟩ := e
 obtain ⟨A, cap, rfl, -, -, -, -, -, -, hs⟩ := RE.inv he
 have hla := hs.len
 clear hr he hT hE hs hel
 obtain ⟨wa, hwa, hsa, hba, hca, -⟩ := box1 w #[.int .u8 kind, .string head, .string name, .int .u8 op, .int .i64 lit.1, .int .u64 lit.2.1, .int .u64 lit.2.2, .string eh, .string en, .int .i64 hi, .int .i64 lo, .slice A args.length cap, .slice A1 thn.length c1, .slice A2 els.length c2] 47
 obtain ⟨y0, y1, y2, y3, y4, y5, y6, y7, y8, y9, y10, y11, y12, y13⟩ := row14 hca
 clear hca
 replace hba := hide hba
 have hbz : ((thn.length : Int) + (els.length : Int) > 0) := by omega
 have hbw : (thn.length : Int) + (els.length : Int) ≤ 9223372036854775807 := by omega
 have h2b : (kind != 2) = true := by simpa using h2
 show Calls _ _ #[.agg #[.int .u8 kind, .string head, .string name, .int .u8 op, .int .i64 lit.1, .int .u64 lit.2.1, .int .u64 lit.2.2, .string eh, .string en, .int .i64 hi, .int .i64 lo, .slice A args.length cap, .slice A1 thn.length c1, .slice A2 els.length c2], .int .i64 (deep : Int)] _ _
 go_enter Tryz.func148, Tryz.ntmps148
 go_wp2
 go_ret
 exact ⟨rfl, hba.out⟩
theorem mayS_other {kind : Int} {head name : ByteArray} {e : Ex} {thn els : List St} {deep : Nat} (h1 : kind ≠ 1) (h2 : kind ≠ 2) (h3 : kind ≠ 3) (h4 : kind ≠ 4) (h5 : kind ≠ 5) (h6 : kind ≠ 6) (h7 : kind ≠ 7) : mayS (.mk kind head name e thn els) deep = false := by
 simp [mayS, h1, h2, h3, h4, h5, h6, h7]
set_option maxRecDepth 200000 in
set_option maxHeartbeats 400000 in
theorem mays_other {m : Int} {B : Nat} (kind : Int) (head name : ByteArray) (e : Ex) (thn els : List St) (cs : List Value) (w : World) (deep : Nat) (hr : rSt w B cs (.mk kind head name e thn els)) (hel : cs.length = 14) (h1k : kind ≠ 1) (h2 : kind ≠ 2) (h3k : kind ≠ 3) (h4k : kind ≠ 4) (h5k : kind ≠ 5) (h6k : kind ≠ 6) (h7k : kind ≠ 7) (hb : thn.length + els.length = 0)
  (hsm : thn.length + els.length ≤ 9223372036854775807) :
  Calls Tryz.prog 148 #[.agg cs.toArray, .int .i64 (deep : Int)] w fun r w' => r = .returned (.bool (mayS (.mk kind head name e thn els) deep)) ∧ Below w.heap.size w w' := by
 rw [mayS_other h1k h2 h3k h4k h5k h6k h7k]
 obtain ⟨es, A1, c1, A2, c2, rfl, h0, h1, h2', he, hT, hE⟩ := RS.inv hr
 have l1 := hT.len
 have l2 := hE.len
 obtain ⟨op, lit, eh, en, hi, lo, args⟩ := e
 obtain ⟨A, cap, rfl, -, -, -, -, -, -, hs⟩ := RE.inv he
 have hla := hs.len
 clear hr he hT hE hs hel
 obtain ⟨wa, hwa, hsa, hba, hca, -⟩ := box1 w #[.int .u8 kind, .string head, .string name, .int .u8 op, .int .i64 lit.1, .int .u64 lit.2.1, .int .u64 lit.2.2, .string eh, .string en, .int .i64 hi, .int .i64 lo, .slice A args.length cap, .slice A1 thn.length c1, .slice A2 els.length c2] 47
 obtain ⟨y0, y1, y2, y3, y4, y5, y6, y7, y8, y9, y10, y11, y12, y13⟩ := row14 hca
 clear hca
 replace hba := hide hba
 have hbz : ¬ ((thn.length : Int) + (els.length : Int) > 0) := by omega
 have hbw : (thn.length : Int) + (els.length : Int) ≤ 9223372036854775807 := by omega
 have h2b : (kind != 2) = true := by simpa using h2
 show Calls _ _ #[.agg #[.int .u8 kind, .string head, .string name, .int .u8 op, .int .i64 lit.1, .int .u64 lit.2.1, .int .u64 lit.2.2, .string eh, .string en, .int .i64 hi, .int .i64 lo, .slice A args.length cap, .slice A1 thn.length c1, .slice A2 els.length c2], .int .i64 (deep : Int)] _ _
 go_enter Tryz.func148, Tryz.ntmps148
 go_wp2
 go_ret
 exact ⟨rfl, hba.out⟩
end Go.Proofs.YtbbdhknagofghaaGreat
/-! Layer 4: mayStmt at an apply, a drop, a validity. -/
namespace Go.Proofs.YtbbdhknagofghaaGreat
open Go.RowKit
theorem emp2 {thn els : List St} (hb : thn.length + els.length = 0) : thn.isEmpty = true ∧ els.isEmpty = true := by
 cases thn <;> cases els <;> simp_all
set_option maxRecDepth 200000 in
set_option maxHeartbeats 400000 in
theorem mays_apply {m : Int} {B : Nat} (kind : Int) (hk : kind = 3) (head name : ByteArray) (e : Ex) (thn els : List St) (cs : List Value) (w : World) (deep : Nat) (hr : rSt w B cs (.mk kind head name e thn els)) (hel : cs.length = 14)
  (hB : B ≤ w.heap.size) (h00 : 0 < B) (hz : w.cell? ⟨0, 0, none⟩ = some (.int .i64 m)) (hb : thn.length + els.length = 0) :
  Calls Tryz.prog 148 #[.agg cs.toArray, .int .i64 (deep : Int)] w fun r w' => r = .returned (.bool (mayS (.mk kind head name e thn els) deep)) ∧ Below w.heap.size w w' := by
 have hv : mayS (.mk kind head name e thn els) deep = (decide (head = strE) && (nameB name && noEx e)) := by
  simp [mayS, emp2 hb, hk, Bool.and_assoc]
 rw [hv]
 clear hv
 obtain ⟨es, A1, c1, A2, c2, rfl, h0, h1, h2', he, hT, hE⟩ := RS.inv hr
 have hsm := RS.small hr
 have l1 := hT.len
 have l2 := hE.len
 have hX0 := fun (W : World) (hb : Below w.heap.size w W) => isNone_any e es W (sta_ex.keep he fun q hq => (hb.mono hB).cell hq)
 obtain ⟨op, lit, eh, en, hi, lo, args⟩ := e
 obtain ⟨A, cap, rfl, -, -, -, -, -, -, hs⟩ := RE.inv he
 have hla := hs.len
 obtain ⟨wa, hwa, hsa, hba, hca, -⟩ := box1 w #[.int .u8 kind, .string head, .string name, .int .u8 op, .int .i64 lit.1, .int .u64 lit.2.1, .int .u64 lit.2.2, .string eh, .string en, .int .i64 hi, .int .i64 lo, .slice A args.length cap, .slice A1 thn.length c1, .slice A2 els.length c2] 47
 obtain ⟨y0, y1, y2, y3, y4, y5, y6, y7, y8, y9, y10, y11, y12, y13⟩ := row14 hca
 have hza : wa.cell? ⟨0, 0, none⟩ = some (.int .i64 m) := (hba.cell (p := ⟨0, 0, none⟩) (by show 0 < _; omega)).trans hz
 have hNh := isName_any head m wa (Nat.le_trans h1 (by decide)) hza
 have hNn := isName_any name m wa (Nat.le_trans h2' (by decide)) hza
 clear hca
 have hX1 := hX0 wa hba
 clear hX0 hr he hT hE hs hel
 replace hba := hide hba
 have hle : w.heap.size ≤ wa.heap.size := by omega
 have hbw : (thn.length : Int) + (els.length : Int) ≤ 9223372036854775807 := by unfold sm at hsm; omega
 show Calls _ _ #[.agg #[.int .u8 kind, .string head, .string name, .int .u8 op, .int .i64 lit.1, .int .u64 lit.2.1, .int .u64 lit.2.2, .string eh, .string en, .int .i64 hi, .int .i64 lo, .slice A args.length cap, .slice A1 thn.length c1, .slice A2 els.length c2], .int .i64 (deep : Int)] _ _
 have hbz : ¬ ((thn.length : Int) + (els.length : Int) > 0) := by omega
 subst hk
 have hX : Hid (Calls Tryz.prog 202 #[.agg #[.int .u8 op, .int .i64 lit.1, .int .u64 lit.2.1, .int .u64 lit.2.2, .string eh, .string en, .int .i64 hi, .int .i64 lo, .slice A args.length cap]] wa fun r w' => r = .returned (.bool (noEx (.mk op lit eh en hi lo args))) ∧ Below wa.heap.size wa w') := hide hX1
 clear hX1
 generalize noEx (.mk op lit eh en hi lo args) = z at hX ⊢
 by_cases e1 : head = strE
 ·rw [decide_eq_true e1]
  have q1 := emp_iff.1 e1
  clear e1 hNh
  generalize nameB name = y at hNn ⊢
  cases y with
  | false =>
   go_enter Tryz.func148, Tryz.ntmps148
   go_wp2_with (go_at_call 58; refine hNn.mono ?_; rintro e w' ⟨rfl, rfl⟩)
   go_ret
   exact ⟨rfl, hba.out⟩
  | true =>
   go_enter Tryz.func148, Tryz.ntmps148
   go_wp2_with (first | (go_at_call 58; refine hNn.mono ?_; rintro e w' ⟨rfl, rfl⟩) | (go_at_call 202; refine hX.out.mono ?_; rintro e w1 ⟨rfl, hb1⟩))
   go_ret
   exact ⟨rfl, hba.out.trans (hb1.mono hle)⟩
 ·rw [decide_eq_false e1]
  have q1 := fun h => e1 (emp_iff.2 h)
  clear e1
  go_enter Tryz.func148, Tryz.ntmps148
  go_wp2
  go_ret
  exact ⟨rfl, hba.out⟩
end Go.Proofs.YtbbdhknagofghaaGreat
/-! Layer 4: mayStmt at a drop, a forward, a set. -/
namespace Go.Proofs.YtbbdhknagofghaaGreat
open Go.RowKit
theorem emp_add {a b : ByteArray} : (a = strE ∧ b = strE) ↔ (a ++ b).toList = [] := by
 rw [← emp_iff]
 constructor
 ·rintro ⟨rfl, rfl⟩; rfl
 ·intro h
  have : (a ++ b).size = 0 := by rw [h]; rfl
  rw [ByteArray.size_append] at this
  refine ⟨ByteArray.ext (Array.eq_empty_of_size_eq_zero ?_), ByteArray.ext (Array.eq_empty_of_size_eq_zero ?_)⟩
  ·show a.size = 0; omega
  ·show b.size = 0; omega
set_option maxRecDepth 200000 in
set_option maxHeartbeats 400000 in
theorem mays_drop {m : Int} {B : Nat} (kind : Int) (hk : kind = 4) (head name : ByteArray) (e : Ex) (thn els : List St) (cs : List Value) (w : World) (deep : Nat) (hr : rSt w B cs (.mk kind head name e thn els)) (hel : cs.length = 14)
  (hB : B ≤ w.heap.size) (h00 : 0 < B) (hz : w.cell? ⟨0, 0, none⟩ = some (.int .i64 m)) (hb : thn.length + els.length = 0) :
  Calls Tryz.prog 148 #[.agg cs.toArray, .int .i64 (deep : Int)] w fun r w' => r = .returned (.bool (mayS (.mk kind head name e thn els) deep)) ∧ Below w.heap.size w w' := by
 have hv : mayS (.mk kind head name e thn els) deep = (decide (head = strE ∧ name = strE) && noEx e) := by
  simp [mayS, emp2 hb, hk, Bool.and_assoc]
 rw [hv]
 clear hv
 obtain ⟨es, A1, c1, A2, c2, rfl, h0, h1, h2', he, hT, hE⟩ := RS.inv hr
 have hsm := RS.small hr
 have l1 := hT.len
 have l2 := hE.len
 have hX0 := fun (W : World) (hb : Below w.heap.size w W) => isNone_any e es W (sta_ex.keep he fun q hq => (hb.mono hB).cell hq)
 obtain ⟨op, lit, eh, en, hi, lo, args⟩ := e
 obtain ⟨A, cap, rfl, -, -, -, -, -, -, hs⟩ := RE.inv he
 have hla := hs.len
 obtain ⟨wa, hwa, hsa, hba, hca, -⟩ := box1 w #[.int .u8 kind, .string head, .string name, .int .u8 op, .int .i64 lit.1, .int .u64 lit.2.1, .int .u64 lit.2.2, .string eh, .string en, .int .i64 hi, .int .i64 lo, .slice A args.length cap, .slice A1 thn.length c1, .slice A2 els.length c2] 47
 obtain ⟨y0, y1, y2, y3, y4, y5, y6, y7, y8, y9, y10, y11, y12, y13⟩ := row14 hca
 have hza : wa.cell? ⟨0, 0, none⟩ = some (.int .i64 m) := (hba.cell (p := ⟨0, 0, none⟩) (by show 0 < _; omega)).trans hz
 have hNh := isName_any head m wa (Nat.le_trans h1 (by decide)) hza
 have hNn := isName_any name m wa (Nat.le_trans h2' (by decide)) hza
 clear hca
 have hX1 := hX0 wa hba
 clear hX0 hr he hT hE hs hel
 replace hba := hide hba
 have hle : w.heap.size ≤ wa.heap.size := by omega
 have hbw : (thn.length : Int) + (els.length : Int) ≤ 9223372036854775807 := by unfold sm at hsm; omega
 show Calls _ _ #[.agg #[.int .u8 kind, .string head, .string name, .int .u8 op, .int .i64 lit.1, .int .u64 lit.2.1, .int .u64 lit.2.2, .string eh, .string en, .int .i64 hi, .int .i64 lo, .slice A args.length cap, .slice A1 thn.length c1, .slice A2 els.length c2], .int .i64 (deep : Int)] _ _
 have hbz : ¬ ((thn.length : Int) + (els.length : Int) > 0) := by omega
 have hcat : head.size + name.size ≤ 9223372036854775807 := by unfold sm at h1 h2'; omega
 subst hk
 have hX : Hid (Calls Tryz.prog 202 #[.agg #[.int .u8 op, .int .i64 lit.1, .int .u64 lit.2.1, .int .u64 lit.2.2, .string eh, .string en, .int .i64 hi, .int .i64 lo, .slice A args.length cap]] wa fun r w' => r = .returned (.bool (noEx (.mk op lit eh en hi lo args))) ∧ Below wa.heap.size wa w') := hide hX1
 clear hX1
 generalize noEx (.mk op lit eh en hi lo args) = z at hX ⊢
 clear hNh hNn
 by_cases e1 : head = strE ∧ name = strE
 ·rw [decide_eq_true e1]
  have q1 := emp_add.1 e1
  clear e1
  go_enter Tryz.func148, Tryz.ntmps148
  go_wp2_with (go_at_call 202; refine hX.out.mono ?_; rintro e w1 ⟨rfl, hb1⟩)
  go_ret
  exact ⟨rfl, hba.out.trans (hb1.mono hle)⟩
 ·rw [decide_eq_false e1]
  have q1 := fun h => e1 (emp_add.2 h)
  clear e1
  go_enter Tryz.func148, Tryz.ntmps148
  go_wp2
  go_ret
  exact ⟨rfl, hba.out⟩
end Go.Proofs.YtbbdhknagofghaaGreat
