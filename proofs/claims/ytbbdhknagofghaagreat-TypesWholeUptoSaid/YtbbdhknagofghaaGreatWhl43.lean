import Derived.Test.YtbbdhknagofghaaGreatWhl42
set_option linter.all false
/-! Printed by gen_r7k.py. The document's layer 7: Items. -/
namespace Go.Proofs.YtbbdhknagofghaaGreat
open Go.RowKit
attribute [local go_sem ↓] app_eq
theorem eachI_take {α : Type} (kind : Int) (l : List α) (g : Nat → α → List It) {k : Nat} (hk : k < l.length) : eachI kind (l.take (k + 1)) g = eachI kind (l.take k) g ++ (⟨kind, (k : Int), 0, zSt⟩ :: g k l[k]) := by
 unfold eachI
 rw [List.take_succ_eq_append_getElem hk, List.zipIdx_append, List.flatMap_append]
 simp [List.length_take, Nat.min_eq_left (Nat.le_of_lt hk)]
theorem eachI_app {α : Type} (kind : Int) (l m : List α) (g : Nat → α → List It) : (eachI kind l g).length ≤ (eachI kind (l ++ m) g).length := by
 unfold eachI
 rw [List.zipIdx_append, List.flatMap_append, List.length_append]
 omega
theorem eachI_le {α : Type} (kind : Int) (l : List α) (g : Nat → α → List It) (k : Nat) : (eachI kind (l.take k) g).length ≤ (eachI kind l g).length := by
 conv => rhs; rw [← List.take_append_drop k l]
 exact eachI_app _ _ _ _
theorem ItS.base_ {w : World} {base base' B : Nat} {v : Value} {l : List It} (h : ItS w base B v l) (hb : base' ≤ base) : ItS w base' B v l := by
 obtain ⟨Z, h1, h2, h3⟩ := h
 refine ⟨Z, h1, h2, h3.1, ?_⟩
 rcases h3.2 with h4 | ⟨g, cap, cur, rfl, hg, r⟩
 ·exact .inl h4
 ·exact .inr ⟨g, cap, cur, rfl, by omega, r⟩
set_option maxRecDepth 100000 in
set_option maxHeartbeats 16000000 in
theorem items07_any (A1 A2 A3 A4 A5 A6 A7 : Option Addr) (p : Pg) (c1 c2 c3 c4 c5 c6 c7 : Nat) (B : Nat) (w : World) (hB : B ≤ w.heap.size) (hP : PgS w B A1 A2 A3 A4 A5 A6 A7 p) (hbig : (itemsP p).length ≤ bigI) :
  Calls Tryz.prog 9 #[.agg #[.slice A1 p.headers.length c1, .slice A2 p.metas.length c2, .slice A3 p.states.length c3, .slice A4 p.actions.length c4, .slice A5 p.tables.length c5, .slice A6 p.control.length c6, .slice A7 p.emit.length c7]] w fun e w' => ∃ v, e = .returned v ∧ ItS w' w.heap.size B v (itemsP p) ∧ Below w.heap.size w w' := by
 have l1 := hP.1.len
 have l2 := hP.2.len
 have l3 := hP.3.len
 have l4 := hP.4.len
 have l5 := hP.5.len
 have l6 := hP.6.len
 have l7 := hP.7.len
 obtain ⟨wb, hwb, hsz, hba, hcb, -⟩ := box1 w #[.slice A1 p.headers.length c1, .slice A2 p.metas.length c2, .slice A3 p.states.length c3, .slice A4 p.actions.length c4, .slice A5 p.tables.length c5, .slice A6 p.control.length c6, .slice A7 p.emit.length c7] 30
 obtain ⟨y0, y1, y2, y3, y4, y5, y6⟩ := row7 (w := wb) (a := w.heap.size) fun i => hcb i
 have hb0 : Below wb.heap.size wb wb := Below.refl _ _
 have hBk := hide (show ∀ W, Below wb.heap.size wb W → Below w.heap.size w W from fun W hb => hba.trans (hb.mono (by omega)))
 have hBb : B ≤ wb.heap.size := by omega
 have hbs : w.heap.size ≤ wb.heap.size := by omega
 have hlz : w.heap.size < wb.heap.size := by omega
 have hP2 := hide (hP.below (hba.mono hB))
 have hlen : (headsI p).length + ((metasI p).length + ((statesI p).length + ((actsI p).length + ((tabsI p).length + ((itemsL (-1) p.control).length + (emitsI p).length))))) ≤ 100000000 := by
  have := hbig
  unfold itemsP bigI at this
  simpa only [List.length_append] using this
 have hfin := hide (show itemsP p = headsI p ++ (metasI p ++ (statesI p ++ (actsI p ++ (tabsI p ++ (itemsL (-1) p.control ++ emitsI p))))) from rfl)
 clear hcb hba hP hbig
 replace hsz := hide hsz
 go_enter Tryz.func9, Tryz.ntmps9
 go_wp2
 obtain ⟨PRE, hPRE⟩ : ∃ PRE : List It, PRE = [] := ⟨_, rfl⟩
 have hpre := hide (show PRE.length = 0 from by rw [hPRE]; rfl)
 obtain ⟨T, hT⟩ : ∃ T : List It, T = headsI p ++ (metasI p ++ (statesI p ++ (actsI p ++ (tabsI p ++ (itemsL (-1) p.control ++ emitsI p))))) := ⟨_, rfl⟩
 have hfold := hide (show T = PRE ++ (headsI p ++ (metasI p ++ (statesI p ++ (actsI p ++ (tabsI p ++ (itemsL (-1) p.control ++ emitsI p)))))) from by rw [hPRE, hT]; rfl)
 replace hfin := hide (hfin.out.trans hT.symm)
 clear hT
 have hR0 := hide (show ItS wb wb.heap.size B (.slice none 0 0) PRE from by rw [hPRE]; exact ItS.nil_ _ _ _)
 have hbr0 := hide hb0
 clear hb0 hPRE
 go_loopw [3, 4] (fun v i wr => ∃ k : Nat, k ≤ p.headers.length ∧ i = .int .i64 k ∧ Hid (ItS wr wb.heap.size B v (PRE ++ eachI 1 (p.headers.take k) (fun i h => manyI 2 i h.fields.length))) ∧ Hid (Below wb.heap.size wb wr)) (fun _ i _ => p.headers.length - (intOf i).toNat)
 case atStart => exact ⟨0, Nat.zero_le _, rfl, hide (by rw [List.take_zero]; simpa [eachI] using hR0.out), hbr0⟩
 case round =>
  clear hR0 hbr0
  obtain ⟨k, hk, rfl, hR, hbr⟩ := hrel
  have hc := bcell' hbr.out
  by_cases hlt : k < p.headers.length
  ·have hltz : (k : Int) < (p.headers.length : Int) := by omega
   have hst := eachI_take 1 p.headers (fun i h => manyI 2 i h.fields.length) hlt
   have hle := eachI_le 1 p.headers (fun i h => manyI 2 i h.fields.length) (k + 1)
   rw [hst, List.length_append, List.length_cons] at hle
   change _ ≤ (headsI p).length at hle
   have hpl := hpre.out
   obtain ⟨b, o, ecs, hA, hb, hel, hcell, B1, d1, rfl, hn, hF⟩ := hP2.out.headers.2 k _ (List.getElem?_eq_getElem hlt)
   have hAs := hA
   subst hA
   have x0 : wb.cell? ⟨b, o + k * 2, none⟩ = some (.string p.headers[k].name) := by simpa using hcell 0 _ rfl
   have x1 : wb.cell? ⟨b, o + k * 2 + 1, none⟩ = some (.slice B1 p.headers[k].fields.length d1) := hcell 1 _ rfl
   have hbw : b < wb.heap.size := by omega
   have m0 := hF.len
   try simp only [length_manyI] at hle
   have hst' := hide hst
   have hq : (PRE ++ eachI 1 (p.headers.take k) (fun i h => manyI 2 i h.fields.length)).length ≤ 100000000 - 1 - (p.headers[k].fields.length) := by
    rw [List.length_append]
    omega
   clear hst hcell
   generalize eachI 1 (p.headers.take k) (fun i h => manyI 2 i h.fields.length) = E at *
   generalize hM : PRE ++ E = M at hR hq
   replace hM := hide hM
   clear hF
   obtain ⟨v1, w1, hr1, hI1, hw1⟩ := append_zit 1 (k : Int) 0 hR.out hBb hbr.out.size (by show _ ≤ 100000000; first | omega | (simp only [List.length_append, List.length_singleton, length_manyI]; omega))
   have hb1 := hide (hbr.out.trans hw1)
   replace hI1 := hide hI1
   clear hw1
   have hM2 := hide (many07_any 2 k p.headers[k].fields.length B _ (Nat.le_trans hBb hb1.out.size) (by show _ ≤ 100000000; omega))
   have hc2 := bcell' hb1.out
   go_wp2_with fail
   refine hM2.out.mono ?_
   rintro _ w2 ⟨v2, rfl, hI2, hw2⟩
   obtain ⟨v3, w3, hr3, hI3, hw3⟩ := append_its (hI1.out.below hw2 (Nat.le_refl _) (Nat.le_trans hBb hb1.out.size)) hI2 hBb (Nat.le_trans hb1.out.size hw2.size) (by show _ ≤ 100000000; first | omega | (simp only [List.length_append, List.length_singleton, length_manyI]; omega)) (by show _ ≤ 100000000; first | omega | (simp only [length_manyI]; omega))
   have hb3 := hide ((hb1.out.trans (hw2.mono hb1.out.size)).trans hw3)
   replace hI3 := hide hI3
   clear hw2 hw3 hI2 hM2 hc2
   have hcz := bcell' hb3.out
   have hIz := hide (show ItS _ wb.heap.size B _ (PRE ++ eachI 1 (p.headers.take (k + 1)) (fun i h => manyI 2 i h.fields.length)) from by
    rw [hst'.out, ← List.append_assoc, hM.out]
    have := hI3.out
    try simp only [List.append_assoc, List.singleton_append, List.cons_append, List.nil_append] at this ⊢
    exact this)
   have hbz := hb3
   clear hst'
   go_wp2
   go_roundw
   case rel => exact ⟨k + 1, by omega, by go_num, hIz, hbz⟩
   case measure => simp [intOf]; omega
  ·have hR0 := hide (show ItS wr wb.heap.size B _ (PRE ++ headsI p) from by have := hR.out; rw [List.take_of_length_le (by omega)] at this; exact this)
   have hbr0 := hbr
   clear hR hbr
   go_wp2
   clear hlt hk
   have hpre1 := hide (show (PRE ++ headsI p).length = 0 + (headsI p).length from by rw [List.length_append, hpre.out]; try omega)
   have hfold1 := hide (hfold.out.trans (List.append_assoc PRE (headsI p) _).symm)
   clear hpre hfold
   have hpre := hpre1
   have hfold := hfold1
   clear hpre1 hfold1
   generalize PRE ++ headsI p = PRE at hR0 hpre hfold
   generalize k = k0 at *
   go_loopw [3, 5] (fun v i wr => ∃ k : Nat, k ≤ p.metas.length ∧ i = .int .i64 k ∧ Hid (ItS wr wb.heap.size B v (PRE ++ eachI 3 (p.metas.take k) (fun _ _ => []))) ∧ Hid (Below wb.heap.size wb wr)) (fun _ i _ => p.metas.length - (intOf i).toNat)
   case atStart => exact ⟨0, Nat.zero_le _, rfl, hide (by rw [List.take_zero]; simpa [eachI] using hR0.out), hbr0⟩
   case round =>
    clear hR0 hbr0
    obtain ⟨k, hk, rfl, hR, hbr⟩ := hrel
    have hc := bcell' hbr.out
    by_cases hlt : k < p.metas.length
    ·have hltz : (k : Int) < (p.metas.length : Int) := by omega
     have hst := eachI_take 3 p.metas (fun _ _ => []) hlt
     have hle := eachI_le 3 p.metas (fun _ _ => []) (k + 1)
     rw [hst, List.length_append, List.length_cons] at hle
     change _ ≤ (metasI p).length at hle
     have hpl := hpre.out
     try simp only [List.length_nil] at hle
     have hst' := hide hst
     have hq : (PRE ++ eachI 3 (p.metas.take k) (fun _ _ => [])).length ≤ 100000000 - 1 - (0) := by
      rw [List.length_append]
      omega
     clear hst
     generalize eachI 3 (p.metas.take k) (fun _ _ => []) = E at *
     generalize hM : PRE ++ E = M at hR hq
     replace hM := hide hM
     obtain ⟨v1, w1, hr1, hI1, hw1⟩ := append_zit 3 (k : Int) 0 hR.out hBb hbr.out.size (by show _ ≤ 100000000; first | omega | (simp only [List.length_append, List.length_singleton, length_manyI]; omega))
     have hb1 := hide (hbr.out.trans hw1)
     replace hI1 := hide hI1
     clear hw1
     have hcz := bcell' hb1.out
     have hIz := hide (show ItS _ wb.heap.size B _ (PRE ++ eachI 3 (p.metas.take (k + 1)) (fun _ _ => [])) from by
      rw [hst'.out, ← List.append_assoc, hM.out]
      have := hI1.out
      try simp only [List.append_assoc, List.singleton_append, List.cons_append, List.nil_append] at this ⊢
      exact this)
     have hbz := hb1
     clear hst'
     go_wp2
     go_roundw
     case rel => exact ⟨k + 1, by omega, by go_num, hIz, hbz⟩
     case measure => simp [intOf]; omega
    ·have hR0 := hide (show ItS wr wb.heap.size B _ (PRE ++ metasI p) from by have := hR.out; rw [List.take_of_length_le (by omega)] at this; exact this)
     have hbr0 := hbr
     clear hR hbr
     go_wp2
     clear hlt hk
     have hpre1 := hide (show (PRE ++ metasI p).length = (headsI p).length + (metasI p).length from by rw [List.length_append, hpre.out]; try omega)
     have hfold1 := hide (hfold.out.trans (List.append_assoc PRE (metasI p) _).symm)
     clear hpre hfold
     have hpre := hpre1
     have hfold := hfold1
     clear hpre1 hfold1
     generalize PRE ++ metasI p = PRE at hR0 hpre hfold
     generalize k = k1 at *
     go_loopw [3, 6] (fun v i wr => ∃ k : Nat, k ≤ p.states.length ∧ i = .int .i64 k ∧ Hid (ItS wr wb.heap.size B v (PRE ++ eachI 4 (p.states.take k) (fun i s => manyI 5 i s.takes.length ++ (⟨6, (i : Int), 0, zSt⟩ :: manyI 7 i s.cases_.length)))) ∧ Hid (Below wb.heap.size wb wr)) (fun _ i _ => p.states.length - (intOf i).toNat)
     case atStart => exact ⟨0, Nat.zero_le _, rfl, hide (by rw [List.take_zero]; simpa [eachI] using hR0.out), hbr0⟩
     case round =>
      clear hR0 hbr0
      obtain ⟨k, hk, rfl, hR, hbr⟩ := hrel
      have hc := bcell' hbr.out
      by_cases hlt : k < p.states.length
      ·have hltz : (k : Int) < (p.states.length : Int) := by omega
       have hst := eachI_take 4 p.states (fun i s => manyI 5 i s.takes.length ++ (⟨6, (i : Int), 0, zSt⟩ :: manyI 7 i s.cases_.length)) hlt
       have hle := eachI_le 4 p.states (fun i s => manyI 5 i s.takes.length ++ (⟨6, (i : Int), 0, zSt⟩ :: manyI 7 i s.cases_.length)) (k + 1)
       rw [hst, List.length_append, List.length_cons] at hle
       change _ ≤ (statesI p).length at hle
       have hpl := hpre.out
       obtain ⟨b, o, ecs, hA, hb, hel, hcell, B1, d1, B2, d2, B3, d3, rfl, hn, hd, hF, hG, hH⟩ := hP2.out.states.2 k _ (List.getElem?_eq_getElem hlt)
       have hAs := hA
       subst hA
       obtain ⟨x0, x1, x2, x3, x4⟩ := srow5 hcell
       have hbw : b < wb.heap.size := by omega
       have m0 := hF.len
       have m1 := hG.len
       have m2 := hH.len
       try simp only [List.length_append, List.length_cons, length_manyI] at hle
       have hst' := hide hst
       have hq : (PRE ++ eachI 4 (p.states.take k) (fun i s => manyI 5 i s.takes.length ++ (⟨6, (i : Int), 0, zSt⟩ :: manyI 7 i s.cases_.length))).length ≤ 100000000 - 1 - (p.states[k].takes.length + p.states[k].cases_.length + 1) := by
        rw [List.length_append]
        omega
       clear hst hcell
       generalize eachI 4 (p.states.take k) (fun i s => manyI 5 i s.takes.length ++ (⟨6, (i : Int), 0, zSt⟩ :: manyI 7 i s.cases_.length)) = E at *
       generalize hM : PRE ++ E = M at hR hq
       replace hM := hide hM
       clear hF hG hH
       obtain ⟨v1, w1, hr1, hI1, hw1⟩ := append_zit 4 (k : Int) 0 hR.out hBb hbr.out.size (by show _ ≤ 100000000; first | omega | (simp only [List.length_append, List.length_singleton, length_manyI]; omega))
       have hb1 := hide (hbr.out.trans hw1)
       replace hI1 := hide hI1
       clear hw1
       have hM2 := hide (many07_any 5 k p.states[k].takes.length B _ (Nat.le_trans hBb hb1.out.size) (by show _ ≤ 100000000; omega))
       have hc2 := bcell' hb1.out
       go_wp2_with fail
       refine hM2.out.mono ?_
       rintro _ w2 ⟨v2, rfl, hI2, hw2⟩
       obtain ⟨v3, w3, hr3, hI3, hw3⟩ := append_its (hI1.out.below hw2 (Nat.le_refl _) (Nat.le_trans hBb hb1.out.size)) hI2 hBb (Nat.le_trans hb1.out.size hw2.size) (by show _ ≤ 100000000; first | omega | (simp only [List.length_append, List.length_singleton, length_manyI]; omega)) (by show _ ≤ 100000000; first | omega | (simp only [length_manyI]; omega))
       have hb3 := hide ((hb1.out.trans (hw2.mono hb1.out.size)).trans hw3)
       replace hI3 := hide hI3
       clear hw2 hw3 hI2 hM2 hc2
       obtain ⟨v4, w4, hr4, hI4, hw4⟩ := append_zit 6 (k : Int) 0 hI3.out hBb hb3.out.size (by show _ ≤ 100000000; first | omega | (simp only [List.length_append, List.length_singleton, length_manyI]; omega))
       have hb4 := hide (hb3.out.trans hw4)
       replace hI4 := hide hI4
       clear hw4
       have hM5 := hide (many07_any 7 k p.states[k].cases_.length B _ (Nat.le_trans hBb hb4.out.size) (by show _ ≤ 100000000; omega))
       have hc5 := bcell' hb4.out
       go_wp2_with fail
       refine hM5.out.mono ?_
       rintro _ w5 ⟨v5, rfl, hI5, hw5⟩
       obtain ⟨v6, w6, hr6, hI6, hw6⟩ := append_its (hI4.out.below hw5 (Nat.le_refl _) (Nat.le_trans hBb hb4.out.size)) hI5 hBb (Nat.le_trans hb4.out.size hw5.size) (by show _ ≤ 100000000; first | omega | (simp only [List.length_append, List.length_singleton, length_manyI]; omega)) (by show _ ≤ 100000000; first | omega | (simp only [length_manyI]; omega))
       have hb6 := hide ((hb4.out.trans (hw5.mono hb4.out.size)).trans hw6)
       replace hI6 := hide hI6
       clear hw5 hw6 hI5 hM5 hc5
       have hcz := bcell' hb6.out
       have hIz := hide (show ItS _ wb.heap.size B _ (PRE ++ eachI 4 (p.states.take (k + 1)) (fun i s => manyI 5 i s.takes.length ++ (⟨6, (i : Int), 0, zSt⟩ :: manyI 7 i s.cases_.length))) from by
        rw [hst'.out, ← List.append_assoc, hM.out]
        have := hI6.out
        try simp only [List.append_assoc, List.singleton_append, List.cons_append, List.nil_append] at this ⊢
        exact this)
       have hbz := hb6
       clear hst'
       go_wp2
       go_roundw
       case rel => exact ⟨k + 1, by omega, by go_num, hIz, hbz⟩
       case measure => simp [intOf]; omega
      ·have hR0 := hide (show ItS wr wb.heap.size B _ (PRE ++ statesI p) from by have := hR.out; rw [List.take_of_length_le (by omega)] at this; exact this)
       have hbr0 := hbr
       clear hR hbr
       go_wp2
       clear hlt hk
       have hpre1 := hide (show (PRE ++ statesI p).length = (headsI p).length + (metasI p).length + (statesI p).length from by rw [List.length_append, hpre.out]; try omega)
       have hfold1 := hide (hfold.out.trans (List.append_assoc PRE (statesI p) _).symm)
       clear hpre hfold
       have hpre := hpre1
       have hfold := hfold1
       clear hpre1 hfold1
       generalize PRE ++ statesI p = PRE at hR0 hpre hfold
       generalize k = k2 at *
       go_loopw [3, 7] (fun v i wr => ∃ k : Nat, k ≤ p.actions.length ∧ i = .int .i64 k ∧ Hid (ItS wr wb.heap.size B v (PRE ++ eachI 8 (p.actions.take k) (fun i a => manyI 9 i a.params.length ++ itemsL i a.body))) ∧ Hid (Below wb.heap.size wb wr)) (fun _ i _ => p.actions.length - (intOf i).toNat)
       case atStart => exact ⟨0, Nat.zero_le _, rfl, hide (by rw [List.take_zero]; simpa [eachI] using hR0.out), hbr0⟩
       case round =>
        clear hR0 hbr0
        obtain ⟨k, hk, rfl, hR, hbr⟩ := hrel
        have hc := bcell' hbr.out
        by_cases hlt : k < p.actions.length
        ·have hltz : (k : Int) < (p.actions.length : Int) := by omega
         have hst := eachI_take 8 p.actions (fun i a => manyI 9 i a.params.length ++ itemsL i a.body) hlt
         have hle := eachI_le 8 p.actions (fun i a => manyI 9 i a.params.length ++ itemsL i a.body) (k + 1)
         rw [hst, List.length_append, List.length_cons] at hle
         change _ ≤ (actsI p).length at hle
         have hpl := hpre.out
         obtain ⟨b, o, ecs, hA, hb, hel, hcell, B1, d1, B2, d2, rfl, hn, hF, hG⟩ := hP2.out.actions.2 k _ (List.getElem?_eq_getElem hlt)
         have hAs := hA
         subst hA
         obtain ⟨x0, x1, x2⟩ := srow3 hcell
         have hbw : b < wb.heap.size := by omega
         have m0 := hF.len
         have m1 := hG.len
         have hSt := hide hG
         try simp only [List.length_append, length_manyI] at hle
         have hst' := hide hst
         have hq : (PRE ++ eachI 8 (p.actions.take k) (fun i a => manyI 9 i a.params.length ++ itemsL i a.body)).length ≤ 100000000 - 1 - (p.actions[k].params.length + (itemsL k p.actions[k].body).length) := by
          rw [List.length_append]
          omega
         clear hst hcell
         generalize eachI 8 (p.actions.take k) (fun i a => manyI 9 i a.params.length ++ itemsL i a.body) = E at *
         generalize hM : PRE ++ E = M at hR hq
         replace hM := hide hM
         clear hF hG
         obtain ⟨v1, w1, hr1, hI1, hw1⟩ := append_zit 8 (k : Int) 0 hR.out hBb hbr.out.size (by show _ ≤ 100000000; first | omega | (simp only [List.length_append, List.length_singleton, length_manyI]; omega))
         have hb1 := hide (hbr.out.trans hw1)
         replace hI1 := hide hI1
         clear hw1
         have hM2 := hide (many07_any 9 k p.actions[k].params.length B _ (Nat.le_trans hBb hb1.out.size) (by show _ ≤ 100000000; omega))
         have hc2 := bcell' hb1.out
         go_wp2_with fail
         refine hM2.out.mono ?_
         rintro _ w2 ⟨v2, rfl, hI2, hw2⟩
         obtain ⟨v3, w3, hr3, hI3, hw3⟩ := append_its (hI1.out.below hw2 (Nat.le_refl _) (Nat.le_trans hBb hb1.out.size)) hI2 hBb (Nat.le_trans hb1.out.size hw2.size) (by show _ ≤ 100000000; first | omega | (simp only [List.length_append, List.length_singleton, length_manyI]; omega)) (by show _ ≤ 100000000; first | omega | (simp only [length_manyI]; omega))
         have hb3 := hide ((hb1.out.trans (hw2.mono hb1.out.size)).trans hw3)
         replace hI3 := hide hI3
         clear hw2 hw3 hI2 hM2 hc2
         have hM4 := hide (stmts07_any p.actions[k].body (k : Int) _ d2 _ B (Nat.le_trans hBb hb3.out.size) (hSt.out.below sta_st (hb3.out.mono hBb)) (by show _ ≤ 100000000; omega))
         have hc4 := bcell' hb3.out
         go_wp2_with fail
         refine hM4.out.mono ?_
         rintro _ w4 ⟨v4, rfl, hI4, hw4⟩
         obtain ⟨v5, w5, hr5, hI5, hw5⟩ := append_its (hI3.out.below hw4 (Nat.le_refl _) (Nat.le_trans hBb hb3.out.size)) hI4 hBb (Nat.le_trans hb3.out.size hw4.size) (by show _ ≤ 100000000; first | omega | (simp only [List.length_append, List.length_singleton, length_manyI]; omega)) (by show _ ≤ 100000000; first | omega | (simp only [length_manyI]; omega))
         have hb5 := hide ((hb3.out.trans (hw4.mono hb3.out.size)).trans hw5)
         replace hI5 := hide hI5
         clear hw4 hw5 hI4 hM4 hc4
         have hcz := bcell' hb5.out
         have hIz := hide (show ItS _ wb.heap.size B _ (PRE ++ eachI 8 (p.actions.take (k + 1)) (fun i a => manyI 9 i a.params.length ++ itemsL i a.body)) from by
          rw [hst'.out, ← List.append_assoc, hM.out]
          have := hI5.out
          try simp only [List.append_assoc, List.singleton_append, List.cons_append, List.nil_append] at this ⊢
          exact this)
         have hbz := hb5
         clear hst'
         go_wp2
         go_roundw
         case rel => exact ⟨k + 1, by omega, by go_num, hIz, hbz⟩
         case measure => simp [intOf]; omega
        ·have hR0 := hide (show ItS wr wb.heap.size B _ (PRE ++ actsI p) from by have := hR.out; rw [List.take_of_length_le (by omega)] at this; exact this)
         have hbr0 := hbr
         clear hR hbr
         go_wp2
         clear hlt hk
         have hpre1 := hide (show (PRE ++ actsI p).length = (headsI p).length + (metasI p).length + (statesI p).length + (actsI p).length from by rw [List.length_append, hpre.out]; try omega)
         have hfold1 := hide (hfold.out.trans (List.append_assoc PRE (actsI p) _).symm)
         clear hpre hfold
         have hpre := hpre1
         have hfold := hfold1
         clear hpre1 hfold1
         generalize PRE ++ actsI p = PRE at hR0 hpre hfold
         generalize k = k3 at *
         go_loopw [3, 8] (fun v i wr => ∃ k : Nat, k ≤ p.tables.length ∧ i = .int .i64 k ∧ Hid (ItS wr wb.heap.size B v (PRE ++ eachI 11 (p.tables.take k) (fun i t => manyI 12 i t.keys.length ++ (manyI 13 i t.actions.length ++ [⟨14, (i : Int), 0, zSt⟩])))) ∧ Hid (Below wb.heap.size wb wr)) (fun _ i _ => p.tables.length - (intOf i).toNat)
         case atStart => exact ⟨0, Nat.zero_le _, rfl, hide (by rw [List.take_zero]; simpa [eachI] using hR0.out), hbr0⟩
         case round =>
          clear hR0 hbr0
          obtain ⟨k, hk, rfl, hR, hbr⟩ := hrel
          have hc := bcell' hbr.out
          by_cases hlt : k < p.tables.length
          ·have hltz : (k : Int) < (p.tables.length : Int) := by omega
           have hst := eachI_take 11 p.tables (fun i t => manyI 12 i t.keys.length ++ (manyI 13 i t.actions.length ++ [⟨14, (i : Int), 0, zSt⟩])) hlt
           have hle := eachI_le 11 p.tables (fun i t => manyI 12 i t.keys.length ++ (manyI 13 i t.actions.length ++ [⟨14, (i : Int), 0, zSt⟩])) (k + 1)
           rw [hst, List.length_append, List.length_cons] at hle
           change _ ≤ (tabsI p).length at hle
           have hpl := hpre.out
           obtain ⟨b, o, ecs, hA, hb, hel, hcell, B1, d1, B2, d2, B3, d3, rfl, hn, hd, hF, hG, hH⟩ := hP2.out.tables.2 k _ (List.getElem?_eq_getElem hlt)
           have hAs := hA
           subst hA
           obtain ⟨x0, x1, x2, x3, x4⟩ := srow5 hcell
           have hbw : b < wb.heap.size := by omega
           have m0 := hF.len
           have m1 := hG.len
           have m2 := hH.len
           try simp only [List.length_append, List.length_singleton, length_manyI] at hle
           have hst' := hide hst
           have hq : (PRE ++ eachI 11 (p.tables.take k) (fun i t => manyI 12 i t.keys.length ++ (manyI 13 i t.actions.length ++ [⟨14, (i : Int), 0, zSt⟩]))).length ≤ 100000000 - 1 - (p.tables[k].keys.length + p.tables[k].actions.length + 1) := by
            rw [List.length_append]
            omega
           clear hst hcell
           generalize eachI 11 (p.tables.take k) (fun i t => manyI 12 i t.keys.length ++ (manyI 13 i t.actions.length ++ [⟨14, (i : Int), 0, zSt⟩])) = E at *
           generalize hM : PRE ++ E = M at hR hq
           replace hM := hide hM
           clear hF hG hH
           obtain ⟨v1, w1, hr1, hI1, hw1⟩ := append_zit 11 (k : Int) 0 hR.out hBb hbr.out.size (by show _ ≤ 100000000; first | omega | (simp only [List.length_append, List.length_singleton, length_manyI]; omega))
           have hb1 := hide (hbr.out.trans hw1)
           replace hI1 := hide hI1
           clear hw1
           have hM2 := hide (many07_any 12 k p.tables[k].keys.length B _ (Nat.le_trans hBb hb1.out.size) (by show _ ≤ 100000000; omega))
           have hc2 := bcell' hb1.out
           go_wp2_with fail
           refine hM2.out.mono ?_
           rintro _ w2 ⟨v2, rfl, hI2, hw2⟩
           obtain ⟨v3, w3, hr3, hI3, hw3⟩ := append_its (hI1.out.below hw2 (Nat.le_refl _) (Nat.le_trans hBb hb1.out.size)) hI2 hBb (Nat.le_trans hb1.out.size hw2.size) (by show _ ≤ 100000000; first | omega | (simp only [List.length_append, List.length_singleton, length_manyI]; omega)) (by show _ ≤ 100000000; first | omega | (simp only [length_manyI]; omega))
           have hb3 := hide ((hb1.out.trans (hw2.mono hb1.out.size)).trans hw3)
           replace hI3 := hide hI3
           clear hw2 hw3 hI2 hM2 hc2
           have hM4 := hide (many07_any 13 k p.tables[k].actions.length B _ (Nat.le_trans hBb hb3.out.size) (by show _ ≤ 100000000; omega))
           have hc4 := bcell' hb3.out
           go_wp2_with fail
           refine hM4.out.mono ?_
           rintro _ w4 ⟨v4, rfl, hI4, hw4⟩
           obtain ⟨v5, w5, hr5, hI5, hw5⟩ := append_its (hI3.out.below hw4 (Nat.le_refl _) (Nat.le_trans hBb hb3.out.size)) hI4 hBb (Nat.le_trans hb3.out.size hw4.size) (by show _ ≤ 100000000; first | omega | (simp only [List.length_append, List.length_singleton, length_manyI]; omega)) (by show _ ≤ 100000000; first | omega | (simp only [length_manyI]; omega))
           have hb5 := hide ((hb3.out.trans (hw4.mono hb3.out.size)).trans hw5)
           replace hI5 := hide hI5
           clear hw4 hw5 hI4 hM4 hc4
           obtain ⟨v6, w6, hr6, hI6, hw6⟩ := append_zit 14 (k : Int) 0 hI5.out hBb hb5.out.size (by show _ ≤ 100000000; first | omega | (simp only [List.length_append, List.length_singleton, length_manyI]; omega))
           have hb6 := hide (hb5.out.trans hw6)
           replace hI6 := hide hI6
           clear hw6
           have hcz := bcell' hb6.out
           have hIz := hide (show ItS _ wb.heap.size B _ (PRE ++ eachI 11 (p.tables.take (k + 1)) (fun i t => manyI 12 i t.keys.length ++ (manyI 13 i t.actions.length ++ [⟨14, (i : Int), 0, zSt⟩]))) from by
            rw [hst'.out, ← List.append_assoc, hM.out]
            have := hI6.out
            try simp only [List.append_assoc, List.singleton_append, List.cons_append, List.nil_append] at this ⊢
            exact this)
           have hbz := hb6
           clear hst'
           go_wp2
           go_roundw
           case rel => exact ⟨k + 1, by omega, by go_num, hIz, hbz⟩
           case measure => simp [intOf]; omega
          ·have hR0 := hide (show ItS wr wb.heap.size B _ (PRE ++ tabsI p) from by have := hR.out; rw [List.take_of_length_le (by omega)] at this; exact this)
           have hbr0 := hbr
           clear hR hbr
           go_wp2_with fail
           clear hlt hk
           have hpre1 := hide (show (PRE ++ tabsI p).length = (headsI p).length + (metasI p).length + (statesI p).length + (actsI p).length + (tabsI p).length from by rw [List.length_append, hpre.out]; try omega)
           have hfold1 := hide (hfold.out.trans (List.append_assoc PRE (tabsI p) _).symm)
           clear hpre hfold
           have hpre := hpre1
           have hfold := hfold1
           clear hpre1 hfold1
           generalize PRE ++ tabsI p = PRE at hR0 hpre hfold
           generalize k = k4 at *
           have hSt := hide hP2.out.control
           have hpl := hpre.out
           have hM1 := hide (stmts07_any p.control (-1) _ c6 _ B (Nat.le_trans hBb hbr0.out.size) (hSt.out.below sta_st (hbr0.out.mono hBb)) (by show _ ≤ 100000000; omega))
           have hc1 := bcell' hbr0.out
           refine hM1.out.mono ?_
           rintro _ w1 ⟨v1, rfl, hI1, hw1⟩
           obtain ⟨v2, w2, hr2, hI2, hw2⟩ := append_its (hR0.out.below hw1 (Nat.le_refl _) (Nat.le_trans hBb hbr0.out.size)) hI1 hBb (Nat.le_trans hbr0.out.size hw1.size) (by show _ ≤ 100000000; first | omega | (simp only [List.length_append, List.length_singleton, length_manyI]; omega)) (by show _ ≤ 100000000; first | omega | (simp only [length_manyI]; omega))
           have hb2 := hide ((hbr0.out.trans (hw1.mono hbr0.out.size)).trans hw2)
           replace hI2 := hide hI2
           clear hw1 hw2 hI1 hM1 hc1
           have hcz := bcell' hb2.out
           have hR0 := hI2
           have hbr0 := hb2
           replace hpre := hide (show _ = _ from (by rw [List.length_append, hpre.out] : (PRE ++ itemsL (-1) p.control).length = _))
           have hpre2 := hide (hfold.out.trans (List.append_assoc PRE (itemsL (-1) p.control) _).symm)
           replace hfold := hpre2
           clear hpre2 hSt hI2 hb2 hcz
           generalize PRE ++ itemsL (-1) p.control = PRE at hR0 hpre hfold
           go_wp2
           go_loopw [3, 9] (fun v i wr => ∃ k : Nat, k ≤ p.emit.length ∧ i = .int .i64 k ∧ Hid (ItS wr wb.heap.size B v (PRE ++ eachI 15 (p.emit.take k) (fun _ _ => []))) ∧ Hid (Below wb.heap.size wb wr)) (fun _ i _ => p.emit.length - (intOf i).toNat)
           case atStart => exact ⟨0, Nat.zero_le _, rfl, hide (by rw [List.take_zero]; simpa [eachI] using hR0.out), hbr0⟩
           case round =>
            clear hR0 hbr0
            obtain ⟨k, hk, rfl, hR, hbr⟩ := hrel
            have hc := bcell' hbr.out
            by_cases hlt : k < p.emit.length
            ·have hltz : (k : Int) < (p.emit.length : Int) := by omega
             have hst := eachI_take 15 p.emit (fun _ _ => []) hlt
             have hle := eachI_le 15 p.emit (fun _ _ => []) (k + 1)
             rw [hst, List.length_append, List.length_cons] at hle
             change _ ≤ (emitsI p).length at hle
             have hpl := hpre.out
             try simp only [List.length_nil] at hle
             have hst' := hide hst
             have hq : (PRE ++ eachI 15 (p.emit.take k) (fun _ _ => [])).length ≤ 100000000 - 1 - (0) := by
              rw [List.length_append]
              omega
             clear hst
             generalize eachI 15 (p.emit.take k) (fun _ _ => []) = E at *
             generalize hM : PRE ++ E = M at hR hq
             replace hM := hide hM
             obtain ⟨v1, w1, hr1, hI1, hw1⟩ := append_zit 15 (k : Int) 0 hR.out hBb hbr.out.size (by show _ ≤ 100000000; first | omega | (simp only [List.length_append, List.length_singleton, length_manyI]; omega))
             have hb1 := hide (hbr.out.trans hw1)
             replace hI1 := hide hI1
             clear hw1
             have hcz := bcell' hb1.out
             have hIz := hide (show ItS _ wb.heap.size B _ (PRE ++ eachI 15 (p.emit.take (k + 1)) (fun _ _ => [])) from by
              rw [hst'.out, ← List.append_assoc, hM.out]
              have := hI1.out
              try simp only [List.append_assoc, List.singleton_append, List.cons_append, List.nil_append] at this ⊢
              exact this)
             have hbz := hb1
             clear hst'
             go_wp2
             go_roundw
             case rel => exact ⟨k + 1, by omega, by go_num, hIz, hbz⟩
             case measure => simp [intOf]; omega
            ·have hR0 := hide (show ItS wr wb.heap.size B _ (PRE ++ emitsI p) from by have := hR.out; rw [List.take_of_length_le (by omega)] at this; exact this)
             have hbr0 := hbr
             have hz := hBk.out _ hbr.out
             go_wp2
             go_ret
             exact ⟨_, rfl, by rw [hfin.out, hfold.out]; exact hR0.out.base_ hbs, hz⟩
end Go.Proofs.YtbbdhknagofghaaGreat
