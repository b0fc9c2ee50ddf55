import Derived.Test.YtmfpbahifhndjaaGreatLow25
set_option linter.all false
/-! Layer 4: MayExpr's closure, the walk. -/
namespace Go.Proofs.YtmfpbahifhndjaaGreat
open Go.RowKit
theorem form_lit {op : Int} {a b e : Bool} {n : Int} (h : formOf op = some ((a, b, true, e), n)) : op = 1 ∧ e = false := by
 unfold formOf at h
 repeat (split at h; · simp at h; try (first | exact ⟨by assumption, h.2.2.1⟩ | omega | simp_all))
 cases h
theorem form_ends {op : Int} {a b c : Bool} {n : Int} (h : formOf op = some ((a, b, c, true), n)) : op = 10 := by
 unfold formOf at h
 repeat (split at h; · simp at h; try (first | assumption | omega | simp_all))
 cases h
theorem form_two {op : Int} {f : Bool × Bool × Bool × Bool} {n : Int} (h : formOf op = some (f, n)) (ho : op = 14 ∨ op = 15) : n = 2 := by
 unfold formOf at h
 rcases ho with rfl | rfl <;> simp at h <;> exact h.2.symm
theorem mayN_none {op : Int} {lit : Lt} {head name : ByteArray} {hi lo : Int} {args : List Ex} (n : Nat) (h : oneB op lit head name hi lo args.length = false) : mayN (.mk op lit head name hi lo args) n = false := by
 cases n with
 | zero => exact mayN_zero _
 | succ n => rw [mayN_succ, h]; rfl
set_option maxRecDepth 200000 in
set_option maxHeartbeats 8000000 in
theorem may1_of {bk bf bm : Nat} {m : Int} {B : Nat} (op : Int) (lit : Lt) (head name : ByteArray) (hi lo : Int) (args : List Ex) (ih : ∀ x ∈ args, MayIs bk bf bm m B x) : MayIs bk bf bm m B (.mk op lit head name hi lo args) := by
 intro cs w n hn hB hK he
 obtain ⟨A, cap, rfl, -, hlit, hhd, hnm, -, -, hs⟩ := RE.inv he
 have hla := hs.len
 obtain ⟨wa, hwa, hsa, hba, hca, -⟩ := box1 w #[.int .u8 op, .int .i64 lit.1, .int .u64 lit.2.1, .int .u64 lit.2.2, .string head, .string name, .int .i64 hi, .int .i64 lo, .slice A args.length cap] 65
 obtain ⟨wb, hwb, hsb, hbb, hcb, -⟩ := box1 wa #[.int .i64 (n : Int)] 3
 have hw := hba.trans (hbb.mono (by omega))
 have q : ∀ i, wb.cell? ⟨w.heap.size, i, none⟩ = wa.cell? ⟨w.heap.size, i, none⟩ := fun i => hbb.cell (p := ⟨w.heap.size, i, none⟩) (by show w.heap.size < _; omega)
 have hqa : ∀ i, wb.cell? ⟨w.heap.size, i, none⟩ = (#[.int .u8 op, .int .i64 lit.1, .int .u64 lit.2.1, .int .u64 lit.2.2, .string head, .string name, .int .i64 hi, .int .i64 lo, .slice A args.length cap] : Array Value)[i]? := fun i => (q i).trans (hca i)
 simp only [hsa] at hcb
 have n0 : wb.cell? ⟨w.heap.size + 1, 0, none⟩ = some (.int .i64 (n : Int)) := hcb 0
 have hKb := hK.below (hw.mono hB)
 have hSb := hs.below sta_ex (hw.mono hB)
 have hl1 : w.heap.size < wb.heap.size := by omega
 have hl2 : w.heap.size + 1 < wb.heap.size := by omega
 have hz2 : w.heap.size + 2 ≤ wb.heap.size := by omega
 have hlk := run_lookupF hKb.mp op
 have hr := lookF_rows op
 have k0 := hKb.k
 show Calls _ _ #[.agg #[.int .u8 op, .int .i64 lit.1, .int .u64 lit.2.1, .int .u64 lit.2.2, .string head, .string name, .int .i64 hi, .int .i64 lo, .slice A args.length cap], .int .i64 (n : Int), .pointer (some ⟨bk, 0, none⟩), .pointer (some ⟨bf, 0, none⟩)] _ _
 have hw' := hide hw
 replace hsb := hide hsb
 cases hf : formOf op with
 | none =>
  rw [hf] at hr
  have hv := hide (mayN_none (op := op) (lit := lit) (head := head) (name := name) (hi := hi) (lo := lo) (args := args) n (by unfold oneB; rw [hf]))
  generalize lookF (formRows 26) op = L at hlk hr
  cases L with
  | some y => cases hr
  | none =>
   replace hlk : (Instr.lookup 158 (.map (some bm)) (.int .u8 op) true).run Tryz.prog wb = .ok (.tuple #[.agg #[.bool false, .bool false, .bool false, .bool false, .int .i64 0], .bool false]) wb := hlk
   obtain ⟨y0, y1, y2, y3, y4, y5, y6, y7, y8⟩ := row9 hqa
   clear hca hcb hqa q hba hbb hK he hs ih hw hKb hSb hr hf
   go_enter Tryz.func98, Tryz.ntmps98
   go_wp2
   go_ret
   exact ⟨ret_b hv.out.symm, hw'.out.alloc (by omega) _⟩
 | some f =>
  rw [hf] at hr
  obtain ⟨⟨fh, fn, fl, fe⟩, fa⟩ := f
  generalize lookF (formRows 26) op = L at hlk hr
  cases L with
  | none => cases hr
  | some y =>
   obtain ⟨y0, y1⟩ := y
   injection hr with hr
   subst hr
   replace hlk : (Instr.lookup 158 (.map (some bm)) (.int .u8 op) true).run Tryz.prog wb = .ok (.tuple #[.agg #[.bool fh, .bool fn, .bool fl, .bool fe, .int .i64 fa], .bool true]) wb := hlk
   obtain ⟨wc, hwc, hsc, hbc, hcc, -⟩ := box1 wb #[.bool fh, .bool fn, .bool fl, .bool fe, .int .i64 fa] 162
   have hq1 : ∀ i, wc.cell? ⟨w.heap.size, i, none⟩ = (#[.int .u8 op, .int .i64 lit.1, .int .u64 lit.2.1, .int .u64 lit.2.2, .string head, .string name, .int .i64 hi, .int .i64 lo, .slice A args.length cap] : Array Value)[i]? := fun i => (hbc.cell (p := ⟨w.heap.size, i, none⟩) (by show w.heap.size < _; omega)).trans (hqa i)
   obtain ⟨y0, y1, y2, y3, y4, y5, y6, y7, y8⟩ := row9 hqa
   obtain ⟨x0, x1, x2, x3, x4, x5, x6, x7, x8⟩ := row9 hq1
   obtain ⟨z0, z1, z2, z3, z4⟩ := row5 hcc
   have n1 : wc.cell? ⟨w.heap.size + 1, 0, none⟩ = some (.int .i64 (n : Int)) := (hbc.cell (p := ⟨w.heap.size + 1, 0, none⟩) hl2).trans n0
   have hKc := hide (hKb.below (hbc.mono (by omega)))
   have hSc := hide (hSb.below sta_ex (hbc.mono (by omega)))
   have hwC := hide (hw.trans (hbc.mono (by omega)))
   have hlc : wb.heap.size < wc.heap.size := by omega
   have hN1 := named_any head fh m wc hhd hKc.out.z
   have hN2 := named_any name fn m wc hnm hKc.out.z
   have hone := hide (show oneB op lit head name hi lo args.length = (decide ((args.length : Int) = fa) && namedB head fh && namedB name fn && (if fl then litB lit else decide (lit = zLt)) && (if fe then decide (0 ≤ lo ∧ lo ≤ hi ∧ hi < 128) else decide (hi = 0 ∧ lo = 0))) from by unfold oneB; rw [hf])
   replace hf := hide hf
   replace hsc := hide hsc
   clear hca hcb hcc hqa hq1 q hba hbb hbc hK he hs hw hKb hSb
   by_cases hn0 : n = 0
   ·have hv := hide (show mayN (.mk op lit head name hi lo args) n = false from by rw [hn0]; exact mayN_zero _)
    have hb0 : ((n : Int) == 0) = true := by rw [hn0]; rfl
    clear hn0 ih hN1 hN2
    go_enter Tryz.func98, Tryz.ntmps98
    go_wp2
    go_ret
    exact ⟨ret_b hv.out.symm, hwC.out⟩
   ·have hb0 : ((n : Int) == 0) = false := beq_eq_false_iff_ne.2 (by omega)
    by_cases ha : (args.length : Int) = fa
    ·have ha1 : ((args.length : Int) != fa) = false := by simpa using ha
     cases hh1 : namedB head fh with
     | false =>
      have hv := hide (show mayN (.mk op lit head name hi lo args) n = false from mayN_none n (by rw [hone.out, hh1]; simp))
      rw [hh1] at hN1
      replace hN1 := hide hN1
      clear hn0 ih hN2 ha hh1
      go_enter Tryz.func98, Tryz.ntmps98
      go_wp2_with (go_at_call 99; refine hN1.out.mono ?_; rintro e w' ⟨rfl, rfl⟩)
      go_ret
      exact ⟨ret_b hv.out.symm, hwC.out⟩
     | true =>
      rw [hh1] at hN1
      cases hh2 : namedB name fn with
      | false =>
       have hv := hide (show mayN (.mk op lit head name hi lo args) n = false from mayN_none n (by rw [hone.out, hh2]; simp))
       rw [hh2] at hN2
       replace hN1 := hide hN1
       replace hN2 := hide hN2
       clear hn0 ih ha hh1 hh2
       go_enter Tryz.func98, Tryz.ntmps98
       go_wp2_with (go_at_call 99; first | ((with_reducible refine hN1.out.mono ?_); rintro e w' ⟨rfl, rfl⟩) | ((with_reducible refine hN2.out.mono ?_); rintro e w' ⟨rfl, rfl⟩))
       go_ret
       exact ⟨ret_b hv.out.symm, hwC.out⟩
      | true =>
       replace hN1 := hide hN1
       rw [hh2] at hN2
       replace hN2 := hide hN2
       obtain ⟨k, hnk⟩ : ∃ k, n = k + 1 := ⟨n - 1, by omega⟩
       have hsucc := mayN_succ op lit head name hi lo args k
       rw [← hnk] at hsucc
       have hkz : (n : Int) = (k : Int) + 1 := by omega
       have hk15 : k ≤ 15 := by omega
       rw [hone.out, decide_eq_true ha, hh1, hh2] at hsucc
       simp only [Bool.true_and] at hsucc
       have hAll : ∀ wd, Below wc.heap.size wc wd → Calls Tryz.prog 103 #[.slice A args.length cap, .func (.func 104) #[] #[.pointer (some ⟨bf, 0, none⟩), .pointer (some ⟨w.heap.size + 1, 0, none⟩)]] wd fun e w' => e = .returned (.bool (args.all fun x => mayN x k)) ∧ Below wd.heap.size wd w' := fun wd hd =>
        all_Expr sta_ex 104 #[.pointer (some ⟨bf, 0, none⟩), .pointer (some ⟨w.heap.size + 1, 0, none⟩)] enters_may11 (fun x => mayN x k) A cap args wd (by have := hd.size; omega) (hSc.out.below sta_ex (hd.mono (by omega)))
         (fun i x cs W hx hbW hr hl => by
          have hbW' := hd.trans (hbW.mono hd.size)
          exact may11_any (ih x (List.mem_of_getElem? hx)) cs W k (w.heap.size + 1) hk15 (by have := hbW'.size; omega) (hKc.out.below (hbW'.mono (by omega))) hr ((hbW'.cell (p := ⟨w.heap.size + 1, 0, none⟩) (by show w.heap.size + 1 < _; omega)).trans (by rw [n1, hkz])))
       generalize (args.all fun x => mayN x k) = za at hsucc hAll
       have hAw := hide (hAll wc (Below.refl _ _))
       have hAl := hide hAll
       have ha' := hide ha
       clear ih hn0 ha hh1 hh2 hAll hnk hkz
       have hl3 : w.heap.size < wc.heap.size := by omega
       have hl4 : w.heap.size + 1 < wc.heap.size := by omega
       cases fl with
       | true =>
        obtain ⟨ho, hfe⟩ := form_lit hf.out
        subst hfe
        have ho14 : (op == 14) = false := by rw [ho]; rfl
        have ho15 : (op == 15) = false := by rw [ho]; rfl
        have hL := isLit_any lit wc hlit
        cases hlb : litB lit with
        | false =>
         rw [hlb] at hL
         replace hL := hide hL
         have hv := hide (show mayN (.mk op lit head name hi lo args) n = false from by rw [hsucc, hlb]; simp)
         clear hsucc hlb ho hAw hAl
         go_enter Tryz.func98, Tryz.ntmps98
         go_wp2_with (first | (go_at_call 99; first | ((with_reducible refine hN1.out.mono ?_); rintro e w' ⟨rfl, rfl⟩) | ((with_reducible refine hN2.out.mono ?_); rintro e w' ⟨rfl, rfl⟩)) | (go_at_call 100; refine hL.out.mono ?_; rintro e w5 ⟨rfl, hb5⟩))
         go_ret
         exact ⟨ret_b hv.out.symm, hwC.out.trans (hb5.mono (by omega))⟩
        | true =>
         rw [hlb] at hL
         replace hL := hide hL
         by_cases e1 : hi = 0
         ·have q1 : (hi != 0) = false := by simpa using e1
          by_cases e2 : lo = 0
          ·have q2 : (lo != 0) = false := by simpa using e2
           have hv := hide (show mayN (.mk op lit head name hi lo args) n = za from by rw [hsucc]; simp [e1, e2, hlb, shB, ho])
           clear hsucc hlb ho
           clear e1 e2
           go_enter Tryz.func98, Tryz.ntmps98
           go_wp2_with (first | (go_at_call 99; first | ((with_reducible refine hN1.out.mono ?_); rintro e w' ⟨rfl, rfl⟩) | ((with_reducible refine hN2.out.mono ?_); rintro e w' ⟨rfl, rfl⟩)) | (go_at_call 100; refine hL.out.mono ?_; rintro e w5 ⟨rfl, hb5⟩; have hc5 := bcell' hb5) | (go_at_call 103; refine (hAl.out w5 hb5).mono ?_; rintro e w9 ⟨rfl, hb9⟩))
           go_ret
           exact ⟨ret_b hv.out.symm, (hwC.out.trans (hb5.mono (by omega))).trans (hb9.mono (by have := hb5.size; omega))⟩
          ·have q2 : (lo != 0) = true := by simpa using e2
           have hv := hide (show mayN (.mk op lit head name hi lo args) n = false from by rw [hsucc]; simp [e2])
           clear hsucc hlb ho
           clear e1 e2
           go_enter Tryz.func98, Tryz.ntmps98
           go_wp2_with (first | (go_at_call 99; first | ((with_reducible refine hN1.out.mono ?_); rintro e w' ⟨rfl, rfl⟩) | ((with_reducible refine hN2.out.mono ?_); rintro e w' ⟨rfl, rfl⟩)) | (go_at_call 100; refine hL.out.mono ?_; rintro e w5 ⟨rfl, hb5⟩; have hc5 := bcell' hb5))
           go_ret
           exact ⟨ret_b hv.out.symm, hwC.out.trans (hb5.mono (by omega))⟩
         ·have q1 : (hi != 0) = true := by simpa using e1
          have hv := hide (show mayN (.mk op lit head name hi lo args) n = false from by rw [hsucc]; simp [e1])
          clear hsucc hlb ho
          clear e1
          go_enter Tryz.func98, Tryz.ntmps98
          go_wp2_with (first | (go_at_call 99; first | ((with_reducible refine hN1.out.mono ?_); rintro e w' ⟨rfl, rfl⟩) | ((with_reducible refine hN2.out.mono ?_); rintro e w' ⟨rfl, rfl⟩)) | (go_at_call 100; refine hL.out.mono ?_; rintro e w5 ⟨rfl, hb5⟩; have hc5 := bcell' hb5))
          go_ret
          exact ⟨ret_b hv.out.symm, hwC.out.trans (hb5.mono (by omega))⟩
       | false =>
        by_cases hzz : lit = zLt
        ·obtain ⟨p1, p2, p3⟩ : lit.1 = 0 ∧ lit.2.1 = 0 ∧ lit.2.2 = 0 := by rw [hzz]; exact ⟨rfl, rfl, rfl⟩
         replace p1 := eq_true p1
         replace p2 := eq_true p2
         replace p3 := eq_true p3
         cases fe with
         | true =>
          have ho := form_ends hf.out
          have ho14 : (op == 14) = false := by rw [ho]; rfl
          have ho15 : (op == 15) = false := by rw [ho]; rfl
          have hs1 : shB op args = true := by simp [shB, ho]
          by_cases e1 : lo < 0
          ·have hx : ¬ 0 ≤ lo := by omega
           have hv := hide (show mayN (.mk op lit head name hi lo args) n = false from by rw [hsucc]; simp [hx])
           clear hsucc hAl hx hs1 ho hzz
           go_enter Tryz.func98, Tryz.ntmps98
           go_wp2_with (first | (go_at_call 99; first | ((with_reducible refine hN1.out.mono ?_); rintro e w' ⟨rfl, rfl⟩) | ((with_reducible refine hN2.out.mono ?_); rintro e w' ⟨rfl, rfl⟩)))
           go_ret
           exact ⟨ret_b hv.out.symm, hwC.out⟩
          ·by_cases e2 : hi < lo
           ·have hx : ¬ lo ≤ hi := by omega
            have hv := hide (show mayN (.mk op lit head name hi lo args) n = false from by rw [hsucc]; simp [hx])
            clear hsucc hAl hx hs1 ho hzz
            go_enter Tryz.func98, Tryz.ntmps98
            go_wp2_with (first | (go_at_call 99; first | ((with_reducible refine hN1.out.mono ?_); rintro e w' ⟨rfl, rfl⟩) | ((with_reducible refine hN2.out.mono ?_); rintro e w' ⟨rfl, rfl⟩)))
            go_ret
            exact ⟨ret_b hv.out.symm, hwC.out⟩
           ·by_cases e3 : 128 ≤ hi
            ·have hx : ¬ hi < 128 := by omega
             have hv := hide (show mayN (.mk op lit head name hi lo args) n = false from by rw [hsucc]; simp [hx])
             clear hsucc hAl hx hs1 ho hzz
             go_enter Tryz.func98, Tryz.ntmps98
             go_wp2_with (first | (go_at_call 99; first | ((with_reducible refine hN1.out.mono ?_); rintro e w' ⟨rfl, rfl⟩) | ((with_reducible refine hN2.out.mono ?_); rintro e w' ⟨rfl, rfl⟩)))
             go_ret
             exact ⟨ret_b hv.out.symm, hwC.out⟩
            ·have hx : 0 ≤ lo ∧ lo ≤ hi ∧ hi < 128 := by omega
             have hv := hide (show mayN (.mk op lit head name hi lo args) n = za from by rw [hsucc]; simp [hx, hzz, hs1])
             clear hsucc hAl hx hs1 ho hzz
             go_enter Tryz.func98, Tryz.ntmps98
             go_wp2_with (first | (go_at_call 99; first | ((with_reducible refine hN1.out.mono ?_); rintro e w' ⟨rfl, rfl⟩) | ((with_reducible refine hN2.out.mono ?_); rintro e w' ⟨rfl, rfl⟩)) | (go_at_call 103; refine hAw.out.mono ?_; rintro e w9 ⟨rfl, hb9⟩))
             go_ret
             exact ⟨ret_b hv.out.symm, hwC.out.trans (hb9.mono (by omega))⟩
         | false =>
          by_cases e1 : hi = 0
          ·have q1 : (hi != 0) = false := by simpa using e1
           by_cases e2 : lo = 0
           ·have q2 : (lo != 0) = false := by simpa using e2
            by_cases ho : op = 14 ∨ op = 15
            ·rcases ho with rfl | rfl
             ·have hlen : args.length = 2 := by have := ha'.out; have := form_two hf.out (.inl rfl); omega
              have hlt : 1 < args.length := by omega
              obtain ⟨b, o, ecs, hA, hb, hel, hcell, hr⟩ := hSc.out.2 1 _ (List.getElem?_eq_getElem hlt)
              subst hA
              have hshb : shB 14 args = byB args[1] := by unfold shB; rw [if_pos (.inl rfl), List.getElem?_eq_getElem hlt]; rfl
              generalize args[1] = x at hr hshb
              obtain ⟨op', lit', head', name', hi', lo', args'⟩ := x
              obtain ⟨A', cap', rfl, -, hlit', -, -, -, -, hs'⟩ := RE.inv hr
              have hl' := hs'.len
              have v0 : wc.cell? ⟨b, o + 9, none⟩ = some (.int .u8 op') := by simpa using hcell 0 _ rfl
              have v1 : wc.cell? ⟨b, o + 9 + 1, none⟩ = some (.int .i64 lit'.1) := by simpa using hcell 1 _ rfl
              have v2 : wc.cell? ⟨b, o + 9 + 2, none⟩ = some (.int .u64 lit'.2.1) := by simpa using hcell 2 _ rfl
              have v3 : wc.cell? ⟨b, o + 9 + 3, none⟩ = some (.int .u64 lit'.2.2) := by simpa using hcell 3 _ rfl
              have v4 : wc.cell? ⟨b, o + 9 + 4, none⟩ = some (.string head') := by simpa using hcell 4 _ rfl
              have v5 : wc.cell? ⟨b, o + 9 + 5, none⟩ = some (.string name') := by simpa using hcell 5 _ rfl
              have v6 : wc.cell? ⟨b, o + 9 + 6, none⟩ = some (.int .i64 hi') := by simpa using hcell 6 _ rfl
              have v7 : wc.cell? ⟨b, o + 9 + 7, none⟩ = some (.int .i64 lo') := by simpa using hcell 7 _ rfl
              have v8 : wc.cell? ⟨b, o + 9 + 8, none⟩ = some (.slice A' args'.length cap') := by simpa using hcell 8 _ rfl
              obtain ⟨wd, hwd, hsd, hbd, hcd, -⟩ := box1 wc #[.int .u8 op', .int .i64 lit'.1, .int .u64 lit'.2.1, .int .u64 lit'.2.2, .string head', .string name', .int .i64 hi', .int .i64 lo', .slice A' args'.length cap'] 65
              obtain ⟨u0, u1, u2, u3, u4, u5, u6, u7, u8⟩ := row9 hcd
              have hbc := bcell' hbd
              have hld : wc.heap.size < wd.heap.size := by omega
              have hle' : wc.heap.size ≤ wd.heap.size := by omega
              have hbw : b < wc.heap.size := by omega
              have hOf : ∀ d os, Hid (Calls Tryz.prog 102 #[.int .u64 127] (Go.Sort.grow (redrawn wd d) os) _) := fun d os => hide (of_any 127 _)
              have hCm : ∀ d os, Hid (Calls Tryz.prog 101 #[.agg #[.int .u64 lit'.2.1, .int .u64 lit'.2.2], .agg #[.int .u64 0, .int .u64 127]] (Go.Sort.grow (redrawn wd d) os) _) := fun d os => hide (cmp_any _ _ 0 127 _)
              have hcmp := cmp_127 lit' hlit'
              generalize orI (cmpI lit'.2.1 0) (cmpI lit'.2.2 127) = zc at hCm hcmp
              have hg := gcell' (show Below wd.heap.size wd wd from Below.refl _ _) (Nat.le_refl _)
              have hlz : (1 : Int) < (args.length : Int) := by omega
              replace hbd := hide hbd
              replace hsd := hide hsd
              clear hcell hr hs' hcd hlen
              by_cases g1 : op' = 1
              ·have t1 : (op' != 1) = false := by simpa using g1
               by_cases g2 : lit'.1 = 0
               ·have t2 : (lit'.1 != 0) = false := by simpa using g2
                cases g3 : decide (0 < zc) with
                | true =>
                 have hsb : shB 14 args = false := by rw [hshb]; rw [g3] at hcmp; simp [byB] at hcmp ⊢; intro _ _; exact hcmp
                 clear g1 g2 hcmp hshb
                 have hv := hide (show mayN (.mk 14 lit head name hi lo args) n = false from by rw [hsucc]; simp [hsb])
                 clear hsucc hzz e1 e2 hsb
                 go_enter Tryz.func98, Tryz.ntmps98
                 go_wp2_with (first | (go_at_call 99; first | ((with_reducible refine hN1.out.mono ?_); rintro e w' ⟨rfl, rfl⟩) | ((with_reducible refine hN2.out.mono ?_); rintro e w' ⟨rfl, rfl⟩)))
                 refine wp_region_quiet_below (by kernel_rfl) (by kernel_rfl) ?_
                 repeat (any_goals (first | go_big_quiet_step (first | (go_at_call 102; with_reducible exact Calls.regrown_of (hOf _ _).out) | (go_at_call 101; with_reducible exact Calls.regrown_of (hCm _ _).out)) | quiet_step (first | (go_at_call 102; with_reducible exact Calls.regrown_of (hOf _ _).out) | (go_at_call 101; with_reducible exact Calls.regrown_of (hCm _ _).out))))
                 refine wpQuiet_nil ?_
                 intro w5 hw5
                 replace hw5 := below_of_regrown hw5
                 go_wp2
                 go_ret
                 exact ⟨ret_b hv.out.symm, hwC.out.trans ((hbd.out.trans (hw5.mono (by omega))).mono (by omega))⟩
                | false =>
                 have hsb : shB 14 args = true := by rw [hshb]; rw [g3] at hcmp; simp [byB] at hcmp ⊢; exact ⟨⟨g1, g2⟩, hcmp⟩
                 clear g1 g2 hcmp hshb
                 have hv := hide (show mayN (.mk 14 lit head name hi lo args) n = za from by rw [hsucc]; simp [hsb, e1, e2, hzz])
                 clear hsucc hzz e1 e2 hsb
                 go_enter Tryz.func98, Tryz.ntmps98
                 go_wp2_with (first | (go_at_call 99; first | ((with_reducible refine hN1.out.mono ?_); rintro e w' ⟨rfl, rfl⟩) | ((with_reducible refine hN2.out.mono ?_); rintro e w' ⟨rfl, rfl⟩)))
                 refine wp_region_quiet_below (by kernel_rfl) (by kernel_rfl) ?_
                 repeat (any_goals (first | go_big_quiet_step (first | (go_at_call 102; with_reducible exact Calls.regrown_of (hOf _ _).out) | (go_at_call 101; with_reducible exact Calls.regrown_of (hCm _ _).out)) | quiet_step (first | (go_at_call 102; with_reducible exact Calls.regrown_of (hOf _ _).out) | (go_at_call 101; with_reducible exact Calls.regrown_of (hCm _ _).out))))
                 refine wpQuiet_nil ?_
                 intro w5 hw5
                 replace hw5 := below_of_regrown hw5
                 have hc5 := bcell' hw5
                 have hm1 : w.heap.size < wd.heap.size := by omega
                 have hm2 : w.heap.size + 1 < wd.heap.size := by omega
                 go_wp2_with (go_at_call 103; refine (hAl.out w5 (hbd.out.trans (hw5.mono (by omega)))).mono ?_; rintro e w9 ⟨rfl, hb9⟩)
                 go_ret
                 exact ⟨ret_b hv.out.symm, (hwC.out.trans ((hbd.out.trans (hw5.mono (by omega))).mono (by omega))).trans (hb9.mono (by have := hw5.size; omega))⟩
               ·have t2 : (lit'.1 != 0) = true := by simpa using g2
                have hsb : shB 14 args = false := by rw [hshb]; simp [byB, g2]
                clear g1 g2 hcmp hshb
                have hv := hide (show mayN (.mk 14 lit head name hi lo args) n = false from by rw [hsucc]; simp [hsb])
                clear hsucc hzz e1 e2 hsb
                go_enter Tryz.func98, Tryz.ntmps98
                go_wp2_with (first | (go_at_call 99; first | ((with_reducible refine hN1.out.mono ?_); rintro e w' ⟨rfl, rfl⟩) | ((with_reducible refine hN2.out.mono ?_); rintro e w' ⟨rfl, rfl⟩)))
                refine wp_region_quiet_below (by kernel_rfl) (by kernel_rfl) ?_
                repeat (any_goals (first | go_big_quiet_step (first | (go_at_call 102; with_reducible exact Calls.regrown_of (hOf _ _).out) | (go_at_call 101; with_reducible exact Calls.regrown_of (hCm _ _).out)) | quiet_step (first | (go_at_call 102; with_reducible exact Calls.regrown_of (hOf _ _).out) | (go_at_call 101; with_reducible exact Calls.regrown_of (hCm _ _).out))))
                refine wpQuiet_nil ?_
                intro w5 hw5
                replace hw5 := below_of_regrown hw5
                go_wp2
                go_ret
                exact ⟨ret_b hv.out.symm, hwC.out.trans ((hbd.out.trans (hw5.mono (by omega))).mono (by omega))⟩
              ·have t1 : (op' != 1) = true := by simpa using g1
               have hsb : shB 14 args = false := by rw [hshb]; simp [byB, g1]
               clear g1 hcmp hshb
               have hv := hide (show mayN (.mk 14 lit head name hi lo args) n = false from by rw [hsucc]; simp [hsb])
               clear hsucc hzz e1 e2 hsb
               go_enter Tryz.func98, Tryz.ntmps98
               go_wp2_with (first | (go_at_call 99; first | ((with_reducible refine hN1.out.mono ?_); rintro e w' ⟨rfl, rfl⟩) | ((with_reducible refine hN2.out.mono ?_); rintro e w' ⟨rfl, rfl⟩)))
               refine wp_region_quiet_below (by kernel_rfl) (by kernel_rfl) ?_
               repeat (any_goals (first | go_big_quiet_step (first | (go_at_call 102; with_reducible exact Calls.regrown_of (hOf _ _).out) | (go_at_call 101; with_reducible exact Calls.regrown_of (hCm _ _).out)) | quiet_step (first | (go_at_call 102; with_reducible exact Calls.regrown_of (hOf _ _).out) | (go_at_call 101; with_reducible exact Calls.regrown_of (hCm _ _).out))))
               refine wpQuiet_nil ?_
               intro w5 hw5
               replace hw5 := below_of_regrown hw5
               go_wp2
               go_ret
               exact ⟨ret_b hv.out.symm, hwC.out.trans ((hbd.out.trans (hw5.mono (by omega))).mono (by omega))⟩
             ·have hlen : args.length = 2 := by have := ha'.out; have := form_two hf.out (.inr rfl); omega
              have hlt : 1 < args.length := by omega
              obtain ⟨b, o, ecs, hA, hb, hel, hcell, hr⟩ := hSc.out.2 1 _ (List.getElem?_eq_getElem hlt)
              subst hA
              have hshb : shB 15 args = byB args[1] := by unfold shB; rw [if_pos (.inr rfl), List.getElem?_eq_getElem hlt]; rfl
              generalize args[1] = x at hr hshb
              obtain ⟨op', lit', head', name', hi', lo', args'⟩ := x
              obtain ⟨A', cap', rfl, -, hlit', -, -, -, -, hs'⟩ := RE.inv hr
              have hl' := hs'.len
              have v0 : wc.cell? ⟨b, o + 9, none⟩ = some (.int .u8 op') := by simpa using hcell 0 _ rfl
              have v1 : wc.cell? ⟨b, o + 9 + 1, none⟩ = some (.int .i64 lit'.1) := by simpa using hcell 1 _ rfl
              have v2 : wc.cell? ⟨b, o + 9 + 2, none⟩ = some (.int .u64 lit'.2.1) := by simpa using hcell 2 _ rfl
              have v3 : wc.cell? ⟨b, o + 9 + 3, none⟩ = some (.int .u64 lit'.2.2) := by simpa using hcell 3 _ rfl
              have v4 : wc.cell? ⟨b, o + 9 + 4, none⟩ = some (.string head') := by simpa using hcell 4 _ rfl
              have v5 : wc.cell? ⟨b, o + 9 + 5, none⟩ = some (.string name') := by simpa using hcell 5 _ rfl
              have v6 : wc.cell? ⟨b, o + 9 + 6, none⟩ = some (.int .i64 hi') := by simpa using hcell 6 _ rfl
              have v7 : wc.cell? ⟨b, o + 9 + 7, none⟩ = some (.int .i64 lo') := by simpa using hcell 7 _ rfl
              have v8 : wc.cell? ⟨b, o + 9 + 8, none⟩ = some (.slice A' args'.length cap') := by simpa using hcell 8 _ rfl
              obtain ⟨wd, hwd, hsd, hbd, hcd, -⟩ := box1 wc #[.int .u8 op', .int .i64 lit'.1, .int .u64 lit'.2.1, .int .u64 lit'.2.2, .string head', .string name', .int .i64 hi', .int .i64 lo', .slice A' args'.length cap'] 65
              obtain ⟨u0, u1, u2, u3, u4, u5, u6, u7, u8⟩ := row9 hcd
              have hbc := bcell' hbd
              have hld : wc.heap.size < wd.heap.size := by omega
              have hle' : wc.heap.size ≤ wd.heap.size := by omega
              have hbw : b < wc.heap.size := by omega
              have hOf : ∀ d os, Hid (Calls Tryz.prog 102 #[.int .u64 127] (Go.Sort.grow (redrawn wd d) os) _) := fun d os => hide (of_any 127 _)
              have hCm : ∀ d os, Hid (Calls Tryz.prog 101 #[.agg #[.int .u64 lit'.2.1, .int .u64 lit'.2.2], .agg #[.int .u64 0, .int .u64 127]] (Go.Sort.grow (redrawn wd d) os) _) := fun d os => hide (cmp_any _ _ 0 127 _)
              have hcmp := cmp_127 lit' hlit'
              generalize orI (cmpI lit'.2.1 0) (cmpI lit'.2.2 127) = zc at hCm hcmp
              have hg := gcell' (show Below wd.heap.size wd wd from Below.refl _ _) (Nat.le_refl _)
              have hlz : (1 : Int) < (args.length : Int) := by omega
              replace hbd := hide hbd
              replace hsd := hide hsd
              clear hcell hr hs' hcd hlen
              by_cases g1 : op' = 1
              ·have t1 : (op' != 1) = false := by simpa using g1
               by_cases g2 : lit'.1 = 0
               ·have t2 : (lit'.1 != 0) = false := by simpa using g2
                cases g3 : decide (0 < zc) with
                | true =>
                 have hsb : shB 15 args = false := by rw [hshb]; rw [g3] at hcmp; simp [byB] at hcmp ⊢; intro _ _; exact hcmp
                 clear g1 g2 hcmp hshb
                 have hv := hide (show mayN (.mk 15 lit head name hi lo args) n = false from by rw [hsucc]; simp [hsb])
                 clear hsucc hzz e1 e2 hsb
                 go_enter Tryz.func98, Tryz.ntmps98
                 go_wp2_with (first | (go_at_call 99; first | ((with_reducible refine hN1.out.mono ?_); rintro e w' ⟨rfl, rfl⟩) | ((with_reducible refine hN2.out.mono ?_); rintro e w' ⟨rfl, rfl⟩)))
                 refine wp_region_quiet_below (by kernel_rfl) (by kernel_rfl) ?_
                 repeat (any_goals (first | go_big_quiet_step (first | (go_at_call 102; with_reducible exact Calls.regrown_of (hOf _ _).out) | (go_at_call 101; with_reducible exact Calls.regrown_of (hCm _ _).out)) | quiet_step (first | (go_at_call 102; with_reducible exact Calls.regrown_of (hOf _ _).out) | (go_at_call 101; with_reducible exact Calls.regrown_of (hCm _ _).out))))
                 refine wpQuiet_nil ?_
                 intro w5 hw5
                 replace hw5 := below_of_regrown hw5
                 go_wp2
                 go_ret
                 exact ⟨ret_b hv.out.symm, hwC.out.trans ((hbd.out.trans (hw5.mono (by omega))).mono (by omega))⟩
                | false =>
                 have hsb : shB 15 args = true := by rw [hshb]; rw [g3] at hcmp; simp [byB] at hcmp ⊢; exact ⟨⟨g1, g2⟩, hcmp⟩
                 clear g1 g2 hcmp hshb
                 have hv := hide (show mayN (.mk 15 lit head name hi lo args) n = za from by rw [hsucc]; simp [hsb, e1, e2, hzz])
                 clear hsucc hzz e1 e2 hsb
                 go_enter Tryz.func98, Tryz.ntmps98
                 go_wp2_with (first | (go_at_call 99; first | ((with_reducible refine hN1.out.mono ?_); rintro e w' ⟨rfl, rfl⟩) | ((with_reducible refine hN2.out.mono ?_); rintro e w' ⟨rfl, rfl⟩)))
                 refine wp_region_quiet_below (by kernel_rfl) (by kernel_rfl) ?_
                 repeat (any_goals (first | go_big_quiet_step (first | (go_at_call 102; with_reducible exact Calls.regrown_of (hOf _ _).out) | (go_at_call 101; with_reducible exact Calls.regrown_of (hCm _ _).out)) | quiet_step (first | (go_at_call 102; with_reducible exact Calls.regrown_of (hOf _ _).out) | (go_at_call 101; with_reducible exact Calls.regrown_of (hCm _ _).out))))
                 refine wpQuiet_nil ?_
                 intro w5 hw5
                 replace hw5 := below_of_regrown hw5
                 have hc5 := bcell' hw5
                 have hm1 : w.heap.size < wd.heap.size := by omega
                 have hm2 : w.heap.size + 1 < wd.heap.size := by omega
                 go_wp2_with (go_at_call 103; refine (hAl.out w5 (hbd.out.trans (hw5.mono (by omega)))).mono ?_; rintro e w9 ⟨rfl, hb9⟩)
                 go_ret
                 exact ⟨ret_b hv.out.symm, (hwC.out.trans ((hbd.out.trans (hw5.mono (by omega))).mono (by omega))).trans (hb9.mono (by have := hw5.size; omega))⟩
               ·have t2 : (lit'.1 != 0) = true := by simpa using g2
                have hsb : shB 15 args = false := by rw [hshb]; simp [byB, g2]
                clear g1 g2 hcmp hshb
                have hv := hide (show mayN (.mk 15 lit head name hi lo args) n = false from by rw [hsucc]; simp [hsb])
                clear hsucc hzz e1 e2 hsb
                go_enter Tryz.func98, Tryz.ntmps98
                go_wp2_with (first | (go_at_call 99; first | ((with_reducible refine hN1.out.mono ?_); rintro e w' ⟨rfl, rfl⟩) | ((with_reducible refine hN2.out.mono ?_); rintro e w' ⟨rfl, rfl⟩)))
                refine wp_region_quiet_below (by kernel_rfl) (by kernel_rfl) ?_
                repeat (any_goals (first | go_big_quiet_step (first | (go_at_call 102; with_reducible exact Calls.regrown_of (hOf _ _).out) | (go_at_call 101; with_reducible exact Calls.regrown_of (hCm _ _).out)) | quiet_step (first | (go_at_call 102; with_reducible exact Calls.regrown_of (hOf _ _).out) | (go_at_call 101; with_reducible exact Calls.regrown_of (hCm _ _).out))))
                refine wpQuiet_nil ?_
                intro w5 hw5
                replace hw5 := below_of_regrown hw5
                go_wp2
                go_ret
                exact ⟨ret_b hv.out.symm, hwC.out.trans ((hbd.out.trans (hw5.mono (by omega))).mono (by omega))⟩
              ·have t1 : (op' != 1) = true := by simpa using g1
               have hsb : shB 15 args = false := by rw [hshb]; simp [byB, g1]
               clear g1 hcmp hshb
               have hv := hide (show mayN (.mk 15 lit head name hi lo args) n = false from by rw [hsucc]; simp [hsb])
               clear hsucc hzz e1 e2 hsb
               go_enter Tryz.func98, Tryz.ntmps98
               go_wp2_with (first | (go_at_call 99; first | ((with_reducible refine hN1.out.mono ?_); rintro e w' ⟨rfl, rfl⟩) | ((with_reducible refine hN2.out.mono ?_); rintro e w' ⟨rfl, rfl⟩)))
               refine wp_region_quiet_below (by kernel_rfl) (by kernel_rfl) ?_
               repeat (any_goals (first | go_big_quiet_step (first | (go_at_call 102; with_reducible exact Calls.regrown_of (hOf _ _).out) | (go_at_call 101; with_reducible exact Calls.regrown_of (hCm _ _).out)) | quiet_step (first | (go_at_call 102; with_reducible exact Calls.regrown_of (hOf _ _).out) | (go_at_call 101; with_reducible exact Calls.regrown_of (hCm _ _).out))))
               refine wpQuiet_nil ?_
               intro w5 hw5
               replace hw5 := below_of_regrown hw5
               go_wp2
               go_ret
               exact ⟨ret_b hv.out.symm, hwC.out.trans ((hbd.out.trans (hw5.mono (by omega))).mono (by omega))⟩
            ·have ho14 : (op == 14) = false := beq_eq_false_iff_ne.2 fun h => ho (.inl h)
             have ho15 : (op == 15) = false := beq_eq_false_iff_ne.2 fun h => ho (.inr h)
             have hs1 : shB op args = true := by unfold shB; rw [if_neg ho]
             have hv := hide (show mayN (.mk op lit head name hi lo args) n = za from by rw [hsucc]; simp [e1, e2, hzz, hs1])
             clear hsucc hAl hs1 ho hzz e1 e2
             go_enter Tryz.func98, Tryz.ntmps98
             go_wp2_with (first | (go_at_call 99; first | ((with_reducible refine hN1.out.mono ?_); rintro e w' ⟨rfl, rfl⟩) | ((with_reducible refine hN2.out.mono ?_); rintro e w' ⟨rfl, rfl⟩)) | (go_at_call 103; refine hAw.out.mono ?_; rintro e w9 ⟨rfl, hb9⟩))
             go_ret
             exact ⟨ret_b hv.out.symm, hwC.out.trans (hb9.mono (by omega))⟩
           ·have q2 : (lo != 0) = true := by simpa using e2
            have hv := hide (show mayN (.mk op lit head name hi lo args) n = false from by rw [hsucc]; simp [e2])
            clear hsucc hAl hzz e1 e2
            go_enter Tryz.func98, Tryz.ntmps98
            go_wp2_with (first | (go_at_call 99; first | ((with_reducible refine hN1.out.mono ?_); rintro e w' ⟨rfl, rfl⟩) | ((with_reducible refine hN2.out.mono ?_); rintro e w' ⟨rfl, rfl⟩)))
            go_ret
            exact ⟨ret_b hv.out.symm, hwC.out⟩
          ·have q1 : (hi != 0) = true := by simpa using e1
           have hv := hide (show mayN (.mk op lit head name hi lo args) n = false from by rw [hsucc]; simp [e1])
           clear hsucc hAl hzz e1
           go_enter Tryz.func98, Tryz.ntmps98
           go_wp2_with (first | (go_at_call 99; first | ((with_reducible refine hN1.out.mono ?_); rintro e w' ⟨rfl, rfl⟩) | ((with_reducible refine hN2.out.mono ?_); rintro e w' ⟨rfl, rfl⟩)))
           go_ret
           exact ⟨ret_b hv.out.symm, hwC.out⟩
        ·by_cases p1 : lit.1 = 0
         ·by_cases p2 : lit.2.1 = 0
          ·by_cases p3 : lit.2.2 = 0
           ·exact absurd (Prod.ext p1 (Prod.ext p2 p3)) hzz
           ·replace p1 := eq_true p1
            replace p2 := eq_true p2
            have hv := hide (show mayN (.mk op lit head name hi lo args) n = false from by rw [hsucc]; simp [hzz])
            clear hsucc hAl hzz
            go_enter Tryz.func98, Tryz.ntmps98
            go_wp2_with (first | (go_at_call 99; first | ((with_reducible refine hN1.out.mono ?_); rintro e w' ⟨rfl, rfl⟩) | ((with_reducible refine hN2.out.mono ?_); rintro e w' ⟨rfl, rfl⟩)))
            go_ret
            exact ⟨ret_b hv.out.symm, hwC.out⟩
          ·replace p1 := eq_true p1
           have hv := hide (show mayN (.mk op lit head name hi lo args) n = false from by rw [hsucc]; simp [hzz])
           clear hsucc hAl hzz
           go_enter Tryz.func98, Tryz.ntmps98
           go_wp2_with (first | (go_at_call 99; first | ((with_reducible refine hN1.out.mono ?_); rintro e w' ⟨rfl, rfl⟩) | ((with_reducible refine hN2.out.mono ?_); rintro e w' ⟨rfl, rfl⟩)))
           go_ret
           exact ⟨ret_b hv.out.symm, hwC.out⟩
         ·have hv := hide (show mayN (.mk op lit head name hi lo args) n = false from by rw [hsucc]; simp [hzz])
          clear hsucc hAl hzz
          go_enter Tryz.func98, Tryz.ntmps98
          go_wp2_with (first | (go_at_call 99; first | ((with_reducible refine hN1.out.mono ?_); rintro e w' ⟨rfl, rfl⟩) | ((with_reducible refine hN2.out.mono ?_); rintro e w' ⟨rfl, rfl⟩)))
          go_ret
          exact ⟨ret_b hv.out.symm, hwC.out⟩
    ·have ha1 : ((args.length : Int) != fa) = true := by simpa using ha
     have hv := hide (show mayN (.mk op lit head name hi lo args) n = false from mayN_none n (by rw [hone.out, decide_eq_false ha]; rfl))
     clear hn0 ih hN1 hN2 ha
     go_enter Tryz.func98, Tryz.ntmps98
     go_wp2
     go_ret
     exact ⟨ret_b hv.out.symm, hwC.out⟩
end Go.Proofs.YtmfpbahifhndjaaGreat
