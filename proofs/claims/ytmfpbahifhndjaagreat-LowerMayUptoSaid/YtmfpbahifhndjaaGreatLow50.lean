import Derived.Test.YtmfpbahifhndjaaGreatLow48
import Derived.Test.YtmfpbahifhndjaaGreatLow49
import Derived.Deep.DeepHandedRow
import Derived.Carry
import Derived.OpenShut
set_option linter.all false
/-
LowerMay (layer 10): which lowered programs may be, any code's width in any action, and which runs may be, are the document's; where the arguments are of bulk at most 1048576.
-/
namespace Go.Proofs.YtmfpbahifhndjaaGreat
open Go.ChangeShapes Go.WideShapes Go.ChangeAt Go.RowKit
theorem Tryz.own : ownKnob Tryz.prog.godebug = none := by kernel_rfl
theorem Tryz.laidOut : laidOutB Tryz.prog = true := by kernel_rfl
theorem rrLp : Tryz.prog.readableRec 33 = true := by kernel_rfl
theorem rrLc : Tryz.prog.readableRec 35 = true := by kernel_rfl
theorem rrLi : Tryz.prog.readableRec 23 = true := by kernel_rfl
theorem rrLr : Tryz.prog.readableRec 38 = true := by kernel_rfl
theorem tsLp : 33 < Tryz.prog.types.size := of_decide_eq_true (by kernel_rfl)
theorem tsLc : 35 < Tryz.prog.types.size := of_decide_eq_true (by kernel_rfl)
theorem tsLi : 23 < Tryz.prog.types.size := of_decide_eq_true (by kernel_rfl)
theorem tsLr : 38 < Tryz.prog.types.size := of_decide_eq_true (by kernel_rfl)
def lpNil : Value := .agg #[.slice none 0 0, .slice none 0 0, .slice none 0 0, .slice none 0 0, .slice none 0 0, .slice none 0 0, .slice none 0 0, .slice none 0 0, .slice none 0 0, .slice none 0 0, .slice none 0 0, .slice none 0 0]
def rnNil : Value := .agg #[.int .i64 0, .slice none 0 0]
set_option maxRecDepth 100000 in
theorem open_lp {H : Type} {enc : TypeId × Value → H} {w : World} {b : Nat} {v : Value} {d : DataW H} {q : List MemPlace} (hv : Value.okWide Tryz.prog w .any b 33 v) (h : DataW.Trod enc Tryz.prog w 0 (fun _ => true) true 33 v d q) {M : Nat} (hM : M ≤ sm) (hb : Rows.uptoBulk d ≤ M) :
  ∃ p A1 A2 A3 A4 A5 A6 A7 A8 A9 A10 A11 A12 c1 c2 c3 c4 c5 c6 c7 c8 c9 c10 c11 c12, v = .agg #[.slice A1 p.heads.length c1, .slice A2 p.metas.length c2, .slice A3 p.steps.length c3, .slice A4 p.acts.length c4, .slice A5 p.tabs.length c5, .slice A6 p.control.length c6, .slice A7 p.emit.length c7, .slice A8 p.nh.length c8, .slice A9 p.nf.length c9, .slice A10 p.nm.length c10, .slice A11 p.na.length c11, .slice A12 p.nt.length c12] ∧ LpS w w.heap.size A1 A2 A3 A4 A5 A6 A7 A8 A9 A10 A11 A12 p ∧ p.emit.length ≤ c7 := by
 obtain ⟨cs, rfl, hsz⟩ := okWide_struct Tryz.underlying33 hv
 obtain ⟨fuel, hf⟩ := h
 have hf2 : DataW.trod enc Tryz.prog w 0 (fun _ => true) true fuel 33 cs.toList = some (d, q) := by simpa [Value.cells] using hf
 obtain ⟨p, A1, A2, A3, A4, A5, A6, A7, A8, A9, A10, A11, A12, c1, c2, c3, c4, c5, c6, c7, c8, c9, c10, c11, c12, e, hP, hE⟩ := lrd_Prog hM H enc w fuel cs.toList _ hf2 hb
 refine ⟨p, A1, A2, A3, A4, A5, A6, A7, A8, A9, A10, A11, A12, c1, c2, c3, c4, c5, c6, c7, c8, c9, c10, c11, c12, ?_, hP, hE⟩
 obtain ⟨l⟩ := cs
 simp only at e
 rw [e]
set_option maxRecDepth 100000 in
theorem open_rn {H : Type} {enc : TypeId × Value → H} {w : World} {b : Nat} {v : Value} {d : DataW H} {q : List MemPlace} (hv : Value.okWide Tryz.prog w .any b 38 v) (h : DataW.Trod enc Tryz.prog w 0 (fun _ => true) true 38 v d q) {M : Nat} (hM : M ≤ sm) (hb : Rows.uptoBulk d ≤ M) :
  ∃ (r : Rn) (B : Option Addr) (c : Nat), v = .agg #[.int .i64 r.act, .slice B r.args.length c] ∧ Sl 2 rNu w w.heap.size B r.args := by
 obtain ⟨cs, rfl, hsz⟩ := okWide_struct Tryz.underlying38 hv
 obtain ⟨fuel, hf⟩ := h
 have hf2 : DataW.trod enc Tryz.prog w 0 (fun _ => true) true fuel 38 cs.toList = some (d, q) := by simpa [Value.cells] using hf
 obtain ⟨r, B, c, e, hS⟩ := lrd_Run hM H enc w fuel cs.toList _ hf2 hb
 refine ⟨r, B, c, ?_, hS⟩
 obtain ⟨l⟩ := cs
 simp only at e
 rw [e]
set_option maxRecDepth 100000 in
theorem open_sl {α : Type} {R : CR α} {t e : TypeId} {k M : Nat} (ht : Tryz.prog.underlying t = some (.slice e)) (hR : RdB M t (rSl k R)) {H : Type} {enc : TypeId × Value → H} {w : World} {b : Nat} {v : Value} {d : DataW H} {q : List MemPlace} (hv : Value.okWide Tryz.prog w .any b t v) (h : DataW.Trod enc Tryz.prog w 0 (fun _ => true) true t v d q) (hb : Rows.uptoBulk d ≤ M) :
  ∃ (l : List α) (B : Option Addr) (c : Nat), v = .slice B l.length c ∧ Sl k R w w.heap.size B l := by
 obtain ⟨a0, len, cap, rfl⟩ := okWide_slice ht hv
 obtain ⟨fuel, hf⟩ := h
 have hf' : DataW.trod enc Tryz.prog w 0 (fun _ => true) true fuel t [.slice a0 len cap] = some (d, q) := by simpa [Value.cells] using hf
 obtain ⟨l, L, lc, e, s⟩ := hR H enc w fuel _ _ hf' hb
 injection e with e _
 exact ⟨l, L, lc, e, s⟩
set_option maxRecDepth 100000 in
theorem lowermay_contract (H : Type) (enc : TypeId × Value → H) (W : World) (base : Nat) (args : Array Value) (ds gs : List (DataW H)) (before : List MemPlace)
  (hval : ∀ (j : Nat) t v, Tryz.f3.params[j]? = some t → args[j]? = some v → Value.okWide Tryz.prog W .any base t v)
  (hW : DataW.Whole enc Tryz.prog Tryz.f3.params.toList Rows.lowerMaySpec.vars false W args.toList ds gs before) (hk : Rows.uptoSmall H (ds ++ gs) = true) (hsh : W.ShapedOpen Tryz.prog) :
  Calls Tryz.prog 3 args W fun e W' => ∃ v, e = .returned v ∧ Rows.lowerMaySpec.post enc Tryz.prog Tryz.f3 false true false false W args v W' := by
 have hW' := hW
 obtain ⟨p, q, hA0, hV, rfl, hfz, hnd⟩ := hW
 have hA : DataW.TrodAll enc Tryz.prog W 0 (fun _ => true) true Tryz.f3.params.toList args.toList ds p := hA0
 rw [Tryz.params3] at hA hval
 obtain ⟨v0, vs0, d0, ds0, p0, q0, hargs, rfl, rfl, h0, r0⟩ := trodAll_cons hA
 obtain ⟨v1, vs1, d1, ds1, p1, q1, rfl, rfl, rfl, h1, r1⟩ := trodAll_cons r0
 obtain ⟨v2, vs2, d2, ds2, p2, q2, rfl, rfl, rfl, h2, r2⟩ := trodAll_cons r1
 obtain ⟨v3, vs3, d3, ds3, p3, q3, rfl, rfl, rfl, h3, r3⟩ := trodAll_cons r2
 obtain ⟨v4, vs4, d4, ds4, p4, q4, rfl, rfl, rfl, h4, r4⟩ := trodAll_cons r3
 obtain ⟨rfl, rfl, rfl⟩ := trodAll_nil r4
 obtain rfl : args = #[v0, v1, v2, v3, v4] := by cases args; simp_all
 obtain ⟨rfl, rfl⟩ := trodVars_none hV
 clear hA0
 have hlt : ∀ x ∈ (p0 ++ (p1 ++ (p2 ++ (p3 ++ (p4 ++ []))))) ++ [], x.block < W.heap.size := fun x hx => hW'.lt x hx
 have hb : Rows.uptoBulk d0 + (Rows.uptoBulk d1 + (Rows.uptoBulk d2 + (Rows.uptoBulk d3 + Rows.uptoBulk d4))) ≤ sm := by
  have h := of_decide_eq_true hk
  simp only [List.append_nil, Rows.uptoBulkAll, Nat.add_zero] at h
  exact h
 obtain ⟨pp, A1, A2, A3, A4, A5, A6, A7, A8, A9, A10, A11, A12, c1, c2, c3, c4, c5, c6, c7, c8, c9, c10, c11, c12, rfl, hP, hE⟩ := open_lp (hval 0 _ v0 rfl rfl) h0 (Nat.le_refl _) (by omega)
 obtain ⟨act, rfl, rfl, rfl, w1⟩ := open_int Tryz.underlying3 (hval 1 _ v1 rfl rfl) h1
 obtain ⟨c, Bc, dc, rfl, hC⟩ := open_sl Tryz.underlying35 (lrd_Code (Nat.le_refl _)) (hval 2 _ v2 rfl rfl) h2 (by omega)
 obtain ⟨l, Bl, dl, rfl, hL⟩ := open_sl Tryz.underlying23 (lrd_ints (m := sm)) (hval 3 _ v3 rfl rfl) h3 (by omega)
 obtain ⟨r, Br, dr, rfl, hR⟩ := open_rn (hval 4 _ v4 rfl rfl) h4 (Nat.le_refl _) (by omega)
 obtain ⟨ra, rs⟩ := r
 simp only at hR h4
 obtain ⟨m0, hm0⟩ := Tryz.laysM144.s1_3 W hsh
 refine (lowermay_any (m := m0) A1 A2 A3 A4 A5 A6 A7 A8 A9 A10 A11 A12 pp c1 c2 c3 c4 c5 c6 c7 c8 c9 c10 c11 c12 act c Bc dc l Bl dl ra rs Br dr W hm0 hP hE (okP_of A1 A2 A3 A4 A5 A6 A7 A8 A9 A10 A11 A12 pp c1 c2 c3 c4 c5 c6 c7 c8 c9 c10 c11 c12 hP) hC (okC_of hC) hL hR).mono fun e W' ⟨he, hbw⟩ => ?_
 subst he
 refine ⟨_, rfl, post_below (pa := p0 ++ ([] ++ (p2 ++ (p3 ++ p4)))) (pv := []) hW' (fun _ _ _ => trodAll_mk1 (shut_bool Tryz.underlying4 true)) ?_ rfl (by simp) hbw⟩
 exact trodAll_cons_mk (Below.trod Tryz.laidOut rrLp tsLp h0 hbw (fun x hx => hlt x (by simp [hx]))) (trodAll_mk4 (shut_int Tryz.underlying3 w1) (Below.trod Tryz.laidOut rrLc tsLc h2 hbw (fun x hx => hlt x (by simp [hx]))) (Below.trod Tryz.laidOut rrLi tsLi h3 hbw (fun x hx => hlt x (by simp [hx]))) (Below.trod Tryz.laidOut rrLr tsLr h4 hbw (fun x hx => hlt x (by simp [hx]))))
set_option maxRecDepth 100000 in
theorem lowermay_lifted (os : Os) (started : os.Started) (H : Type) (enc : TypeId × Value → H) (F : Stop.Interp) :
  ReturnsInHanded {} Tryz.checked os 3 .any ((Rows.OpenSpec.upto Rows.lowerMaySpec).preRow enc Tryz.prog Tryz.f3 Rows.lowerMayUptoRow.domain false Rows.lowerMayUptoRow.laid) (((Rows.OpenSpec.upto Rows.lowerMaySpec).at F).post enc Tryz.prog Tryz.f3 false true false false) := by
 refine returnsInHanded_of_row (C := Tryz.checked) (s := Rows.OpenSpec.upto Rows.lowerMaySpec) Tryz.own started (by kernel_rfl) Tryz.func3
  (witness_row_at (enc := enc) (C := Tryz.checked) false (World.holding Tryz.prog os ⟨#[], #[lpNil, .int .i64 0, .slice none 0 0, .slice none 0 0, rnNil], []⟩) #[lpNil, .int .i64 0, .slice none 0 0, .slice none 0 0, rnNil] rfl (by kernel_rfl) (by kernel_rfl) (by kernel_rfl)
   (OpenSpec.preRow_of_cond 8 (x := ([.agg [.nil, .nil, .nil, .nil, .nil, .nil, .nil, .agg [.nil, .nil, .nil, .nil, .nil]], .lit (.int .i64 0), .nil, .nil, .agg [.lit (.int .i64 0), .nil]], [], [])) (by kernel_rfl) (by kernel_rfl) (fun k hk => by cases hk; kernel_rfl) (by kernel_rfl) (laidMetH_nil _ _))) ?_
 intro W base args ds gs before hval hW _ hk _ _ hsh _
 exact lowermay_contract H enc W base args ds gs before hval hW (hk _ rfl) hsh
theorem lowerMay_upto : Rows.LowerMayUptoSaid :=
 OpenClaim.holds_of_cond 3 Tryz.f3 rfl rfl rfl rfl rfl rfl rfl ⟨rfl, rfl, rfl, rfl, rfl⟩ rfl rfl rfl rfl rfl (by kernel_rfl) Tryz.func3 (by kernel_rfl)
  (of_decide_eq_true (by kernel_rfl)) (by unfold Func.isWrapper; rw [if_neg (of_decide_eq_false (by kernel_rfl))]; exact ⟨rfl, rfl⟩)
  (fun os started H enc _ F => by rw [OpenClaim.pre_eq_preRow]; exact lowermay_lifted os started H enc F)
end Go.Proofs.YtmfpbahifhndjaaGreat
