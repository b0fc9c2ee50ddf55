import Derived.Test.YtbbdhknagofghaaGreatWhl47
import Derived.Test.YtbbdhknagofghaaGreatWhl49
import Derived.Deep.DeepHandedRow
import Derived.Carry
set_option linter.all false
/-
TypesWhole (layer 8): where Check tells OK, each expression of a statement, a key, a transition, and each in it, has a type, of a width of 1 to 128 where it has one; where the arguments are of bulk at most 1048576.
-/
namespace Go.Proofs.YtbbdhknagofghaaGreat
open Go.ChangeShapes Go.WideShapes Go.ChangeAt Go.RowKit
theorem Tryz.own : ownKnob Tryz.prog.godebug = none := by kernel_rfl
theorem Tryz.laidOut : laidOutB Tryz.prog = true := by kernel_rfl
theorem rrP : Tryz.prog.readableRec 30 = true := by kernel_rfl
theorem tsP : 30 < Tryz.prog.types.size := of_decide_eq_true (by kernel_rfl)
def pgNil : Value := .agg #[.slice none 0 0, .slice none 0 0, .slice none 0 0, .slice none 0 0, .slice none 0 0, .slice none 0 0, .slice none 0 0]
set_option maxRecDepth 100000 in
theorem open_pg {H : Type} {enc : TypeId × Value → H} {w : World} {b : Nat} {v : Value} {d : DataW H} {q : List MemPlace} (hv : Value.okWide Tryz.prog w .any b 30 v) (h : DataW.Trod enc Tryz.prog w 0 (fun _ => true) true 30 v d q) {M : Nat} (hM : M ≤ sm) (hb : Rows.uptoBulk d ≤ M) :
  ∃ p A1 A2 A3 A4 A5 A6 A7 c1 c2 c3 c4 c5 c6 c7, v = .agg #[.slice A1 p.headers.length c1, .slice A2 p.metas.length c2, .slice A3 p.states.length c3, .slice A4 p.actions.length c4, .slice A5 p.tables.length c5, .slice A6 p.control.length c6, .slice A7 p.emit.length c7] ∧ PgS w w.heap.size A1 A2 A3 A4 A5 A6 A7 p ∧ cntOk p ∧ KCap w A5 p := by
 obtain ⟨cs, rfl, hsz⟩ := okWide_struct Tryz.underlying30 hv
 obtain ⟨fuel, hf⟩ := h
 have hf2 : DataW.trod enc Tryz.prog w 0 (fun _ => true) true fuel 30 cs.toList = some (d, q) := by simpa [Value.cells] using hf
 obtain ⟨p, ⟨A1, A2, A3, A4, A5, A6, A7, c1, c2, c3, c4, c5, c6, c7, e, hP⟩, hcnt⟩ := rdb_ProgramC hM H enc w fuel cs.toList _ hf2 hb
 rw [e] at hf2
 refine ⟨p, A1, A2, A3, A4, A5, A6, A7, c1, c2, c3, c4, c5, c6, c7, ?_, hP, hcnt, kcap_trod A1 A2 A3 A4 A5 A6 A7 p c1 c2 c3 c4 c5 c6 c7 hf2⟩
 obtain ⟨l⟩ := cs
 simp only at e
 rw [e]
 rfl
set_option maxRecDepth 100000 in
theorem tywhole_contract (H : Type) (enc : TypeId × Value → H) (W : World) (base : Nat) (args : Array Value) (ds gs : List (DataW H)) (before : List MemPlace)
  (hval : ∀ (j : Nat) t v, Tryz.f4.params[j]? = some t → args[j]? = some v → Value.okWide Tryz.prog W .any base t v)
  (hW : DataW.Whole enc Tryz.prog Tryz.f4.params.toList Rows.typesWholeSpec.vars false W args.toList ds gs before) (hk : Rows.uptoSmall H (ds ++ gs) = true) (hsh : W.ShapedOpen Tryz.prog) :
  Calls Tryz.prog 4 args W fun e W' => ∃ v, e = .returned v ∧ Rows.typesWholeSpec.post enc Tryz.prog Tryz.f4 false true false false W args v W' := by
 have hW' := hW
 obtain ⟨p, q, hA0, hV, rfl, hfz, hnd⟩ := hW
 have hA : DataW.TrodAll enc Tryz.prog W 0 (fun _ => true) true Tryz.f4.params.toList args.toList ds p := hA0
 rw [Tryz.params4] at hA hval
 obtain ⟨v0, vs0, d0, ds0, p0, q0, hargs, rfl, rfl, h0, r0⟩ := trodAll_cons hA
 obtain ⟨rfl, rfl, rfl⟩ := trodAll_nil r0
 obtain rfl : args = #[v0] := by cases args; simp_all
 obtain ⟨rfl, rfl⟩ := trodVars_none hV
 clear hA0
 have hlt : ∀ x ∈ (p0 ++ []) ++ [], x.block < W.heap.size := fun x hx => hW'.lt x hx
 have hb : Rows.uptoBulk d0 ≤ sm := by
  have h := of_decide_eq_true hk
  simp only [List.append_nil, Rows.uptoBulkAll, Nat.add_zero] at h
  exact h
 obtain ⟨pg, A1, A2, A3, A4, A5, A6, A7, c1, c2, c3, c4, c5, c6, c7, rfl, hP, hcnt, hcap⟩ := open_pg (hval 0 _ v0 rfl rfl) h0 (Nat.le_refl _) hb
 obtain ⟨m0, hm0⟩ := Tryz.laysM144.s1_3 W hsh
 refine (whole_any (m := m0) W A1 A2 A3 A4 A5 A6 A7 pg c1 c2 c3 c4 c5 c6 c7 hm0 hP hcap (fun hm => count_small hm hcnt)).mono fun e W' ⟨he, hbw⟩ => ?_
 subst he
 refine ⟨_, rfl, post_below (pa := p0) (pv := []) hW' (fun _ _ _ => trodAll_mk1 (shut_bool Tryz.underlying4 true)) ?_ rfl (by simp) hbw⟩
 exact trodAll_mk1 (Below.trod Tryz.laidOut rrP tsP h0 hbw (fun x hx => hlt x (by simp [hx])))
set_option maxRecDepth 100000 in
theorem tywhole_lifted (os : Os) (started : os.Started) (H : Type) (enc : TypeId × Value → H) (F : Stop.Interp) :
  ReturnsInHanded {} Tryz.checked os 4 .any ((Rows.OpenSpec.upto Rows.typesWholeSpec).preRow enc Tryz.prog Tryz.f4 Rows.typesWholeUptoRow.domain false Rows.typesWholeUptoRow.laid) (((Rows.OpenSpec.upto Rows.typesWholeSpec).at F).post enc Tryz.prog Tryz.f4 false true false false) := by
 refine returnsInHanded_of_row (C := Tryz.checked) (s := Rows.OpenSpec.upto Rows.typesWholeSpec) Tryz.own started (by kernel_rfl) Tryz.func4
  (witness_row_at (enc := enc) (C := Tryz.checked) false (World.holding Tryz.prog os ⟨#[], #[pgNil], []⟩) #[pgNil] rfl (by kernel_rfl) (by kernel_rfl) (by kernel_rfl)
   (OpenSpec.preRow_of_cond 8 (x := ([.agg [.nil, .nil, .nil, .nil, .nil, .nil, .nil]], [], [])) (by kernel_rfl) (by kernel_rfl) (fun k hk => by cases hk; kernel_rfl) (by kernel_rfl) (laidMetH_nil _ _))) ?_
 intro W base args ds gs before hval hW _ hk _ _ hsh _
 exact tywhole_contract H enc W base args ds gs before hval hW (hk _ rfl) hsh
theorem typesWhole_upto : Rows.TypesWholeUptoSaid :=
 OpenClaim.holds_of_cond 4 Tryz.f4 rfl rfl rfl rfl rfl rfl rfl ⟨rfl, rfl, rfl, rfl, rfl⟩ rfl rfl rfl rfl rfl (by kernel_rfl) Tryz.func4 (by kernel_rfl)
  (of_decide_eq_true (by kernel_rfl)) (by unfold Func.isWrapper; rw [if_neg (of_decide_eq_false (by kernel_rfl))]; exact ⟨rfl, rfl⟩)
  (fun os started H enc _ F => by rw [OpenClaim.pre_eq_preRow]; exact tywhole_lifted os started H enc F)
end Go.Proofs.YtbbdhknagofghaaGreat
