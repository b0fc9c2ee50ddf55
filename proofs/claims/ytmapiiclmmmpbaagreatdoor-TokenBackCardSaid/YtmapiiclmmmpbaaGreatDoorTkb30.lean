import Derived.Test.YtmapiiclmmmpbaaGreatDoorTkb28
import Derived.Test.YtmapiiclmmmpbaaGreatDoorTkb29
set_option linter.all false
/-
TokenBack (layer 3): tokens of any text, written side by side with something between that may stand there, are lexed as the same ones, and each stands where it says; where the listed package variables hold what the program's text lays (the card ties them to it).
-/
namespace Go.Proofs.YtmapiiclmmmpbaaGreatDoor
open Go.ChangeShapes Go.WideShapes Go.ChangeAt Go.RowKit
open Go.ChangeMaps (open_string shut_string)
theorem tb_reads (os : Os) {H : Type} (enc : TypeId × Value → H) :
  (OpenSpec.ofChange Rows.tokenBackSpec).preRow enc Tryz.prog Tryz.f4 Rows.tokenBackRow.domain false Rows.tokenBackRow.laid ((laidWorld os).forCall (fun _ _ => 0) ⟨#[], #[.string ⟨#[]⟩, .int .u8 0], []⟩).memory #[.string ⟨#[]⟩, .int .u8 0] := by
 have hw : (DataW.whole enc Tryz.prog ((laidWorld os).forCall (fun _ _ => 0) ⟨#[], #[.string ⟨#[]⟩, .int .u8 0], []⟩).memory Tryz.f4.params.toList (OpenSpec.ofChange Rows.tokenBackSpec).vars false #[Value.string ⟨#[]⟩, Value.int .u8 0].toList 8).map (fun x => (x.1, x.2.1)) =
   some ([.lit (.string []), .lit (.int .u8 0)], []) := by kernel_rfl
 obtain ⟨⟨x1, x2, x3⟩, hx, hx1⟩ := Option.map_eq_some_iff.1 hw
 simp only [Prod.mk.injEq] at hx1
 obtain ⟨rfl, rfl⟩ := hx1
 exact OpenSpec.preRow_of_cond 8 hx (by kernel_rfl) (fun k hk => by cases hk) (by kernel_rfl) (lw_met os _)
set_option maxRecDepth 100000 in
theorem tokenback_contract (H : Type) (enc : TypeId × Value → H) (W : World) (base : Nat) (args : Array Value) (ds gs : List (DataW H)) (before : List MemPlace)
  (hval : ∀ (j : Nat) t v, Tryz.f4.params[j]? = some t → args[j]? = some v → Value.okWide Tryz.prog W .any base t v)
  (hW : DataW.Whole enc Tryz.prog Tryz.f4.params.toList Rows.tokenBackSpec.vars false W args.toList ds gs before) (hV : VarS W) :
  Calls Tryz.prog 4 args W fun e W' => ∃ v, e = .returned v ∧ Rows.tokenBackSpec.post enc Tryz.prog Tryz.f4 false true false false W args v W' := by
 have hW' := hW
 obtain ⟨p, q, hA0, hV0, rfl, hfz, hnd⟩ := hW
 have hA : DataW.TrodAll enc Tryz.prog W 0 (fun _ => true) true Tryz.f4.params.toList args.toList ds p := hA0
 rw [Tryz.params4] at hA hval
 obtain ⟨v0, vs0, d0, ds0, p0, q0, hargs, rfl, rfl, h0, r0⟩ := trodAll_cons hA
 obtain ⟨v1, vs1, d1, ds1, p1, q1, hargs1, rfl, rfl, h1, r1⟩ := trodAll_cons r0
 obtain ⟨rfl, rfl, rfl⟩ := trodAll_nil r1
 obtain rfl : args = #[v0, v1] := by cases args; simp_all
 obtain ⟨rfl, rfl⟩ := trodVars_none hV0
 obtain ⟨s, rfl, rfl, rfl, ws⟩ := open_string Tryz.underlying9 (hval 0 _ v0 rfl rfl) h0
 obtain ⟨b, rfl, rfl, rfl, wb⟩ := open_int Tryz.underlying5 (hval 1 _ v1 rfl rfl) h1
 clear hA0 hV0
 have hb0 : 0 ≤ b := by
  have h := wb
  simp [Lit.wf, IntKind.min, IntKind.max, IntKind.signed, IntKind.bits] at h
  exact h.1
 have e1 : Rows.tokenBackSpec.fn H ([.lit (.string s.data.toList), .lit (.int .u8 b)] ++ []) = { results := [.lit (.bool true)], args := [.lit (.string s.data.toList), .lit (.int .u8 b)] } := rfl
 refine (tokenback_any s b W hb0 ws hV).mono ?_
 rintro e W' ⟨rfl, bel⟩
 refine ⟨_, rfl, _, _, _, [], [], [], hW', ?_, ?_, ?_, bel.frame _, fun h => by cases h⟩
 ·rw [e1]; exact trodAll_mk1 (shut_bool Tryz.underlying4 true)
 ·rw [e1]; exact trodAll_mk2 (shut_string Tryz.underlying9 ws) (shut_int Tryz.underlying5 wb)
 ·rw [e1]; rfl
set_option maxRecDepth 100000 in
theorem tokenback_lifted (os : Os) (started : os.Started) (H : Type) (enc : TypeId × Value → H) (F : Stop.Interp) :
  ReturnsInHanded {} Tryz.checked os 4 .any ((OpenSpec.ofChange Rows.tokenBackSpec).preRow enc Tryz.prog Tryz.f4 Rows.tokenBackRow.domain false Rows.tokenBackRow.laid) (((OpenSpec.ofChange Rows.tokenBackSpec).at F).post enc Tryz.prog Tryz.f4 false true false false) := by
 refine returnsInHanded_of_row (C := Tryz.checked) (s := OpenSpec.ofChange Rows.tokenBackSpec) Tryz.own started (by kernel_rfl) Tryz.func4
  (witness_row_atRef (enc := enc) (C := Tryz.checked) false (laidWorld os) #[.string ⟨#[]⟩, .int .u8 0] rfl (by kernel_rfl) (by kernel_rfl) (by kernel_rfl) (tb_reads os enc)) ?_
 intro W base args ds gs before hval hW _ _ _ hL hsh _
 exact tokenback_contract H enc W base args ds gs before hval hW (varS_of hL hsh)
theorem tokenBack_said : Rows.TokenBackSaid :=
 OpenClaim.holds_of_cond 4 Tryz.f4 rfl rfl rfl rfl rfl rfl rfl ⟨rfl, rfl, rfl, rfl, rfl⟩ rfl rfl rfl rfl rfl (by kernel_rfl) Tryz.func4 (by kernel_rfl)
  (of_decide_eq_true (by kernel_rfl)) (by unfold Func.isWrapper; rw [if_neg (of_decide_eq_false (by kernel_rfl))]; exact ⟨rfl, rfl⟩)
  (fun os started H enc _ F => by rw [OpenClaim.pre_eq_preRow]; exact tokenback_lifted os started H enc F)
theorem tokenBack_plain (f : FuncId) (fn : Func) (hf : Tryz.pinned.checked.prog.funcNamed "quillon/quillonlaw03.TokenBack" = some f) (hfn : Tryz.pinned.checked.prog.funcs[f]? = some fn) :
  true = Tryz.pinned.checked.prog.looks [] ∧ ∀ (j : Nat) t, fn.params[j]? = some t → Tryz.pinned.checked.prog.wantsStandIn t = false := by
 obtain rfl : f = 4 := Option.some.inj ((show Tryz.prog.funcNamed "quillon/quillonlaw03.TokenBack" = some 4 by kernel_rfl).symm.trans hf) |>.symm
 obtain rfl : fn = Tryz.f4 := (Option.some.inj (Tryz.func4.symm.trans hfn)).symm
 refine ⟨by kernel_rfl, fun j t ht => ?_⟩
 rw [Tryz.params4] at ht
 have h : t = 9 ∨ t = 5 := by simpa using Array.mem_of_getElem? ht
 rcases h with rfl | rfl
 ·exact (show Tryz.prog.wantsStandIn 9 = false by kernel_rfl)
 ·exact (show Tryz.prog.wantsStandIn 5 = false by kernel_rfl)
theorem tokenBack_card : Rows.TokenBackCardSaid :=
 Claim7.holds_tied_plain_at .later [] _ _ _ _ tokenBack_said (fun _ h => by cases h) (by kernel_rfl) (fun _ h => by cases h) tokenBack_row_tie rfl ⟨rfl, rfl⟩ (by kernel_rfl) rfl tokenBack_plain (by kernel_rfl)
end Go.Proofs.YtmapiiclmmmpbaaGreatDoor
/-
TokenLexes (layer 3, the second form): the tokens of any text, or its first fault, and which texts are keywords and names, are the document's; where the text is of bulk at most 1048576. TokenBack (layer 3, in full): tokens of any text, written side by side with something between that may stand there, are lexed as the same ones, and each stands where it says. Both where the listed package variables hold what the program's text lays (the cards tie them to it).
-/
namespace Go.Proofs.YtmapiiclmmmpbaaGreatDoor
theorem tokens_both : Rows.TokenLexesUptoCardSaid ∧ Rows.TokenBackCardSaid := ⟨tokenLexes_card, tokenBack_card⟩
end Go.Proofs.YtmapiiclmmmpbaaGreatDoor
