import Derived.Test.YtmapiiclmmmpbaaGreatDoorTkb27
import Derived.Test.YtmapiiclmmmpbaaGreatDoorTkb28
import Derived.Test.YtmapiiclmmmpbaaGreatDoorCards
import Derived.Test.YtmapiiclmmmpbaaGreatDoorTie
import Derived.OpenShut
import Derived.Carry
import Derived.Lib.LaidTab
import Derived.Stop.LaidErr
set_option linter.all false
/-
TokenLexes (layer 3): the tokens of any text, or its first fault, and which texts are keywords and names, are the document's; where the text is of bulk at most 1048576, and the listed package variables hold what the program's text lays (the card ties them to it).
-/
namespace Go.Proofs.YtmapiiclmmmpbaaGreatDoor
open Go.ChangeShapes Go.WideShapes Go.ChangeAt Go.RowKit
open Go.ChangeMaps (open_string shut_string)
theorem Tryz.own : ownKnob Tryz.prog.godebug = none := by kernel_rfl
theorem esStar : "*" ++ "errors.errorString" = "*errors.errorString" := by decide
theorem es_row (u : TypeId) (h : Tryz.prog.typeName? 3 u = some "*errors.errorString") : u = 137 :=
 typeName_ptr_named (nm := "errors.errorString") (by rw [esStar]; kernel_rfl) (by kernel_rfl) (by decide) u (by rw [esStar]; exact h)
theorem g1_named : Tryz.prog.globalNamed "strconv.ErrSyntax" = some 1 := by kernel_rfl
theorem g2_named : Tryz.prog.globalNamed "strconv.ErrRange" = some 2 := by kernel_rfl
/-- The variables that the program's texts meet, off what the row lists and the world's shape. -/
theorem varS_of {W : World} (hL : laidMetH Tryz.prog Rows.tokenLexesUptoRow.laid W) (hsh : W.ShapedOpen Tryz.prog) : VarS W := by
 have hL' : laidMet Tryz.prog Rows.tokenLexesUptoRow.laid W := hL
 have h4 := hL'.tail.tail.tail.tail
 obtain ⟨a2, t2, hv2, _⟩ := laid_sentinel (g := 2) h4 g2_named (by kernel_rfl) Tryz.underlying58 es_row Tryz.underlying137 Tryz.underlying139 rfl rfl Tryz.underlying9 (by kernel_rfl) (by kernel_rfl)
 obtain ⟨a1, t1, hv1, _⟩ := laid_sentinel (g := 1) h4.tail g1_named (by kernel_rfl) Tryz.underlying58 es_row Tryz.underlying137 Tryz.underlying139 rfl rfl Tryz.underlying9 (by kernel_rfl) (by kernel_rfl)
 refine ⟨Go.Proofs.cell_of_shapedOpen_int (zero := #[.int .i64 0]) (t := 3) hsh (of_decide_eq_true (by kernel_rfl)) (by kernel_rfl) rfl (by kernel_rfl) (by kernel_rfl) Tryz.underlying3, ⟨_, World.var?_cell g1_named hv1 0, .inr ⟨_, _, rfl⟩⟩, ⟨_, World.var?_cell g2_named hv2 0, .inr ⟨_, _, rfl⟩⟩⟩
theorem tl_reads (os : Os) {H : Type} (enc : TypeId × Value → H) :
  (Rows.OpenSpec.upto Rows.tokenLexesSpec).preRow enc Tryz.prog Tryz.f3 Rows.tokenLexesUptoRow.domain false Rows.tokenLexesUptoRow.laid ((laidWorld os).forCall (fun _ _ => 0) ⟨#[], #[.string ⟨#[]⟩], []⟩).memory #[.string ⟨#[]⟩] := by
 have hw : (DataW.whole enc Tryz.prog ((laidWorld os).forCall (fun _ _ => 0) ⟨#[], #[.string ⟨#[]⟩], []⟩).memory Tryz.f3.params.toList (Rows.OpenSpec.upto Rows.tokenLexesSpec).vars false #[Value.string ⟨#[]⟩].toList 8).map (fun x => (x.1, x.2.1)) =
   some ([.lit (.string [])], []) := by kernel_rfl
 obtain ⟨⟨x1, x2, x3⟩, hx, hx1⟩ := Option.map_eq_some_iff.1 hw
 simp only [Prod.mk.injEq] at hx1
 obtain ⟨rfl, rfl⟩ := hx1
 exact OpenSpec.preRow_of_cond 8 hx (by kernel_rfl) (fun k hk => by cases hk; kernel_rfl) (by kernel_rfl) (lw_met os _)
set_option maxRecDepth 100000 in
theorem tokenlexes_contract (H : Type) (enc : TypeId × Value → H) (W : World) (base : Nat) (args : Array Value) (ds gs : List (DataW H)) (before : List MemPlace)
  (hval : ∀ (j : Nat) t v, Tryz.f3.params[j]? = some t → args[j]? = some v → Value.okWide Tryz.prog W .any base t v)
  (hW : DataW.Whole enc Tryz.prog Tryz.f3.params.toList Rows.tokenLexesSpec.vars false W args.toList ds gs before) (hk : Rows.uptoSmall H (ds ++ gs) = true) (hV : VarS W) :
  Calls Tryz.prog 3 args W fun e W' => ∃ v, e = .returned v ∧ Rows.tokenLexesSpec.post enc Tryz.prog Tryz.f3 false true false false W args v W' := by
 have hW' := hW
 obtain ⟨p, q, hA0, hV0, rfl, hfz, hnd⟩ := hW
 have hA : DataW.TrodAll enc Tryz.prog W 0 (fun _ => true) true Tryz.f3.params.toList args.toList ds p := hA0
 rw [Tryz.params3] at hA hval
 obtain ⟨v0, vs0, d0, ds0, p0, q0, hargs, rfl, rfl, h0, r0⟩ := trodAll_cons hA
 obtain ⟨rfl, rfl, rfl⟩ := trodAll_nil r0
 obtain rfl : args = #[v0] := by cases args; simp_all
 obtain ⟨rfl, rfl⟩ := trodVars_none hV0
 obtain ⟨s, rfl, rfl, rfl, ws⟩ := open_string Tryz.underlying9 (hval 0 _ v0 rfl rfl) h0
 clear hA0 hV0
 have hs : s.size < 4294967281 := by
  have h := of_decide_eq_true hk
  simp only [List.append_nil, Rows.uptoBulkAll, Rows.uptoBulk, Nat.add_zero] at h
  rw [Lib.size_eq]
  omega
 have e1 : Rows.tokenLexesSpec.fn H ([.lit (.string s.data.toList)] ++ []) = { results := [.lit (.bool true)], args := [.lit (.string s.data.toList)] } := rfl
 refine (tokenlexes_any s W hs hV).mono ?_
 rintro e W' ⟨rfl, bel⟩
 refine ⟨_, rfl, _, _, _, [], [], [], hW', ?_, ?_, ?_, bel.frame _, fun h => by cases h⟩
 ·rw [e1]; exact trodAll_mk1 (shut_bool Tryz.underlying4 true)
 ·rw [e1]; exact trodAll_mk1 (shut_string Tryz.underlying9 ws)
 ·rw [e1]; rfl
set_option maxRecDepth 100000 in
theorem tokenlexes_lifted (os : Os) (started : os.Started) (H : Type) (enc : TypeId × Value → H) (F : Stop.Interp) :
  ReturnsInHanded {} Tryz.checked os 3 .any ((Rows.OpenSpec.upto Rows.tokenLexesSpec).preRow enc Tryz.prog Tryz.f3 Rows.tokenLexesUptoRow.domain false Rows.tokenLexesUptoRow.laid) (((Rows.OpenSpec.upto Rows.tokenLexesSpec).at F).post enc Tryz.prog Tryz.f3 false true false false) := by
 refine returnsInHanded_of_row (C := Tryz.checked) (s := Rows.OpenSpec.upto Rows.tokenLexesSpec) Tryz.own started (by kernel_rfl) Tryz.func3
  (witness_row_atRef (enc := enc) (C := Tryz.checked) false (laidWorld os) #[.string ⟨#[]⟩] rfl (by kernel_rfl) (by kernel_rfl) (by kernel_rfl) (tl_reads os enc)) ?_
 intro W base args ds gs before hval hW _ hk _ hL hsh _
 exact tokenlexes_contract H enc W base args ds gs before hval hW (hk _ rfl) (varS_of hL hsh)
theorem tokenLexes_said : Rows.TokenLexesUptoSaid :=
 OpenClaim.holds_of_cond 3 Tryz.f3 rfl rfl rfl rfl rfl rfl rfl ⟨rfl, rfl, rfl, rfl, rfl⟩ rfl rfl rfl rfl rfl (by kernel_rfl) Tryz.func3 (by kernel_rfl)
  (of_decide_eq_true (by kernel_rfl)) (by unfold Func.isWrapper; rw [if_neg (of_decide_eq_false (by kernel_rfl))]; exact ⟨rfl, rfl⟩)
  (fun os started H enc _ F => by rw [OpenClaim.pre_eq_preRow]; exact tokenlexes_lifted os started H enc F)
theorem tokenLexes_plain (f : FuncId) (fn : Func) (hf : Tryz.pinned.checked.prog.funcNamed "quillon/quillonlaw03.TokenLexes" = some f) (hfn : Tryz.pinned.checked.prog.funcs[f]? = some fn) :
  true = Tryz.pinned.checked.prog.looks [] ∧ ∀ (j : Nat) t, fn.params[j]? = some t → Tryz.pinned.checked.prog.wantsStandIn t = false := by
 obtain rfl : f = 3 := Option.some.inj ((show Tryz.prog.funcNamed "quillon/quillonlaw03.TokenLexes" = some 3 by kernel_rfl).symm.trans hf) |>.symm
 obtain rfl : fn = Tryz.f3 := (Option.some.inj (Tryz.func3.symm.trans hfn)).symm
 refine ⟨by kernel_rfl, fun j t ht => ?_⟩
 rw [Tryz.params3] at ht
 obtain rfl : t = 9 := by simpa using Array.mem_of_getElem? ht
 exact (show Tryz.prog.wantsStandIn 9 = false by kernel_rfl)
theorem tokenLexes_card : Rows.TokenLexesUptoCardSaid :=
 Claim7.holds_tied_plain_at .later [] _ _ _ _ tokenLexes_said (fun _ h => by cases h) (by kernel_rfl) (fun _ h => by cases h) tokenLexesUpto_row_tie rfl ⟨rfl, rfl⟩ (by kernel_rfl) rfl tokenLexes_plain (by kernel_rfl)
end Go.Proofs.YtmapiiclmmmpbaaGreatDoor
