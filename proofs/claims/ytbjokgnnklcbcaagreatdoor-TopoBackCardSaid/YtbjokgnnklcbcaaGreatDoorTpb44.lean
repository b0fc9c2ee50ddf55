import Derived.Test.YtbjokgnnklcbcaaGreatDoorTpb43
set_option linter.all false
/-
TopoBack (layer 13): what is read may be; what may be, written, is read as the same; Next is its own way back; where the listed package variables hold what the program's text lays (the card ties them to it).
-/
namespace Go.Proofs.YtbjokgnnklcbcaaGreatDoor
open Go.ChangeShapes Go.WideShapes Go.ChangeAt Go.RowKit
open Go.ChangeMaps (open_string shut_string)
theorem tb_reads (os : Os) {H : Type} (enc : TypeId × Value → H) :
  (OpenSpec.ofChange Rows.topoBackSpec).preRow enc Tryz.prog Tryz.f4 Rows.topoBackRow.domain false Rows.topoBackRow.laid ((laidWorld os).forCall (fun _ _ => 0) ⟨#[], #[.agg #[.slice none 0 0, .slice none 0 0, .slice none 0 0], .string ⟨#[]⟩], []⟩).memory #[.agg #[.slice none 0 0, .slice none 0 0, .slice none 0 0], .string ⟨#[]⟩] := by
 have hw : (DataW.whole enc Tryz.prog ((laidWorld os).forCall (fun _ _ => 0) ⟨#[], #[.agg #[.slice none 0 0, .slice none 0 0, .slice none 0 0], .string ⟨#[]⟩], []⟩).memory Tryz.f4.params.toList (OpenSpec.ofChange Rows.topoBackSpec).vars false #[Value.agg #[.slice none 0 0, .slice none 0 0, .slice none 0 0], Value.string ⟨#[]⟩].toList 8).map (fun x => (x.1, x.2.1)) =
   some ([.agg [.nil, .nil, .nil], .lit (.string [])], []) := by kernel_rfl
 obtain ⟨⟨x1, x2, x3⟩, hx, hx1⟩ := Option.map_eq_some_iff.1 hw
 simp only [Prod.mk.injEq] at hx1
 obtain ⟨rfl, rfl⟩ := hx1
 exact OpenSpec.preRow_of_cond 8 hx (by kernel_rfl) (fun k hk => by cases hk) (by kernel_rfl) (lw_met os _)
set_option maxRecDepth 100000 in
theorem topoback_contract (H : Type) (enc : TypeId × Value → H) (W : World) (base : Nat) (args : Array Value) (ds gs : List (DataW H)) (before : List MemPlace)
  (hval : ∀ (j : Nat) t v, Tryz.f4.params[j]? = some t → args[j]? = some v → Value.okWide Tryz.prog W .any base t v)
  (hW : DataW.Whole enc Tryz.prog Tryz.f4.params.toList Rows.topoBackSpec.vars false W args.toList ds gs before) (hV : VarS W) (hP : PowS W) :
  Calls Tryz.prog 4 args W fun e W' => ∃ v, e = .returned v ∧ Rows.topoBackSpec.post enc Tryz.prog Tryz.f4 false true false false W args v W' := by
 have hW' := hW
 obtain ⟨p, q, hA0, hV0, rfl, hfz, hnd⟩ := hW
 have hA : DataW.TrodAll enc Tryz.prog W 0 (fun _ => true) true Tryz.f4.params.toList args.toList ds p := hA0
 rw [Tryz.params4] at hA hval
 obtain ⟨v0, vs0, d0, ds0, p0, q0, hargs, rfl, rfl, h0, r0⟩ := trodAll_cons hA
 obtain ⟨v1, vs1, d1, ds1, p1, q1, hargs1, rfl, rfl, h1, r1⟩ := trodAll_cons r0
 obtain ⟨rfl, rfl, rfl⟩ := trodAll_nil r1
 obtain rfl : args = #[v0, v1] := by cases args; simp_all
 obtain ⟨rfl, rfl⟩ := trodVars_none hV0
 obtain ⟨n, A1, A2, A3, c1, c2, c3, rfl, hN⟩ := open_net (hval 0 _ v0 rfl rfl) h0
 obtain ⟨s, rfl, rfl, rfl, ws⟩ := open_string Tryz.underlying9 (hval 1 _ v1 rfl rfl) h1
 have hlt : ∀ x ∈ p0 ++ ([] ++ []) ++ [], x.block < W.heap.size := fun x hx => hW'.lt x hx
 clear hA0 hV0
 obtain ⟨mm, hm⟩ := hV.m
 refine (topoback_any sortC_holds n A1 A2 A3 c1 c2 c3 s W mm hN ws hV hP hm (cell_lt hm)).mono ?_
 rintro e W' ⟨rfl, bel⟩
 refine ⟨_, rfl, post_below (pa := p0 ++ ([] ++ [])) (pv := []) hW' (fun _ _ _ => trodAll_mk1 (shut_bool Tryz.underlying4 true)) ?_ rfl (by simp) bel⟩
 exact trodAll_mk2 (Below.trod Tryz.laidOut rr26 ts26 h0 bel (fun x hx => hlt x (by simp [hx]))) (shut_string Tryz.underlying9 ws)
set_option maxRecDepth 100000 in
theorem topoback_lifted (os : Os) (started : os.Started) (H : Type) (enc : TypeId × Value → H) (F : Stop.Interp) :
  ReturnsInHanded {} Tryz.checked os 4 .any ((OpenSpec.ofChange Rows.topoBackSpec).preRow enc Tryz.prog Tryz.f4 Rows.topoBackRow.domain false Rows.topoBackRow.laid) (((OpenSpec.ofChange Rows.topoBackSpec).at F).post enc Tryz.prog Tryz.f4 false true false false) := by
 refine returnsInHanded_of_row (C := Tryz.checked) (s := OpenSpec.ofChange Rows.topoBackSpec) Tryz.own started (by kernel_rfl) Tryz.func4
  (witness_row_atRef (enc := enc) (C := Tryz.checked) false (laidWorld os) #[.agg #[.slice none 0 0, .slice none 0 0, .slice none 0 0], .string ⟨#[]⟩] rfl (by kernel_rfl) (by kernel_rfl) (by kernel_rfl) (tb_reads os enc)) ?_
 intro W base args ds gs before hval hW _ _ _ hL hsh _
 exact topoback_contract H enc W base args ds gs before hval hW (varS_of hL hsh) (powS_of hL)
theorem topoBack_said : Rows.TopoBackSaid :=
 OpenClaim.holds_of_cond 4 Tryz.f4 rfl rfl rfl rfl rfl rfl rfl ⟨rfl, rfl, rfl, rfl, rfl⟩ rfl rfl rfl rfl rfl (by kernel_rfl) Tryz.func4 (by kernel_rfl)
  (of_decide_eq_true (by kernel_rfl)) (by unfold Func.isWrapper; rw [if_neg (of_decide_eq_false (by kernel_rfl))]; exact ⟨rfl, rfl⟩)
  (fun os started H enc _ F => by rw [OpenClaim.pre_eq_preRow]; exact topoback_lifted os started H enc F)
theorem topoBack_plain (f : FuncId) (fn : Func) (hf : Tryz.pinned.checked.prog.funcNamed "quillon/quillonlaw13.TopoBack" = some f) (hfn : Tryz.pinned.checked.prog.funcs[f]? = some fn) :
  true = Tryz.pinned.checked.prog.looks [] ∧ ∀ (j : Nat) t, fn.params[j]? = some t → Tryz.pinned.checked.prog.wantsStandIn t = false := by
 obtain rfl : f = 4 := Option.some.inj ((show Tryz.prog.funcNamed "quillon/quillonlaw13.TopoBack" = some 4 by kernel_rfl).symm.trans hf) |>.symm
 obtain rfl : fn = Tryz.f4 := (Option.some.inj (Tryz.func4.symm.trans hfn)).symm
 refine ⟨by kernel_rfl, fun j t ht => ?_⟩
 rw [Tryz.params4] at ht
 have h : t = 27 ∨ t = 9 := by simpa using Array.mem_of_getElem? ht
 rcases h with rfl | rfl
 ·exact (show Tryz.prog.wantsStandIn 27 = false by kernel_rfl)
 ·exact (show Tryz.prog.wantsStandIn 9 = false by kernel_rfl)
theorem topoBack_card : Rows.TopoBackCardSaid :=
 Claim7.holds_tied_plain_at .later [] _ _ _ _ topoBack_said (fun _ h => by cases h) (by kernel_rfl) (fun _ h => by cases h) topoBack_row_tie rfl ⟨rfl, rfl⟩ (by kernel_rfl) rfl topoBack_plain (by kernel_rfl)
end Go.Proofs.YtbjokgnnklcbcaaGreatDoor
