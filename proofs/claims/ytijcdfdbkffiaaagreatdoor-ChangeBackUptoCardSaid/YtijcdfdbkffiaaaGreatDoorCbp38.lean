/-
ChangeBack (layer 47): lists that were changed, changed by what changes them back, are as they were, and that, changed back, is as it was then; where the arguments are of bulk at most 1048576, and the listed package variables hold what the program's text lays (the card ties them to it).
-/
import Derived.Test.YtijcdfdbkffiaaaGreatDoorCbp37
set_option linter.all false
open Go.Proofs.Tryz
namespace Go.Proofs.YtijcdfdbkffiaaaGreatDoor
section
open Go.ChangeShapes Go.WideShapes Go.ChangeAt Go.RowKit
theorem jJ (f:FuncId) (fn:Func) (hf:Tryz.pinned.checked.prog.funcNamed "quillon/quillonlaw47.ChangeBack" =some f) (hfn:Tryz.pinned.checked.prog.funcs[f]? =some fn):
  true=Tryz.pinned.checked.prog.looks []∧∀ (j:Nat) t,fn.params[j]? =some t→Tryz.pinned.checked.prog.wantsStandIn t=false:=by
 obtain rfl:f=4:=Option.some.inj ((show prog.funcNamed "quillon/quillonlaw47.ChangeBack" =some 4 by kernel_rfl).symm.trans hf)|>.symm
 obtain rfl:fn=Tryz.f4:=(Option.some.inj (func4.symm.trans hfn)).symm
 refine ⟨by kernel_rfl,fun j t ht=> ?_⟩
 rw [Tryz.params4] at ht
 have h:t=33∨t=34∨t=35:=by simpa using Array.mem_of_getElem? ht
 rcases h with rfl|rfl|rfl
 ·exact (show prog.wantsStandIn 33=false by kernel_rfl)
 ·exact (show prog.wantsStandIn 34=false by kernel_rfl)
 ·exact (show prog.wantsStandIn 35=false by kernel_rfl)
theorem changeBack_card:Rows.ChangeBackUptoCardSaid:=
 Claim7.holds_tied_plain_at .later [] _ _ _ _ kv (fun _ h=>by cases h) (by kernel_rfl) (fun _ h=>by cases h) changeBackUpto_row_tie rfl ⟨rfl,rfl⟩ (by kernel_rfl) rfl jJ (by kernel_rfl)
end
end Go.Proofs.YtijcdfdbkffiaaaGreatDoor
