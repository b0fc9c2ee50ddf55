/-
EntriesWritten (layer 12): which entries may be, which are the same, and any entries' text, are the document's, and what may be, written, is read as the same; where the arguments are of bulk at most 1048576, and the listed package variables hold what the program's text lays (the card ties them to it).
-/
import Derived.Test.YtiebolhmdhdagaaGreatDoorEwp51
set_option linter.all false
open Go.Proofs.Tryz
namespace Go.Proofs.YtiebolhmdhdagaaGreatDoor
section
open Go.ChangeShapes Go.WideShapes Go.ChangeAt Go.RowKit
theorem ic (f:FuncId) (fn:Func) (hf:Tryz.pinned.checked.prog.funcNamed "quillon/quillonlaw12.EntriesWritten" =some f) (hfn:Tryz.pinned.checked.prog.funcs[f]? =some fn):
  true=Tryz.pinned.checked.prog.looks []∧∀ (j:Nat) t,fn.params[j]? =some t→Tryz.pinned.checked.prog.wantsStandIn t=false:=by
 obtain rfl:f=3:=Option.some.inj ((show prog.funcNamed "quillon/quillonlaw12.EntriesWritten" =some 3 by kernel_rfl).symm.trans hf)|>.symm
 obtain rfl:fn=Tryz.f3:=(Option.some.inj (func3.symm.trans hfn)).symm
 refine ⟨by kernel_rfl,fun j t ht=> ?_⟩
 rw [Tryz.params3] at ht
 have h:t=33∨t=28∨t=34:=by simpa using Array.mem_of_getElem? ht
 rcases h with rfl|rfl|rfl
 ·exact (show prog.wantsStandIn 33=false by kernel_rfl)
 ·exact (show prog.wantsStandIn 28=false by kernel_rfl)
 ·exact (show prog.wantsStandIn 34=false by kernel_rfl)
theorem entriesWritten_card:Rows.EntriesWrittenUptoCardSaid:=
 Claim7.holds_tied_plain_at .later [] _ _ _ _ iC (fun _ h=>by cases h) (by kernel_rfl) (fun _ h=>by cases h) entriesWrittenUpto_row_tie rfl ⟨rfl,rfl⟩ (by kernel_rfl) rfl ic (by kernel_rfl)
end
end Go.Proofs.YtiebolhmdhdagaaGreatDoor
