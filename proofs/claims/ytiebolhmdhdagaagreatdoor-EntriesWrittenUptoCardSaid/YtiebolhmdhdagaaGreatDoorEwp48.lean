import Derived.Test.YtiebolhmdhdagaaGreatDoorEwp47
set_option linter.all false
set_option maxRecDepth 100000
open Go.Proofs.Tryz
namespace Go.Proofs.YtiebolhmdhdagaaGreatDoor
section
open Go.ChangeShapes Go.WideShapes Go.ChangeAt Go.RowKit
theorem gG (os:Os) (started:os.Started) (H:Type) (enc:TypeId×Value→H) (F:Stop.Interp):
  ReturnsInHanded {} Tryz.checked os 3 .any ((Rows.OpenSpec.upto Rows.entriesWrittenSpec).preRow enc prog Tryz.f3 Rows.entriesWrittenUptoRow.domain false Rows.entriesWrittenUptoRow.laid) (((Rows.OpenSpec.upto Rows.entriesWrittenSpec).at F).post enc prog Tryz.f3 false true false false):=by
 refine returnsInHanded_of_row (C:=Tryz.checked) (s:=Rows.OpenSpec.upto Rows.entriesWrittenSpec) Tryz.own started (by kernel_rfl) func3
  (witness_row_atRef (enc:=enc) (C:=Tryz.checked) false (d7 os) #[tU,.slice none 0 0,.slice none 0 0] rfl (by kernel_rfl) (by kernel_rfl) (by kernel_rfl) (Cp os enc)) ?_
 intro W base args ds gs before hval hW _ hk _ hL hsh _
 exact f9 H enc W base args ds gs before hval hW (hk _ rfl) (DN hL hsh) (wL hL) (DO (wL hL))
end
end Go.Proofs.YtiebolhmdhdagaaGreatDoor
