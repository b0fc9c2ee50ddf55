import Derived.Test.YtijcdfdbkffiaaaGreatDoorCbp35
set_option linter.all false
set_option maxRecDepth 100000
open Go.Proofs.Tryz
namespace Go.Proofs.YtijcdfdbkffiaaaGreatDoor
section
open Go.ChangeShapes Go.WideShapes Go.ChangeAt Go.RowKit
theorem dd {a b:Bool} (h1:a=true) (h2:b=true):(a&&b)=true:=by rw [h1,h2];rfl
theorem uu:joinedFacts prog 4 Tryz.f4 (Rows.OpenSpec.upto Rows.changeBackSpec).bare Rows.changeBackUptoRow=true:=by
 unfold joinedFacts
 refine dd ?_ (by with_reducible_and_instances exact GM)
 refine dd ?_ (by with_reducible_and_instances exact GL)
 refine dd ?_ (by with_reducible_and_instances exact GK)
 refine dd ?_ (by with_reducible_and_instances exact GJ)
 refine dd ?_ (by with_reducible_and_instances exact GI)
 refine dd ?_ (by with_reducible_and_instances exact GH)
 refine dd ?_ (by with_reducible_and_instances exact GG)
 refine dd ?_ (by with_reducible_and_instances exact GF)
 refine dd ?_ (by with_reducible_and_instances exact GE)
 refine dd ?_ (by with_reducible_and_instances exact GD)
 refine dd ?_ (by with_reducible_and_instances exact GB)
 refine dd ?_ (by with_reducible_and_instances exact GA)
 refine dd ?_ (by with_reducible_and_instances exact Gz)
 refine dd ?_ (by with_reducible_and_instances exact Gy)
 refine dd ?_ (by with_reducible_and_instances exact Gx)
 refine dd ?_ (by with_reducible_and_instances exact Gw)
 refine dd ?_ (by with_reducible_and_instances exact Gv)
 refine dd ?_ (by with_reducible_and_instances exact Gu)
 refine dd ?_ (by with_reducible_and_instances exact Gt)
 refine dd ?_ (by with_reducible_and_instances exact Gs)
 refine dd ?_ (by with_reducible_and_instances exact Gq)
 refine dd ?_ (by with_reducible_and_instances exact Gp)
 refine dd ?_ (by with_reducible_and_instances exact Hm)
 refine dd ?_ (by with_reducible_and_instances exact Hl)
 refine dd ?_ (by with_reducible_and_instances exact Hk)
 refine dd ?_ (by with_reducible_and_instances exact Hj)
 refine dd ?_ (by with_reducible_and_instances exact Hi)
 refine dd ?_ (by with_reducible_and_instances exact Hh)
 refine dd ?_ (by with_reducible_and_instances exact Hg)
 refine dd ?_ (by with_reducible_and_instances exact Hf)
 refine dd ?_ (by with_reducible_and_instances exact He)
 with_reducible_and_instances exact Hc
end
end Go.Proofs.YtijcdfdbkffiaaaGreatDoor
