import Derived.Test.YtiebolhmdhdagaaGreatDoorEwp49
set_option linter.all false
set_option maxRecDepth 100000
open Go.Proofs.Tryz
namespace Go.Proofs.YtiebolhmdhdagaaGreatDoor
section
open Go.ChangeShapes Go.WideShapes Go.ChangeAt Go.RowKit
theorem dh {a b:Bool} (h1:a=true) (h2:b=true):(a&&b)=true:=by rw [h1,h2];rfl
theorem vr:joinedFacts prog 3 Tryz.f3 (Rows.OpenSpec.upto Rows.entriesWrittenSpec).bare Rows.entriesWrittenUptoRow=true:=by
 unfold joinedFacts
 refine dh ?_ (by with_reducible_and_instances exact Gy)
 refine dh ?_ (by with_reducible_and_instances exact Gx)
 refine dh ?_ (by with_reducible_and_instances exact Gw)
 refine dh ?_ (by with_reducible_and_instances exact Gv)
 refine dh ?_ (by with_reducible_and_instances exact Gu)
 refine dh ?_ (by with_reducible_and_instances exact Gt)
 refine dh ?_ (by with_reducible_and_instances exact Gs)
 refine dh ?_ (by with_reducible_and_instances exact Gq)
 refine dh ?_ (by with_reducible_and_instances exact Gp)
 refine dh ?_ (by with_reducible_and_instances exact Gn)
 refine dh ?_ (by with_reducible_and_instances exact Gm)
 refine dh ?_ (by with_reducible_and_instances exact Gl)
 refine dh ?_ (by with_reducible_and_instances exact Gk)
 refine dh ?_ (by with_reducible_and_instances exact Gj)
 refine dh ?_ (by with_reducible_and_instances exact Gi)
 refine dh ?_ (by with_reducible_and_instances exact Gh)
 refine dh ?_ (by with_reducible_and_instances exact Gg)
 refine dh ?_ (by with_reducible_and_instances exact Gf)
 refine dh ?_ (by with_reducible_and_instances exact Ge)
 refine dh ?_ (by with_reducible_and_instances exact Gd)
 refine dh ?_ (by with_reducible_and_instances exact Gc)
 refine dh ?_ (by with_reducible_and_instances exact Gb)
 refine dh ?_ (by with_reducible_and_instances exact G8)
 refine dh ?_ (by with_reducible_and_instances exact G7)
 refine dh ?_ (by with_reducible_and_instances exact G6)
 refine dh ?_ (by with_reducible_and_instances exact G5)
 refine dh ?_ (by with_reducible_and_instances exact G4)
 refine dh ?_ (by with_reducible_and_instances exact G3)
 refine dh ?_ (by with_reducible_and_instances exact G2)
 refine dh ?_ (by with_reducible_and_instances exact G1)
 refine dh ?_ (by with_reducible_and_instances exact GZ)
 with_reducible_and_instances exact GY
end
end Go.Proofs.YtiebolhmdhdagaaGreatDoor
