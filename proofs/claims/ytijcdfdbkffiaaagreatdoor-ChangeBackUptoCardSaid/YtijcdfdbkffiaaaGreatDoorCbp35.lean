import Derived.Test.YtijcdfdbkffiaaaGreatDoorCbp34
set_option linter.all false
open Go.Proofs.Tryz
namespace Go.Proofs.YtijcdfdbkffiaaaGreatDoor
section
open Go.ChangeShapes Go.WideShapes Go.ChangeAt Go.RowKit
abbrev JF (g:Program→FuncId→Func→ChangeSpec→OpenClaim→Bool):Prop:=g prog 4 Tryz.f4 (Rows.OpenSpec.upto Rows.changeBackSpec).bare Rows.changeBackUptoRow=true
theorem Hc:JF fun P f fn s c=>c.wf (OpenSpec.ofChange s):=by unfold JF;kernel_rfl
theorem He:JF fun P f fn s c=>laidOutB P:=by unfold JF;kernel_rfl
theorem Hf:JF fun P f fn s c=>mapsRowed P:=by unfold JF;kernel_rfl
theorem Hg:JF fun P f fn s c=>fn.params.all (P.readableRec ·):=by unfold JF;kernel_rfl
theorem Hh:JF fun P f fn s c=>namedTie P c.named s.vars:=by unfold JF;kernel_rfl
theorem Hi:JF fun P f fn s c=>(c.stops== []):=by unfold JF;kernel_rfl
theorem Hj:JF fun P f fn s c=>(P.stops== []):=by unfold JF;kernel_rfl
theorem Hk:JF fun P f fn s c=>(c.knobs== []):=by unfold JF;kernel_rfl
theorem Hl:JF fun P f fn s c=>(P.stopKnobs== []):=by unfold JF;kernel_rfl
theorem Hm:JF fun P f fn s c=>(c.inPlace==P.inPlace f):=by unfold JF;kernel_rfl
theorem Gp:JF fun P f fn s c=>(c.unfollowed==P.unfollowed f):=by unfold JF;kernel_rfl
theorem Gq:JF fun P f fn s c=>(c.recurses==P.recurses f):=by unfold JF;kernel_rfl
theorem Gs:JF fun P f fn s c=>(c.named==P.varsNamed f):=by unfold JF;kernel_rfl
theorem Gt:JF fun P f fn s c=>(c.maps==(fn.params.toList++s.plain.varTypes P).any (P.mapsRec ·)):=by unfold JF;kernel_rfl
theorem Gu:JF fun P f fn s c=>(c.ifaces==(fn.params.toList++s.plain.varTypes P).any (P.ifacesRec ·)):=by unfold JF;kernel_rfl
theorem Gv:JF fun P f fn s c=>(c.mapsOut==P.mapsAmong fn.resultTypes.toList):=by unfold JF;kernel_rfl
theorem Gw:JF fun P f fn s c=>(c.loops==(fn.params.toList++s.plain.varTypes P).any (P.loopsFrom ·)):=by unfold JF;kernel_rfl
theorem Gx:JF fun P f fn s c=>(c.wideKeys==(fn.params.toList++s.plain.varTypes P++fn.resultTypes.toList).any (P.wideKeysFrom ·)):=by unfold JF;kernel_rfl
theorem Gy:JF fun P f fn s c=>s.vars.all (P.varReadable ·):=by unfold JF;kernel_rfl
theorem Gz:JF fun P f fn s c=>fn.resultTypes.all (fun t=>P.readableRec t&&decide (t<P.types.size)):=by unfold JF;kernel_rfl
theorem GA:JF fun P f fn s c=>(c.ifacesOut==fn.resultTypes.toList.any (P.ifacesRec ·)):=by unfold JF;kernel_rfl
theorem GB:JF fun P f fn s c=>(c.loopsOut==fn.resultTypes.toList.any (P.loopsFrom ·)):=by unfold JF;kernel_rfl
theorem GD:JF fun P f fn s c=>(c.plainKeys==P.plainKeys):=by unfold JF;kernel_rfl
theorem GE:JF fun P f fn s c=>c.shortTexts.isNone:=by unfold JF;kernel_rfl
theorem GF:JF fun P f fn s c=>P.stopsHeard:=by unfold JF;kernel_rfl
theorem GG:JF fun P f fn s c=>P.mayEnter:=by unfold JF;kernel_rfl
theorem GH:JF fun P f fn s c=>(c.lifted==P.liftsFinal):=by unfold JF;kernel_rfl
theorem GI:JF fun P f fn s c=>(P.make==some c.make):=by unfold JF;kernel_rfl
theorem GJ:JF fun P f fn s c=>(c.kinds==(if c.domain.isEmpty then [] else fn.params.toList.map fun t=>match P.underlying t with|some (.int k)=>some k|_=>none)):=by unfold JF;kernel_rfl
theorem GK:JF fun P f fn s c=>(c.pinned==c.pinnedBy):=by unfold JF;kernel_rfl
theorem GL:JF fun P f fn s c=>(c.veiled==(fn.params.toList++s.plain.varTypes P++fn.resultTypes.toList).any (P.veiledRec ·)):=by unfold JF;kernel_rfl
theorem GM:JF fun P f fn s c=>c.veiledFits P fn.params.toList (fn.params.toList++s.plain.varTypes P++fn.resultTypes.toList):=by unfold JF;kernel_rfl
end
end Go.Proofs.YtijcdfdbkffiaaaGreatDoor
