import Derived.Test.YtiebolhmdhdagaaGreatDoorEwp48
set_option linter.all false
open Go.Proofs.Tryz
namespace Go.Proofs.YtiebolhmdhdagaaGreatDoor
section
open Go.ChangeShapes Go.WideShapes Go.ChangeAt Go.RowKit
theorem GY:(fun (P:Program) (f:FuncId) (fn:Func) (s:ChangeSpec) (c:OpenClaim)=>c.wf (OpenSpec.ofChange s)) prog 3 Tryz.f3 (Rows.OpenSpec.upto Rows.entriesWrittenSpec).bare Rows.entriesWrittenUptoRow=true:=by kernel_rfl
theorem GZ:(fun (P:Program) (f:FuncId) (fn:Func) (s:ChangeSpec) (c:OpenClaim)=>laidOutB P) prog 3 Tryz.f3 (Rows.OpenSpec.upto Rows.entriesWrittenSpec).bare Rows.entriesWrittenUptoRow=true:=by kernel_rfl
theorem G1:(fun (P:Program) (f:FuncId) (fn:Func) (s:ChangeSpec) (c:OpenClaim)=>mapsRowed P) prog 3 Tryz.f3 (Rows.OpenSpec.upto Rows.entriesWrittenSpec).bare Rows.entriesWrittenUptoRow=true:=by kernel_rfl
theorem G2:(fun (P:Program) (f:FuncId) (fn:Func) (s:ChangeSpec) (c:OpenClaim)=>fn.params.all (P.readableRec ·)) prog 3 Tryz.f3 (Rows.OpenSpec.upto Rows.entriesWrittenSpec).bare Rows.entriesWrittenUptoRow=true:=by kernel_rfl
theorem G3:(fun (P:Program) (f:FuncId) (fn:Func) (s:ChangeSpec) (c:OpenClaim)=>namedTie P c.named s.vars) prog 3 Tryz.f3 (Rows.OpenSpec.upto Rows.entriesWrittenSpec).bare Rows.entriesWrittenUptoRow=true:=by kernel_rfl
theorem G4:(fun (P:Program) (f:FuncId) (fn:Func) (s:ChangeSpec) (c:OpenClaim)=>(c.stops== [])) prog 3 Tryz.f3 (Rows.OpenSpec.upto Rows.entriesWrittenSpec).bare Rows.entriesWrittenUptoRow=true:=by kernel_rfl
theorem G5:(fun (P:Program) (f:FuncId) (fn:Func) (s:ChangeSpec) (c:OpenClaim)=>(P.stops== [])) prog 3 Tryz.f3 (Rows.OpenSpec.upto Rows.entriesWrittenSpec).bare Rows.entriesWrittenUptoRow=true:=by kernel_rfl
theorem G6:(fun (P:Program) (f:FuncId) (fn:Func) (s:ChangeSpec) (c:OpenClaim)=>(c.knobs== [])) prog 3 Tryz.f3 (Rows.OpenSpec.upto Rows.entriesWrittenSpec).bare Rows.entriesWrittenUptoRow=true:=by kernel_rfl
theorem G7:(fun (P:Program) (f:FuncId) (fn:Func) (s:ChangeSpec) (c:OpenClaim)=>(P.stopKnobs== [])) prog 3 Tryz.f3 (Rows.OpenSpec.upto Rows.entriesWrittenSpec).bare Rows.entriesWrittenUptoRow=true:=by kernel_rfl
theorem G8:(fun (P:Program) (f:FuncId) (fn:Func) (s:ChangeSpec) (c:OpenClaim)=>(c.inPlace==P.inPlace f)) prog 3 Tryz.f3 (Rows.OpenSpec.upto Rows.entriesWrittenSpec).bare Rows.entriesWrittenUptoRow=true:=by kernel_rfl
theorem Gb:(fun (P:Program) (f:FuncId) (fn:Func) (s:ChangeSpec) (c:OpenClaim)=>(c.unfollowed==P.unfollowed f)) prog 3 Tryz.f3 (Rows.OpenSpec.upto Rows.entriesWrittenSpec).bare Rows.entriesWrittenUptoRow=true:=by kernel_rfl
theorem Gc:(fun (P:Program) (f:FuncId) (fn:Func) (s:ChangeSpec) (c:OpenClaim)=>(c.recurses==P.recurses f)) prog 3 Tryz.f3 (Rows.OpenSpec.upto Rows.entriesWrittenSpec).bare Rows.entriesWrittenUptoRow=true:=by kernel_rfl
theorem Gd:(fun (P:Program) (f:FuncId) (fn:Func) (s:ChangeSpec) (c:OpenClaim)=>(c.named==P.varsNamed f)) prog 3 Tryz.f3 (Rows.OpenSpec.upto Rows.entriesWrittenSpec).bare Rows.entriesWrittenUptoRow=true:=by kernel_rfl
theorem Ge:(fun (P:Program) (f:FuncId) (fn:Func) (s:ChangeSpec) (c:OpenClaim)=>(c.maps==(fn.params.toList++s.plain.varTypes P).any (P.mapsRec ·))) prog 3 Tryz.f3 (Rows.OpenSpec.upto Rows.entriesWrittenSpec).bare Rows.entriesWrittenUptoRow=true:=by kernel_rfl
theorem Gf:(fun (P:Program) (f:FuncId) (fn:Func) (s:ChangeSpec) (c:OpenClaim)=>(c.ifaces==(fn.params.toList++s.plain.varTypes P).any (P.ifacesRec ·))) prog 3 Tryz.f3 (Rows.OpenSpec.upto Rows.entriesWrittenSpec).bare Rows.entriesWrittenUptoRow=true:=by kernel_rfl
theorem Gg:(fun (P:Program) (f:FuncId) (fn:Func) (s:ChangeSpec) (c:OpenClaim)=>(c.mapsOut==P.mapsAmong fn.resultTypes.toList)) prog 3 Tryz.f3 (Rows.OpenSpec.upto Rows.entriesWrittenSpec).bare Rows.entriesWrittenUptoRow=true:=by kernel_rfl
theorem Gh:(fun (P:Program) (f:FuncId) (fn:Func) (s:ChangeSpec) (c:OpenClaim)=>(c.loops==(fn.params.toList++s.plain.varTypes P).any (P.loopsFrom ·))) prog 3 Tryz.f3 (Rows.OpenSpec.upto Rows.entriesWrittenSpec).bare Rows.entriesWrittenUptoRow=true:=by kernel_rfl
theorem Gi:(fun (P:Program) (f:FuncId) (fn:Func) (s:ChangeSpec) (c:OpenClaim)=>(c.wideKeys==(fn.params.toList++s.plain.varTypes P++fn.resultTypes.toList).any (P.wideKeysFrom ·))) prog 3 Tryz.f3 (Rows.OpenSpec.upto Rows.entriesWrittenSpec).bare Rows.entriesWrittenUptoRow=true:=by kernel_rfl
theorem Gj:(fun (P:Program) (f:FuncId) (fn:Func) (s:ChangeSpec) (c:OpenClaim)=>s.vars.all (P.varReadable ·)) prog 3 Tryz.f3 (Rows.OpenSpec.upto Rows.entriesWrittenSpec).bare Rows.entriesWrittenUptoRow=true:=by kernel_rfl
theorem Gk:(fun (P:Program) (f:FuncId) (fn:Func) (s:ChangeSpec) (c:OpenClaim)=>fn.resultTypes.all (fun t=>P.readableRec t&&decide (t<P.types.size))) prog 3 Tryz.f3 (Rows.OpenSpec.upto Rows.entriesWrittenSpec).bare Rows.entriesWrittenUptoRow=true:=by kernel_rfl
theorem Gl:(fun (P:Program) (f:FuncId) (fn:Func) (s:ChangeSpec) (c:OpenClaim)=>(c.ifacesOut==fn.resultTypes.toList.any (P.ifacesRec ·))) prog 3 Tryz.f3 (Rows.OpenSpec.upto Rows.entriesWrittenSpec).bare Rows.entriesWrittenUptoRow=true:=by kernel_rfl
theorem Gm:(fun (P:Program) (f:FuncId) (fn:Func) (s:ChangeSpec) (c:OpenClaim)=>(c.loopsOut==fn.resultTypes.toList.any (P.loopsFrom ·))) prog 3 Tryz.f3 (Rows.OpenSpec.upto Rows.entriesWrittenSpec).bare Rows.entriesWrittenUptoRow=true:=by kernel_rfl
theorem Gn:(fun (P:Program) (f:FuncId) (fn:Func) (s:ChangeSpec) (c:OpenClaim)=>(c.plainKeys==P.plainKeys)) prog 3 Tryz.f3 (Rows.OpenSpec.upto Rows.entriesWrittenSpec).bare Rows.entriesWrittenUptoRow=true:=by kernel_rfl
theorem Gp:(fun (P:Program) (f:FuncId) (fn:Func) (s:ChangeSpec) (c:OpenClaim)=>c.shortTexts.isNone) prog 3 Tryz.f3 (Rows.OpenSpec.upto Rows.entriesWrittenSpec).bare Rows.entriesWrittenUptoRow=true:=by kernel_rfl
theorem Gq:(fun (P:Program) (f:FuncId) (fn:Func) (s:ChangeSpec) (c:OpenClaim)=>P.stopsHeard) prog 3 Tryz.f3 (Rows.OpenSpec.upto Rows.entriesWrittenSpec).bare Rows.entriesWrittenUptoRow=true:=by kernel_rfl
theorem Gs:(fun (P:Program) (f:FuncId) (fn:Func) (s:ChangeSpec) (c:OpenClaim)=>P.mayEnter) prog 3 Tryz.f3 (Rows.OpenSpec.upto Rows.entriesWrittenSpec).bare Rows.entriesWrittenUptoRow=true:=by kernel_rfl
theorem Gt:(fun (P:Program) (f:FuncId) (fn:Func) (s:ChangeSpec) (c:OpenClaim)=>(c.lifted==P.liftsFinal)) prog 3 Tryz.f3 (Rows.OpenSpec.upto Rows.entriesWrittenSpec).bare Rows.entriesWrittenUptoRow=true:=by kernel_rfl
theorem Gu:(fun (P:Program) (f:FuncId) (fn:Func) (s:ChangeSpec) (c:OpenClaim)=>(P.make==some c.make)) prog 3 Tryz.f3 (Rows.OpenSpec.upto Rows.entriesWrittenSpec).bare Rows.entriesWrittenUptoRow=true:=by kernel_rfl
theorem Gv:(fun (P:Program) (f:FuncId) (fn:Func) (s:ChangeSpec) (c:OpenClaim)=>(c.kinds==(if c.domain.isEmpty then [] else fn.params.toList.map fun t=>match P.underlying t with|some (.int k)=>some k|_=>none))) prog 3 Tryz.f3 (Rows.OpenSpec.upto Rows.entriesWrittenSpec).bare Rows.entriesWrittenUptoRow=true:=by kernel_rfl
theorem Gw:(fun (P:Program) (f:FuncId) (fn:Func) (s:ChangeSpec) (c:OpenClaim)=>(c.pinned==c.pinnedBy)) prog 3 Tryz.f3 (Rows.OpenSpec.upto Rows.entriesWrittenSpec).bare Rows.entriesWrittenUptoRow=true:=by kernel_rfl
theorem Gx:(fun (P:Program) (f:FuncId) (fn:Func) (s:ChangeSpec) (c:OpenClaim)=>(c.veiled==(fn.params.toList++s.plain.varTypes P++fn.resultTypes.toList).any (P.veiledRec ·))) prog 3 Tryz.f3 (Rows.OpenSpec.upto Rows.entriesWrittenSpec).bare Rows.entriesWrittenUptoRow=true:=by kernel_rfl
theorem Gy:(fun (P:Program) (f:FuncId) (fn:Func) (s:ChangeSpec) (c:OpenClaim)=>c.veiledFits P fn.params.toList (fn.params.toList++s.plain.varTypes P++fn.resultTypes.toList)) prog 3 Tryz.f3 (Rows.OpenSpec.upto Rows.entriesWrittenSpec).bare Rows.entriesWrittenUptoRow=true:=by kernel_rfl
end
end Go.Proofs.YtiebolhmdhdagaaGreatDoor
