import Derived.Test.YtiebolhmdhdagaaGreatDoorEwp46
set_option linter.all false
open Go.Proofs.Tryz
namespace Go.Proofs.YtiebolhmdhdagaaGreatDoor
section
open Go.ChangeShapes Go.WideShapes Go.ChangeAt Go.RowKit
theorem Cp (os:Os) {H:Type} (enc:TypeId×Value→H):
  (Rows.OpenSpec.upto Rows.entriesWrittenSpec).preRow enc prog Tryz.f3 Rows.entriesWrittenUptoRow.domain false Rows.entriesWrittenUptoRow.laid ((d7 os).forCall (fun _ _=>0) ⟨#[],#[tU,.slice none 0 0,.slice none 0 0],[]⟩).memory #[tU,.slice none 0 0,.slice none 0 0]:=by
 have hw:(DataW.whole enc prog ((d7 os).forCall (fun _ _=>0) ⟨#[],#[tU,.slice none 0 0,.slice none 0 0],[]⟩).memory Tryz.f3.params.toList (Rows.OpenSpec.upto Rows.entriesWrittenSpec).vars false #[tU,Value.slice none 0 0,Value.slice none 0 0].toList 8).map (fun x=>(x.1,x.2.1))=
   some ([.agg [.nil,.nil,.nil,.nil,.nil,.nil,.nil,.agg [.nil,.nil,.nil,.nil,.nil]],.nil,.nil],[]):=by kernel_rfl
 obtain ⟨⟨x1,x2,x3⟩,hx,hx1⟩:=Option.map_eq_some_iff.1 hw
 simp only [Prod.mk.injEq] at hx1
 obtain ⟨rfl,rfl⟩:=hx1
 exact OpenSpec.preRow_of_cond 8 hx (by kernel_rfl) (fun k hk=>by cases hk;kernel_rfl) (by kernel_rfl) (E1 os _)
end
end Go.Proofs.YtiebolhmdhdagaaGreatDoor
