/-
  DERIVED. GIVEN WITH THE SEED: THE CARDS: each row of YtijcdfdbkffiaaaGreatDoorRows.lean that lists a variable, with what it lists TIED to the program's text (the seventh form; the later family's looks); each row that meets fmt, with fmt's text TOLD by the authors' own Lean function (tested against real Go, not proved from fmt's source: count such statements apart). THE CARD IS WHAT COUNTS. Prove the row's statement (the work); the ties are given (YtijcdfdbkffiaaaGreatDoorTie.lean); close each card by the builder's one call (the guide's Derived/Test/ToyasCard.lean, 'card_holds'). Laid BY PROGRAM, IN A SANDBOX (cutbox-door.mjs). By AI agents, Wed Nov 11 2026. No macro, syntax, notation, axiom, sorry.
-/
import Derived.Test.YtijcdfdbkffiaaaGreatDoorRows
import GoSem.ClaimSeven
namespace Go.Proofs.YtijcdfdbkffiaaaGreatDoor
namespace Rows

/-- THE TIED CARD OF 'quillonlaw47.ChangePlays'. -/
def changePlaysCard : Claim7 := { stood := { row := changePlaysRow, standIns := [], harness := (true, "57e7f6c679381987f1caa0263197a519299a7d78baa23e8882b83ca1329e4425"), looks := true }, kinds := [], alts := [], laidByText := true, laidKinds := [.data, .data, .data, .data, .sentinel, .sentinel, .pinned, .pinned], laidTests := true, laidLooks := .later }
def ChangePlaysCardSaid : Prop := Claim7.holds Tryz.pinned (.plain (OpenSpec.ofChange changePlaysSpec)) changePlaysCard

/-- THE TIED CARD OF 'quillonlaw47.ChangeBack'. -/
def changeBackCard : Claim7 := { stood := { row := changeBackRow, standIns := [], harness := (true, "57e7f6c679381987f1caa0263197a519299a7d78baa23e8882b83ca1329e4425"), looks := true }, kinds := [], alts := [], laidByText := true, laidKinds := [.data, .data, .data, .data, .sentinel, .sentinel, .pinned, .pinned], laidTests := true, laidLooks := .later }
def ChangeBackCardSaid : Prop := Claim7.holds Tryz.pinned (.plain (OpenSpec.ofChange changeBackSpec)) changeBackCard

/-- THE SECOND FORM's CARD OF 'quillonlaw47.ChangePlays'. -/
def changePlaysUptoCard : Claim7 := { stood := { row := changePlaysUptoRow, standIns := [], harness := (true, "57e7f6c679381987f1caa0263197a519299a7d78baa23e8882b83ca1329e4425"), looks := true }, kinds := [], alts := [], laidByText := true, laidKinds := [.data, .data, .data, .data, .sentinel, .sentinel, .pinned, .pinned], laidTests := true, laidLooks := .later }
def ChangePlaysUptoCardSaid : Prop := Claim7.holds Tryz.pinned (.plain (OpenSpec.upto changePlaysSpec)) changePlaysUptoCard

/-- THE SECOND FORM's CARD OF 'quillonlaw47.ChangeBack'. -/
def changeBackUptoCard : Claim7 := { stood := { row := changeBackUptoRow, standIns := [], harness := (true, "57e7f6c679381987f1caa0263197a519299a7d78baa23e8882b83ca1329e4425"), looks := true }, kinds := [], alts := [], laidByText := true, laidKinds := [.data, .data, .data, .data, .sentinel, .sentinel, .pinned, .pinned], laidTests := true, laidLooks := .later }
def ChangeBackUptoCardSaid : Prop := Claim7.holds Tryz.pinned (.plain (OpenSpec.upto changeBackSpec)) changeBackUptoCard
end Rows
end Go.Proofs.YtijcdfdbkffiaaaGreatDoor
