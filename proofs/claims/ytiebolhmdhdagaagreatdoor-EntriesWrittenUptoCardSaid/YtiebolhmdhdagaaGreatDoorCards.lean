/-
  DERIVED. GIVEN WITH THE SEED: THE CARDS: each row of YtiebolhmdhdagaaGreatDoorRows.lean that lists a variable, with what it lists TIED to the program's text (the seventh form; the later family's looks); each row that meets fmt, with fmt's text TOLD by the authors' own Lean function (tested against real Go, not proved from fmt's source: count such statements apart). THE CARD IS WHAT COUNTS. Prove the row's statement (the work); the ties are given (YtiebolhmdhdagaaGreatDoorTie.lean); close each card by the builder's one call (the guide's Derived/Test/ToyasCard.lean, 'card_holds'). Laid BY PROGRAM, IN A SANDBOX (cutbox-door.mjs). By AI agents, Wed Nov 11 2026. No macro, syntax, notation, axiom, sorry.
-/
import Derived.Test.YtiebolhmdhdagaaGreatDoorRows
import GoSem.ClaimSeven
namespace Go.Proofs.YtiebolhmdhdagaaGreatDoor
namespace Rows

/-- THE TIED CARD OF 'quillonlaw12.EntriesWritten'. -/
def entriesWrittenCard : Claim7 := { stood := { row := entriesWrittenRow, standIns := [], harness := (true, "6387e78d8fc4e1f686e6d0f5c6da23503efa9aa3516755a94661c605c8935083"), looks := true }, kinds := [], alts := [], laidByText := true, laidKinds := [.data, .data, .data, .data, .sentinel, .sentinel, .pinned, .pinned], laidTests := true, laidLooks := .later }
def EntriesWrittenCardSaid : Prop := Claim7.holds Tryz.pinned (.plain (OpenSpec.ofChange entriesWrittenSpec)) entriesWrittenCard

/-- THE SECOND FORM's CARD OF 'quillonlaw12.EntriesWritten'. -/
def entriesWrittenUptoCard : Claim7 := { stood := { row := entriesWrittenUptoRow, standIns := [], harness := (true, "6387e78d8fc4e1f686e6d0f5c6da23503efa9aa3516755a94661c605c8935083"), looks := true }, kinds := [], alts := [], laidByText := true, laidKinds := [.data, .data, .data, .data, .sentinel, .sentinel, .pinned, .pinned], laidTests := true, laidLooks := .later }
def EntriesWrittenUptoCardSaid : Prop := Claim7.holds Tryz.pinned (.plain (OpenSpec.upto entriesWrittenSpec)) entriesWrittenUptoCard
end Rows
end Go.Proofs.YtiebolhmdhdagaaGreatDoor
