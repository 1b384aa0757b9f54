/-
  DERIVED. GIVEN WITH THE SEED: THE CARDS: each row of YtfjnlliilnmfaaaGreatDoorRows.lean that lists a variable, with what it lists TIED to the program's text (the seventh form; the later family's looks); each row that meets fmt, with fmt's text TOLD by the authors' own Lean function (tested against real Go, not proved from fmt's source: count such statements apart). THE CARD IS WHAT COUNTS. Prove the row's statement (the work); the ties are given (YtfjnlliilnmfaaaGreatDoorTie.lean); close each card by the builder's one call (the guide's Derived/Test/ToyasCard.lean, 'card_holds'). Laid BY PROGRAM, IN A SANDBOX (cutbox-door.mjs). By AI agents, Wed Nov 11 2026. No macro, syntax, notation, axiom, sorry.
-/
import Derived.Test.YtfjnlliilnmfaaaGreatDoorRows
import GoSem.ClaimSeven
namespace Go.Proofs.YtfjnlliilnmfaaaGreatDoor
namespace Rows

/-- THE TIED CARD OF 'laws.FnExactReadCall'. -/
def fnExactReadCallCard : Claim7 := { stood := { row := fnExactReadCallRow, standIns := [], harness := (true, "611e6ded495d33be175f37ff15abc66a211af7347eb912f044cd31970f44c54d"), looks := true }, kinds := [], alts := [], laidByText := true, laidKinds := [.data, .data, .data, .data, .sentinel, .sentinel, .pinned], laidTests := true, laidLooks := .later }
def FnExactReadCallCardSaid : Prop := Claim7.holds Tryz.pinned (.plain (OpenSpec.ofChange fnExactReadCallSpec)) fnExactReadCallCard

/-- THE SECOND FORM's CARD OF 'laws.FnExactReadCall'. -/
def fnExactReadCallUptoCard : Claim7 := { stood := { row := fnExactReadCallUptoRow, standIns := [], harness := (true, "611e6ded495d33be175f37ff15abc66a211af7347eb912f044cd31970f44c54d"), looks := true }, kinds := [], alts := [], laidByText := true, laidKinds := [.data, .data, .data, .data, .sentinel, .sentinel, .pinned], laidTests := true, laidLooks := .later }
def FnExactReadCallUptoCardSaid : Prop := Claim7.holds Tryz.pinned (.plain (OpenSpec.upto fnExactReadCallSpec)) fnExactReadCallUptoCard
end Rows
end Go.Proofs.YtfjnlliilnmfaaaGreatDoor
