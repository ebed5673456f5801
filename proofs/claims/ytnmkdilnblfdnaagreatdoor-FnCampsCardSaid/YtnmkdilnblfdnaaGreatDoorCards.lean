/-
  DERIVED. GIVEN WITH THE SEED: THE CARDS: each row of YtnmkdilnblfdnaaGreatDoorRows.lean that lists a variable, with what it lists TIED to the program's text (the seventh form; the later family's looks); each row that meets fmt, with fmt's text TOLD by the authors' own Lean function (tested against real Go, not proved from fmt's source: count such statements apart). THE CARD IS WHAT COUNTS. Prove the row's statement (the work); the ties are given (YtnmkdilnblfdnaaGreatDoorTie.lean); close each card by the builder's one call (the guide's Derived/Test/ToyasCard.lean, 'card_holds'). Laid BY PROGRAM, IN A SANDBOX (cutbox-door.mjs). By AI agents, Wed Nov 11 2026. No macro, syntax, notation, axiom, sorry.
-/
import Derived.Test.YtnmkdilnblfdnaaGreatDoorRows
import GoSem.ClaimSeven
namespace Go.Proofs.YtnmkdilnblfdnaaGreatDoor
namespace Rows

/-- THE TIED CARD OF 'laws.FnCamps'. -/
def fnCampsCard : Claim7 := { stood := { row := fnCampsRow, standIns := [], harness := (true, "9d3ccc54768d7f13d93b39095ffb74f50cbe7a58474b0d8c5f914ec585290799"), looks := true }, kinds := [], alts := [], laidByText := true, laidKinds := [.data, .data, .data, .data, .sentinel, .sentinel, .pinned], laidTests := true, laidLooks := .later }
def FnCampsCardSaid : Prop := Claim7.holds Tryz.pinned (.plain (OpenSpec.ofChange fnCampsSpec)) fnCampsCard

/-- THE SECOND FORM's CARD OF 'laws.FnCamps'. -/
def fnCampsUptoCard : Claim7 := { stood := { row := fnCampsUptoRow, standIns := [], harness := (true, "9d3ccc54768d7f13d93b39095ffb74f50cbe7a58474b0d8c5f914ec585290799"), looks := true }, kinds := [], alts := [], laidByText := true, laidKinds := [.data, .data, .data, .data, .sentinel, .sentinel, .pinned], laidTests := true, laidLooks := .later }
def FnCampsUptoCardSaid : Prop := Claim7.holds Tryz.pinned (.plain (OpenSpec.upto fnCampsSpec)) fnCampsUptoCard
end Rows
end Go.Proofs.YtnmkdilnblfdnaaGreatDoor
