/-
  DERIVED. GIVEN WITH THE SEED: THE CARDS: each row of YtnmkdilnblfdnaaDoorRows.lean that lists a variable, with what it lists TIED to the program's text (the seventh form; the later family's looks); each row that meets fmt, with fmt's text TOLD by the authors' own Lean function (tested against real Go, not proved from fmt's source: count such statements apart). THE CARD IS WHAT COUNTS. Prove the row's statement (the work); the ties are given (YtnmkdilnblfdnaaDoorTie.lean); close each card by the builder's one call (the guide's Derived/Test/ToyasCard.lean, 'card_holds'). Laid BY PROGRAM, IN A SANDBOX (cutbox-door.mjs). By AI agents, Wed Nov 11 2026. No macro, syntax, notation, axiom, sorry.
-/
import Derived.Test.YtnmkdilnblfdnaaDoorRows
import GoSem.ClaimSeven
namespace Go.Proofs.YtnmkdilnblfdnaaDoor
namespace Rows

/-- THE TIED CARD OF 'laws.FnExactCampText'. -/
def fnExactCampTextCard : Claim7 := { stood := { row := fnExactCampTextRow, standIns := [], harness := (true, "333b381687bc61480019e295b572ea53a7ed75a43e3be44c65888b5166c82631"), looks := true }, kinds := [], alts := [], laidByText := true, laidKinds := [.data, .data, .data], laidTests := true, laidLooks := .later }
def FnExactCampTextCardSaid : Prop := Claim7.holds Tryd.pinned (.plain (OpenSpec.ofChange fnExactCampTextSpec)) fnExactCampTextCard

/-- THE TIED CARD OF 'laws.FnExactParseCamp'. -/
def fnExactParseCampCard : Claim7 := { stood := { row := fnExactParseCampRow, standIns := [], harness := (true, "333b381687bc61480019e295b572ea53a7ed75a43e3be44c65888b5166c82631"), looks := true }, kinds := [], alts := [], laidByText := true, laidKinds := [.data, .data, .data, .data, .sentinel, .sentinel, .pinned], laidTests := true, laidLooks := .later }
def FnExactParseCampCardSaid : Prop := Claim7.holds Tryd.pinned (.plain (OpenSpec.ofChange fnExactParseCampSpec)) fnExactParseCampCard

/-- THE SECOND FORM's CARD OF 'laws.FnExactCampText'. -/
def fnExactCampTextUptoCard : Claim7 := { stood := { row := fnExactCampTextUptoRow, standIns := [], harness := (true, "333b381687bc61480019e295b572ea53a7ed75a43e3be44c65888b5166c82631"), looks := true }, kinds := [], alts := [], laidByText := true, laidKinds := [.data, .data, .data], laidTests := true, laidLooks := .later }
def FnExactCampTextUptoCardSaid : Prop := Claim7.holds Tryd.pinned (.plain (OpenSpec.upto fnExactCampTextSpec)) fnExactCampTextUptoCard

/-- THE SECOND FORM's CARD OF 'laws.FnExactParseCamp'. -/
def fnExactParseCampUptoCard : Claim7 := { stood := { row := fnExactParseCampUptoRow, standIns := [], harness := (true, "333b381687bc61480019e295b572ea53a7ed75a43e3be44c65888b5166c82631"), looks := true }, kinds := [], alts := [], laidByText := true, laidKinds := [.data, .data, .data, .data, .sentinel, .sentinel, .pinned], laidTests := true, laidLooks := .later }
def FnExactParseCampUptoCardSaid : Prop := Claim7.holds Tryd.pinned (.plain (OpenSpec.upto fnExactParseCampSpec)) fnExactParseCampUptoCard
end Rows
end Go.Proofs.YtnmkdilnblfdnaaDoor
