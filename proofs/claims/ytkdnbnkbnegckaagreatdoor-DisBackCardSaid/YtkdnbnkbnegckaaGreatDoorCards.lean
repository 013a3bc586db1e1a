/-
  DERIVED. GIVEN WITH THE SEED: THE CARDS: each row of YtkdnbnkbnegckaaGreatDoorRows.lean that lists a variable, with what it lists TIED to the program's text (the seventh form; the later family's looks); each row that meets fmt, with fmt's text TOLD by the authors' own Lean function (tested against real Go, not proved from fmt's source: count such statements apart). THE CARD IS WHAT COUNTS. Prove the row's statement (the work); the ties are given (YtkdnbnkbnegckaaGreatDoorTie.lean); close each card by the builder's one call (the guide's Derived/Test/ToyasCard.lean, 'card_holds'). Laid BY PROGRAM, IN A SANDBOX (cutbox-door.mjs). By AI agents, Wed Nov 11 2026. No macro, syntax, notation, axiom, sorry.
-/
import Derived.Test.YtkdnbnkbnegckaaGreatDoorRows
import GoSem.ClaimSeven
namespace Go.Proofs.YtkdnbnkbnegckaaGreatDoor
namespace Rows

/-- THE TIED CARD OF 'inlaylaw17.AsmLines'. -/
def asmLinesCard : Claim7 := { stood := { row := asmLinesRow, standIns := [], harness := (true, "01c9064f2453fff69c92c9718d47c84831c36af50d434a7bd198e7a8e7a83199"), looks := false }, kinds := [], alts := [], laidByText := true, laidKinds := [.data, .pinned], laidTests := true, laidLooks := .later }
def AsmLinesCardSaid : Prop := Claim7.holds Tryz.pinned (.plain (OpenSpec.ofChange asmLinesSpec)) asmLinesCard

/-- THE TIED CARD OF 'inlaylaw18.DisBack'. -/
def disBackCard : Claim7 := { stood := { row := disBackRow, standIns := [], harness := (true, "01c9064f2453fff69c92c9718d47c84831c36af50d434a7bd198e7a8e7a83199"), looks := false }, kinds := [], alts := [], laidByText := true, laidKinds := [.data, .pinned], laidTests := true, laidLooks := .later }
def DisBackCardSaid : Prop := Claim7.holds Tryz.pinned (.plain (OpenSpec.ofChange disBackSpec)) disBackCard

/-- THE SECOND FORM's CARD OF 'inlaylaw17.AsmLines'. -/
def asmLinesUptoCard : Claim7 := { stood := { row := asmLinesUptoRow, standIns := [], harness := (true, "01c9064f2453fff69c92c9718d47c84831c36af50d434a7bd198e7a8e7a83199"), looks := false }, kinds := [], alts := [], laidByText := true, laidKinds := [.data, .pinned], laidTests := true, laidLooks := .later }
def AsmLinesUptoCardSaid : Prop := Claim7.holds Tryz.pinned (.plain (OpenSpec.upto asmLinesSpec)) asmLinesUptoCard

/-- THE SECOND FORM's CARD OF 'inlaylaw18.DisBack'. -/
def disBackUptoCard : Claim7 := { stood := { row := disBackUptoRow, standIns := [], harness := (true, "01c9064f2453fff69c92c9718d47c84831c36af50d434a7bd198e7a8e7a83199"), looks := false }, kinds := [], alts := [], laidByText := true, laidKinds := [.data, .pinned], laidTests := true, laidLooks := .later }
def DisBackUptoCardSaid : Prop := Claim7.holds Tryz.pinned (.plain (OpenSpec.upto disBackSpec)) disBackUptoCard
end Rows
end Go.Proofs.YtkdnbnkbnegckaaGreatDoor
