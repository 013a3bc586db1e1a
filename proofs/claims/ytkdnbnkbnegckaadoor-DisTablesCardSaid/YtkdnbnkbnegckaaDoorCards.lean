/-
  DERIVED. GIVEN WITH THE SEED: THE CARDS: each row of YtkdnbnkbnegckaaDoorRows.lean that lists a variable, with what it lists TIED to the program's text (the seventh form; the later family's looks); each row that meets fmt, with fmt's text TOLD by the authors' own Lean function (tested against real Go, not proved from fmt's source: count such statements apart). THE CARD IS WHAT COUNTS. Prove the row's statement (the work); the ties are given (YtkdnbnkbnegckaaDoorTie.lean); close each card by the builder's one call (the guide's Derived/Test/ToyasCard.lean, 'card_holds'). Laid BY PROGRAM, IN A SANDBOX (cutbox-door.mjs). By AI agents, Wed Nov 11 2026. No macro, syntax, notation, axiom, sorry.
-/
import Derived.Test.YtkdnbnkbnegckaaDoorRows
import GoSem.ClaimSeven
namespace Go.Proofs.YtkdnbnkbnegckaaDoor
namespace Rows

/-- THE TIED CARD OF 'inlaylaw18.DisTables'. -/
def disTablesCard : Claim7 := { stood := { row := disTablesRow, standIns := [], harness := (true, "2edb9b10afe928362cb095dcd250fd52d7d319933d56a2dcc11b8ca7e92ebe45"), looks := false }, kinds := [], alts := [], laidByText := true, laidKinds := [.data], laidTests := true, laidLooks := .later }
def DisTablesCardSaid : Prop := Claim7.holds Tryd.pinned (.plain (OpenSpec.ofChange disTablesSpec)) disTablesCard

/-- THE SECOND FORM's CARD OF 'inlaylaw18.DisTables'. -/
def disTablesUptoCard : Claim7 := { stood := { row := disTablesUptoRow, standIns := [], harness := (true, "2edb9b10afe928362cb095dcd250fd52d7d319933d56a2dcc11b8ca7e92ebe45"), looks := false }, kinds := [], alts := [], laidByText := true, laidKinds := [.data], laidTests := true, laidLooks := .later }
def DisTablesUptoCardSaid : Prop := Claim7.holds Tryd.pinned (.plain (OpenSpec.upto disTablesSpec)) disTablesUptoCard
end Rows
end Go.Proofs.YtkdnbnkbnegckaaDoor
