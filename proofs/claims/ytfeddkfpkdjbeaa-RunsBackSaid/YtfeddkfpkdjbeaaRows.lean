/-
  No cell of these rows narrows 'for every input' (looked for: loops, veiled, ifaces, maps, wideKeys, modest, calm, conditions, laid).
  DERIVED. THE GIVEN ROWS OF THIS SEAT. 13 by the template 'for every input the law returns true; each argument reads behind the call as it read before'; 0 by the template 'total and deterministic' (their statements: YtfeddkfpkdjbeaaTotals.lean).
  GIVEN WITH THE SEED: the statements are not yours to turn. If you find one false, say at which input.
  Laid BY PROGRAM, IN A SANDBOX (cutbox-rows.mjs): the forced cells as the released guide's own fill.sh prints them over the translation fec800bfa79b2c9f… (all of the seat's roots in one cut). By AI agents, Wed Nov 11 2026. No macro, syntax, notation, axiom, sorry.
-/
import Derived.Test.YtfeddkfpkdjbeaaChecked
import GoSem.Claim
import GoSem.ClaimJoined
import GoSem.ClaimMapViews
import Derived.JoinedTies
import Derived.KernelRfl
namespace Go.Proofs.Ytfeddkfpkdjbeaa
/- THE CELL 'sum', in the pinned program and in every row, IS THE sha256 OF THE DUMP (.gsa) THAT YtfeddkfpkdjbeaaProg.lean LOADS. Nothing in Lean hashes anything: it is a label: what it is worth is what the hold of that sum in a sandbox is worth. -/
noncomputable def Try.pinned : Pinned := { name := "ytfeddkfpkdjbeaa", sum := "fec800bfa79b2c9ffd64cfab70d84cc362f78c722468be3f59d48b1595061cb5", checked := Try.checked }
namespace Rows
def none {H : Type} : Left H := { results := [], args := [] }

/-- 'inlaylaw11.SigReads': WHATEVER THE INPUT: true; the input reads as it did. -/
def sigReadsSpec : ChangeSpec := { name := "sigReads", fn := fun _ => fun
  | [d] => { results := [.lit (.bool true)], args := [d] }
  | _ => none }
def sigReadsRow : OpenClaim := { program := "ytfeddkfpkdjbeaa", sum := "fec800bfa79b2c9ffd64cfab70d84cc362f78c722468be3f59d48b1595061cb5", func := "inlay/inlaylaw11.SigReads", spec := "sigReads", apart := false }
def SigReadsSaid : Prop := sigReadsRow.holds Try.pinned (OpenSpec.ofChange sigReadsSpec)

/-- ITS FALSE NEIGHBOUR: 'it returns false'. Refute it at one input. -/
def sigReadsWrong : ChangeSpec := { name := "sigReads", fn := fun _ => fun
  | [d] => { results := [.lit (.bool false)], args := [d] }
  | _ => none }
def SigReadsWrongFalsely : Prop := sigReadsRow.holds Try.pinned (OpenSpec.ofChange sigReadsWrong)

/-- 'inlaylaw04.RunsRows': WHATEVER THE INPUT: true; the input reads as it did. -/
def runsRowsSpec : ChangeSpec := { name := "runsRows", fn := fun _ => fun
  | [d] => { results := [.lit (.bool true)], args := [d] }
  | _ => none }
def runsRowsRow : OpenClaim := { program := "ytfeddkfpkdjbeaa", sum := "fec800bfa79b2c9ffd64cfab70d84cc362f78c722468be3f59d48b1595061cb5", func := "inlay/inlaylaw04.RunsRows", spec := "runsRows", apart := false }
def RunsRowsSaid : Prop := runsRowsRow.holds Try.pinned (OpenSpec.ofChange runsRowsSpec)

/-- ITS FALSE NEIGHBOUR: 'it returns false'. Refute it at one input. -/
def runsRowsWrong : ChangeSpec := { name := "runsRows", fn := fun _ => fun
  | [d] => { results := [.lit (.bool false)], args := [d] }
  | _ => none }
def RunsRowsWrongFalsely : Prop := runsRowsRow.holds Try.pinned (OpenSpec.ofChange runsRowsWrong)

/-- 'inlaylaw11.SigSlots': WHATEVER THE INPUT: true; the input reads as it did. -/
def sigSlotsSpec : ChangeSpec := { name := "sigSlots", fn := fun _ => fun
  | [d1, d2, d3] => { results := [.lit (.bool true)], args := [d1, d2, d3] }
  | _ => none }
def sigSlotsRow : OpenClaim := { program := "ytfeddkfpkdjbeaa", sum := "fec800bfa79b2c9ffd64cfab70d84cc362f78c722468be3f59d48b1595061cb5", func := "inlay/inlaylaw11.SigSlots", spec := "sigSlots", apart := false }
def SigSlotsSaid : Prop := sigSlotsRow.holds Try.pinned (OpenSpec.ofChange sigSlotsSpec)

/-- ITS FALSE NEIGHBOUR: 'it returns false'. Refute it at one input. -/
def sigSlotsWrong : ChangeSpec := { name := "sigSlots", fn := fun _ => fun
  | [d1, d2, d3] => { results := [.lit (.bool false)], args := [d1, d2, d3] }
  | _ => none }
def SigSlotsWrongFalsely : Prop := sigSlotsRow.holds Try.pinned (OpenSpec.ofChange sigSlotsWrong)

/-- 'inlaylaw04.RunsOf': WHATEVER THE INPUT: true; the input reads as it did. -/
def runsOfSpec : ChangeSpec := { name := "runsOf", fn := fun _ => fun
  | [d1, d2] => { results := [.lit (.bool true)], args := [d1, d2] }
  | _ => none }
def runsOfRow : OpenClaim := { program := "ytfeddkfpkdjbeaa", sum := "fec800bfa79b2c9ffd64cfab70d84cc362f78c722468be3f59d48b1595061cb5", func := "inlay/inlaylaw04.RunsOf", spec := "runsOf", recurses := true, apart := false }
def RunsOfSaid : Prop := runsOfRow.holds Try.pinned (OpenSpec.ofChange runsOfSpec)

/-- ITS FALSE NEIGHBOUR: 'it returns false'. Refute it at one input. -/
def runsOfWrong : ChangeSpec := { name := "runsOf", fn := fun _ => fun
  | [d1, d2] => { results := [.lit (.bool false)], args := [d1, d2] }
  | _ => none }
def RunsOfWrongFalsely : Prop := runsOfRow.holds Try.pinned (OpenSpec.ofChange runsOfWrong)

/-- 'inlaylaw12.LinesTables': WHATEVER THE INPUT: true; the input reads as it did. -/
def linesTablesSpec : ChangeSpec := { name := "linesTables", fn := fun _ => fun
  | [d1, d2, d3] => { results := [.lit (.bool true)], args := [d1, d2, d3] }
  | _ => none }
def linesTablesRow : OpenClaim := { program := "ytfeddkfpkdjbeaa", sum := "fec800bfa79b2c9ffd64cfab70d84cc362f78c722468be3f59d48b1595061cb5", func := "inlay/inlaylaw12.LinesTables", spec := "linesTables", unfollowed := true, recurses := true, apart := false }
def LinesTablesSaid : Prop := linesTablesRow.holds Try.pinned (OpenSpec.ofChange linesTablesSpec)

/-- ITS FALSE NEIGHBOUR: 'it returns false'. Refute it at one input. -/
def linesTablesWrong : ChangeSpec := { name := "linesTables", fn := fun _ => fun
  | [d1, d2, d3] => { results := [.lit (.bool false)], args := [d1, d2, d3] }
  | _ => none }
def LinesTablesWrongFalsely : Prop := linesTablesRow.holds Try.pinned (OpenSpec.ofChange linesTablesWrong)

/-- 'inlaylaw11.SigTexts': WHATEVER THE INPUT: true; the input reads as it did. -/
def sigTextsSpec : ChangeSpec := { name := "sigTexts", fn := fun _ => fun
  | [d1, d2, d3] => { results := [.lit (.bool true)], args := [d1, d2, d3] }
  | _ => none }
def sigTextsRow : OpenClaim := { program := "ytfeddkfpkdjbeaa", sum := "fec800bfa79b2c9ffd64cfab70d84cc362f78c722468be3f59d48b1595061cb5", func := "inlay/inlaylaw11.SigTexts", spec := "sigTexts", unfollowed := true, recurses := true, apart := false }
def SigTextsSaid : Prop := sigTextsRow.holds Try.pinned (OpenSpec.ofChange sigTextsSpec)

/-- ITS FALSE NEIGHBOUR: 'it returns false'. Refute it at one input. -/
def sigTextsWrong : ChangeSpec := { name := "sigTexts", fn := fun _ => fun
  | [d1, d2, d3] => { results := [.lit (.bool false)], args := [d1, d2, d3] }
  | _ => none }
def SigTextsWrongFalsely : Prop := sigTextsRow.holds Try.pinned (OpenSpec.ofChange sigTextsWrong)

/-- 'inlaylaw02.CursorBack': WHATEVER THE INPUT: true; the input reads as it did. -/
def cursorBackSpec : ChangeSpec := { name := "cursorBack", fn := fun _ => fun
  | [d1, d2] => { results := [.lit (.bool true)], args := [d1, d2] }
  | _ => none }
def cursorBackRow : OpenClaim := { program := "ytfeddkfpkdjbeaa", sum := "fec800bfa79b2c9ffd64cfab70d84cc362f78c722468be3f59d48b1595061cb5", func := "inlay/inlaylaw02.CursorBack", spec := "cursorBack", unfollowed := true, recurses := true, apart := false }
def CursorBackSaid : Prop := cursorBackRow.holds Try.pinned (OpenSpec.ofChange cursorBackSpec)

/-- ITS FALSE NEIGHBOUR: 'it returns false'. Refute it at one input. -/
def cursorBackWrong : ChangeSpec := { name := "cursorBack", fn := fun _ => fun
  | [d1, d2] => { results := [.lit (.bool false)], args := [d1, d2] }
  | _ => none }
def CursorBackWrongFalsely : Prop := cursorBackRow.holds Try.pinned (OpenSpec.ofChange cursorBackWrong)

/-- 'inlaylaw02.CursorReads': WHATEVER THE INPUT: true; the input reads as it did. -/
def cursorReadsSpec : ChangeSpec := { name := "cursorReads", fn := fun _ => fun
  | [d1, d2] => { results := [.lit (.bool true)], args := [d1, d2] }
  | _ => none }
def cursorReadsRow : OpenClaim := { program := "ytfeddkfpkdjbeaa", sum := "fec800bfa79b2c9ffd64cfab70d84cc362f78c722468be3f59d48b1595061cb5", func := "inlay/inlaylaw02.CursorReads", spec := "cursorReads", unfollowed := true, recurses := true, apart := false }
def CursorReadsSaid : Prop := cursorReadsRow.holds Try.pinned (OpenSpec.ofChange cursorReadsSpec)

/-- ITS FALSE NEIGHBOUR: 'it returns false'. Refute it at one input. -/
def cursorReadsWrong : ChangeSpec := { name := "cursorReads", fn := fun _ => fun
  | [d1, d2] => { results := [.lit (.bool false)], args := [d1, d2] }
  | _ => none }
def CursorReadsWrongFalsely : Prop := cursorReadsRow.holds Try.pinned (OpenSpec.ofChange cursorReadsWrong)

/-- 'inlaylaw02.CursorNil': WHATEVER THE INPUT: true; the input reads as it did. -/
def cursorNilSpec : ChangeSpec := { name := "cursorNil", fn := fun _ => fun
  | [d] => { results := [.lit (.bool true)], args := [d] }
  | _ => none }
def cursorNilRow : OpenClaim := { program := "ytfeddkfpkdjbeaa", sum := "fec800bfa79b2c9ffd64cfab70d84cc362f78c722468be3f59d48b1595061cb5", func := "inlay/inlaylaw02.CursorNil", spec := "cursorNil", unfollowed := true, recurses := true, apart := false }
def CursorNilSaid : Prop := cursorNilRow.holds Try.pinned (OpenSpec.ofChange cursorNilSpec)

/-- ITS FALSE NEIGHBOUR: 'it returns false'. Refute it at one input. -/
def cursorNilWrong : ChangeSpec := { name := "cursorNil", fn := fun _ => fun
  | [d] => { results := [.lit (.bool false)], args := [d] }
  | _ => none }
def CursorNilWrongFalsely : Prop := cursorNilRow.holds Try.pinned (OpenSpec.ofChange cursorNilWrong)

/-- 'inlaylaw04.RunsTakes': WHATEVER THE INPUT: true; the input reads as it did. -/
def runsTakesSpec : ChangeSpec := { name := "runsTakes", fn := fun _ => fun
  | [d1, d2] => { results := [.lit (.bool true)], args := [d1, d2] }
  | _ => none }
def runsTakesRow : OpenClaim := { program := "ytfeddkfpkdjbeaa", sum := "fec800bfa79b2c9ffd64cfab70d84cc362f78c722468be3f59d48b1595061cb5", func := "inlay/inlaylaw04.RunsTakes", spec := "runsTakes", unfollowed := true, recurses := true, apart := false }
def RunsTakesSaid : Prop := runsTakesRow.holds Try.pinned (OpenSpec.ofChange runsTakesSpec)

/-- ITS FALSE NEIGHBOUR: 'it returns false'. Refute it at one input. -/
def runsTakesWrong : ChangeSpec := { name := "runsTakes", fn := fun _ => fun
  | [d1, d2] => { results := [.lit (.bool false)], args := [d1, d2] }
  | _ => none }
def RunsTakesWrongFalsely : Prop := runsTakesRow.holds Try.pinned (OpenSpec.ofChange runsTakesWrong)

/-- 'inlaylaw12.LinesTakes': WHATEVER THE INPUT: true; the input reads as it did. -/
def linesTakesSpec : ChangeSpec := { name := "linesTakes", fn := fun _ => fun
  | [d1, d2] => { results := [.lit (.bool true)], args := [d1, d2] }
  | _ => none }
def linesTakesRow : OpenClaim := { program := "ytfeddkfpkdjbeaa", sum := "fec800bfa79b2c9ffd64cfab70d84cc362f78c722468be3f59d48b1595061cb5", func := "inlay/inlaylaw12.LinesTakes", spec := "linesTakes", unfollowed := true, recurses := true, apart := false }
def LinesTakesSaid : Prop := linesTakesRow.holds Try.pinned (OpenSpec.ofChange linesTakesSpec)

/-- ITS FALSE NEIGHBOUR: 'it returns false'. Refute it at one input. -/
def linesTakesWrong : ChangeSpec := { name := "linesTakes", fn := fun _ => fun
  | [d1, d2] => { results := [.lit (.bool false)], args := [d1, d2] }
  | _ => none }
def LinesTakesWrongFalsely : Prop := linesTakesRow.holds Try.pinned (OpenSpec.ofChange linesTakesWrong)

/-- 'inlaylaw11.SigTakes': WHATEVER THE INPUT: true; the input reads as it did. -/
def sigTakesSpec : ChangeSpec := { name := "sigTakes", fn := fun _ => fun
  | [d1, d2] => { results := [.lit (.bool true)], args := [d1, d2] }
  | _ => none }
def sigTakesRow : OpenClaim := { program := "ytfeddkfpkdjbeaa", sum := "fec800bfa79b2c9ffd64cfab70d84cc362f78c722468be3f59d48b1595061cb5", func := "inlay/inlaylaw11.SigTakes", spec := "sigTakes", unfollowed := true, recurses := true, apart := false }
def SigTakesSaid : Prop := sigTakesRow.holds Try.pinned (OpenSpec.ofChange sigTakesSpec)

/-- ITS FALSE NEIGHBOUR: 'it returns false'. Refute it at one input. -/
def sigTakesWrong : ChangeSpec := { name := "sigTakes", fn := fun _ => fun
  | [d1, d2] => { results := [.lit (.bool false)], args := [d1, d2] }
  | _ => none }
def SigTakesWrongFalsely : Prop := sigTakesRow.holds Try.pinned (OpenSpec.ofChange sigTakesWrong)

/-- 'inlaylaw04.RunsBack': WHATEVER THE INPUT: true; the input reads as it did. -/
def runsBackSpec : ChangeSpec := { name := "runsBack", fn := fun _ => fun
  | [d1, d2] => { results := [.lit (.bool true)], args := [d1, d2] }
  | _ => none }
def runsBackRow : OpenClaim := { program := "ytfeddkfpkdjbeaa", sum := "fec800bfa79b2c9ffd64cfab70d84cc362f78c722468be3f59d48b1595061cb5", func := "inlay/inlaylaw04.RunsBack", spec := "runsBack", unfollowed := true, recurses := true, apart := false }
def RunsBackSaid : Prop := runsBackRow.holds Try.pinned (OpenSpec.ofChange runsBackSpec)

/-- ITS FALSE NEIGHBOUR: 'it returns false'. Refute it at one input. -/
def runsBackWrong : ChangeSpec := { name := "runsBack", fn := fun _ => fun
  | [d1, d2] => { results := [.lit (.bool false)], args := [d1, d2] }
  | _ => none }
def RunsBackWrongFalsely : Prop := runsBackRow.holds Try.pinned (OpenSpec.ofChange runsBackWrong)

/- THE SECOND FORM. 'bulk': how many values and letters a reading holds, each counted each time it is reached (what is shared counts as often as it is met; a slice's spare places count too). A statement '..UptoSaid' is the law's where the arguments, and the package variables that the reading takes, are together of bulk at most 1048576: NARROWER than '..Said'. Prove '..Said' where nothing that the law and all that it calls make is longer than what came in: it says more and counts as full. Else prove '..UptoSaid'. A law counts once. -/
mutual
def uptoBulk {H : Type} : DataW H → Nat
  | .lit (.string bytes) => bytes.length + 1
  | .lit _ => 1
  | .nil => 1
  | .ptr d => uptoBulk d + 1
  | .slice elems spare => uptoBulkAll elems + uptoBulkAll spare + 1
  | .agg parts => uptoBulkAll parts + 1
  | .iface _ d => uptoBulk d + 1
  | .map entries => uptoBulkEntries entries + 1
  | .held _ => 1
def uptoBulkAll {H : Type} : List (DataW H) → Nat
  | [] => 0
  | d :: r => uptoBulk d + uptoBulkAll r
def uptoBulkEntries {H : Type} : List (Lit × DataW H) → Nat
  | [] => 0
  | x :: r => uptoBulkEntry x + uptoBulkEntries r
def uptoBulkEntry {H : Type} : Lit × DataW H → Nat
  | (.string bytes, d) => bytes.length + uptoBulk d + 1
  | (_, d) => uptoBulk d + 1
 end
def uptoSmall : (H : Type) → List (DataW H) → Bool := fun _ ds => decide (uptoBulkAll ds ≤ 1048576)
def OpenSpec.upto (s : _root_.Go.ChangeSpec) : _root_.Go.OpenSpec := { _root_.Go.OpenSpec.ofChange s with cond := some uptoSmall }

/-- 'inlaylaw11.SigReads', WHERE WHAT IT READS IS OF BULK AT MOST 1048576: true; the input reads as it did. -/
def sigReadsUptoRow : OpenClaim := { program := "ytfeddkfpkdjbeaa", sum := "fec800bfa79b2c9ffd64cfab70d84cc362f78c722468be3f59d48b1595061cb5", func := "inlay/inlaylaw11.SigReads", spec := "sigReads", apart := false, narrowed := true }
def SigReadsUptoSaid : Prop := sigReadsUptoRow.holds Try.pinned (OpenSpec.upto sigReadsSpec)

/-- 'inlaylaw04.RunsRows', WHERE WHAT IT READS IS OF BULK AT MOST 1048576: true; the input reads as it did. -/
def runsRowsUptoRow : OpenClaim := { program := "ytfeddkfpkdjbeaa", sum := "fec800bfa79b2c9ffd64cfab70d84cc362f78c722468be3f59d48b1595061cb5", func := "inlay/inlaylaw04.RunsRows", spec := "runsRows", apart := false, narrowed := true }
def RunsRowsUptoSaid : Prop := runsRowsUptoRow.holds Try.pinned (OpenSpec.upto runsRowsSpec)

/-- 'inlaylaw11.SigSlots', WHERE WHAT IT READS IS OF BULK AT MOST 1048576: true; the input reads as it did. -/
def sigSlotsUptoRow : OpenClaim := { program := "ytfeddkfpkdjbeaa", sum := "fec800bfa79b2c9ffd64cfab70d84cc362f78c722468be3f59d48b1595061cb5", func := "inlay/inlaylaw11.SigSlots", spec := "sigSlots", apart := false, narrowed := true }
def SigSlotsUptoSaid : Prop := sigSlotsUptoRow.holds Try.pinned (OpenSpec.upto sigSlotsSpec)

/-- 'inlaylaw04.RunsOf', WHERE WHAT IT READS IS OF BULK AT MOST 1048576: true; the input reads as it did. -/
def runsOfUptoRow : OpenClaim := { program := "ytfeddkfpkdjbeaa", sum := "fec800bfa79b2c9ffd64cfab70d84cc362f78c722468be3f59d48b1595061cb5", func := "inlay/inlaylaw04.RunsOf", spec := "runsOf", recurses := true, apart := false, narrowed := true }
def RunsOfUptoSaid : Prop := runsOfUptoRow.holds Try.pinned (OpenSpec.upto runsOfSpec)

/-- 'inlaylaw12.LinesTables', WHERE WHAT IT READS IS OF BULK AT MOST 1048576: true; the input reads as it did. -/
def linesTablesUptoRow : OpenClaim := { program := "ytfeddkfpkdjbeaa", sum := "fec800bfa79b2c9ffd64cfab70d84cc362f78c722468be3f59d48b1595061cb5", func := "inlay/inlaylaw12.LinesTables", spec := "linesTables", unfollowed := true, recurses := true, apart := false, narrowed := true }
def LinesTablesUptoSaid : Prop := linesTablesUptoRow.holds Try.pinned (OpenSpec.upto linesTablesSpec)

/-- 'inlaylaw11.SigTexts', WHERE WHAT IT READS IS OF BULK AT MOST 1048576: true; the input reads as it did. -/
def sigTextsUptoRow : OpenClaim := { program := "ytfeddkfpkdjbeaa", sum := "fec800bfa79b2c9ffd64cfab70d84cc362f78c722468be3f59d48b1595061cb5", func := "inlay/inlaylaw11.SigTexts", spec := "sigTexts", unfollowed := true, recurses := true, apart := false, narrowed := true }
def SigTextsUptoSaid : Prop := sigTextsUptoRow.holds Try.pinned (OpenSpec.upto sigTextsSpec)

/-- 'inlaylaw02.CursorBack', WHERE WHAT IT READS IS OF BULK AT MOST 1048576: true; the input reads as it did. -/
def cursorBackUptoRow : OpenClaim := { program := "ytfeddkfpkdjbeaa", sum := "fec800bfa79b2c9ffd64cfab70d84cc362f78c722468be3f59d48b1595061cb5", func := "inlay/inlaylaw02.CursorBack", spec := "cursorBack", unfollowed := true, recurses := true, apart := false, narrowed := true }
def CursorBackUptoSaid : Prop := cursorBackUptoRow.holds Try.pinned (OpenSpec.upto cursorBackSpec)

/-- 'inlaylaw02.CursorReads', WHERE WHAT IT READS IS OF BULK AT MOST 1048576: true; the input reads as it did. -/
def cursorReadsUptoRow : OpenClaim := { program := "ytfeddkfpkdjbeaa", sum := "fec800bfa79b2c9ffd64cfab70d84cc362f78c722468be3f59d48b1595061cb5", func := "inlay/inlaylaw02.CursorReads", spec := "cursorReads", unfollowed := true, recurses := true, apart := false, narrowed := true }
def CursorReadsUptoSaid : Prop := cursorReadsUptoRow.holds Try.pinned (OpenSpec.upto cursorReadsSpec)

/-- 'inlaylaw02.CursorNil', WHERE WHAT IT READS IS OF BULK AT MOST 1048576: true; the input reads as it did. -/
def cursorNilUptoRow : OpenClaim := { program := "ytfeddkfpkdjbeaa", sum := "fec800bfa79b2c9ffd64cfab70d84cc362f78c722468be3f59d48b1595061cb5", func := "inlay/inlaylaw02.CursorNil", spec := "cursorNil", unfollowed := true, recurses := true, apart := false, narrowed := true }
def CursorNilUptoSaid : Prop := cursorNilUptoRow.holds Try.pinned (OpenSpec.upto cursorNilSpec)

/-- 'inlaylaw04.RunsTakes', WHERE WHAT IT READS IS OF BULK AT MOST 1048576: true; the input reads as it did. -/
def runsTakesUptoRow : OpenClaim := { program := "ytfeddkfpkdjbeaa", sum := "fec800bfa79b2c9ffd64cfab70d84cc362f78c722468be3f59d48b1595061cb5", func := "inlay/inlaylaw04.RunsTakes", spec := "runsTakes", unfollowed := true, recurses := true, apart := false, narrowed := true }
def RunsTakesUptoSaid : Prop := runsTakesUptoRow.holds Try.pinned (OpenSpec.upto runsTakesSpec)

/-- 'inlaylaw12.LinesTakes', WHERE WHAT IT READS IS OF BULK AT MOST 1048576: true; the input reads as it did. -/
def linesTakesUptoRow : OpenClaim := { program := "ytfeddkfpkdjbeaa", sum := "fec800bfa79b2c9ffd64cfab70d84cc362f78c722468be3f59d48b1595061cb5", func := "inlay/inlaylaw12.LinesTakes", spec := "linesTakes", unfollowed := true, recurses := true, apart := false, narrowed := true }
def LinesTakesUptoSaid : Prop := linesTakesUptoRow.holds Try.pinned (OpenSpec.upto linesTakesSpec)

/-- 'inlaylaw11.SigTakes', WHERE WHAT IT READS IS OF BULK AT MOST 1048576: true; the input reads as it did. -/
def sigTakesUptoRow : OpenClaim := { program := "ytfeddkfpkdjbeaa", sum := "fec800bfa79b2c9ffd64cfab70d84cc362f78c722468be3f59d48b1595061cb5", func := "inlay/inlaylaw11.SigTakes", spec := "sigTakes", unfollowed := true, recurses := true, apart := false, narrowed := true }
def SigTakesUptoSaid : Prop := sigTakesUptoRow.holds Try.pinned (OpenSpec.upto sigTakesSpec)

/-- 'inlaylaw04.RunsBack', WHERE WHAT IT READS IS OF BULK AT MOST 1048576: true; the input reads as it did. -/
def runsBackUptoRow : OpenClaim := { program := "ytfeddkfpkdjbeaa", sum := "fec800bfa79b2c9ffd64cfab70d84cc362f78c722468be3f59d48b1595061cb5", func := "inlay/inlaylaw04.RunsBack", spec := "runsBack", unfollowed := true, recurses := true, apart := false, narrowed := true }
def RunsBackUptoSaid : Prop := runsBackUptoRow.holds Try.pinned (OpenSpec.upto runsBackSpec)

end Rows
end Go.Proofs.Ytfeddkfpkdjbeaa
