/-
  No cell of these rows narrows 'for every input' (looked for: loops, veiled, ifaces, maps, wideKeys, modest, calm, conditions, laid).
  DERIVED. THE GIVEN ROWS OF THIS SEAT. 10 by the template 'for every input the law returns true; each argument reads behind the call as it read before'; 0 by the template 'total and deterministic' (their statements: YtofdkhilapmccaaTotals.lean).
  GIVEN WITH THE SEED: the statements are not yours to turn. If you find one false, say at which input.
  Laid BY PROGRAM, IN A SANDBOX (cutbox-rows.mjs): the forced cells as the released guide's own fill.sh prints them over the translation 3e00821a3102c712… (all of the seat's roots in one cut). By AI agents, Wed Nov 11 2026. No macro, syntax, notation, axiom, sorry.
-/
import Derived.Test.YtofdkhilapmccaaChecked
import GoSem.Claim
import GoSem.ClaimJoined
import GoSem.ClaimMapViews
import Derived.JoinedTies
import Derived.KernelRfl
namespace Go.Proofs.Ytofdkhilapmccaa
/- THE CELL 'sum', in the pinned program and in every row, IS THE sha256 OF THE DUMP (.gsa) THAT YtofdkhilapmccaaProg.lean LOADS. Nothing in Lean hashes anything: it is a label: what it is worth is what the hold of that sum in a sandbox is worth. -/
noncomputable def Try.pinned : Pinned := { name := "ytofdkhilapmccaa", sum := "3e00821a3102c712d7807b72f0719d6324b96c6a1d4b8e861f4bb45228b8de1a", checked := Try.checked }
namespace Rows
def none {H : Type} : Left H := { results := [], args := [] }

/-- 'inlaylaw15.FncSame': WHATEVER THE INPUT: true; the input reads as it did. -/
def fncSameSpec : ChangeSpec := { name := "fncSame", fn := fun _ => fun
  | [d1, d2] => { results := [.lit (.bool true)], args := [d1, d2] }
  | _ => none }
def fncSameRow : OpenClaim := { program := "ytofdkhilapmccaa", sum := "3e00821a3102c712d7807b72f0719d6324b96c6a1d4b8e861f4bb45228b8de1a", func := "inlay/inlaylaw15.FncSame", spec := "fncSame", unfollowed := true, recurses := true, apart := false }
def FncSameSaid : Prop := fncSameRow.holds Try.pinned (OpenSpec.ofChange fncSameSpec)

/-- ITS FALSE NEIGHBOUR: 'it returns false'. Refute it at one input. -/
def fncSameWrong : ChangeSpec := { name := "fncSame", fn := fun _ => fun
  | [d1, d2] => { results := [.lit (.bool false)], args := [d1, d2] }
  | _ => none }
def FncSameWrongFalsely : Prop := fncSameRow.holds Try.pinned (OpenSpec.ofChange fncSameWrong)

/-- 'inlaylaw18.DisTexts': WHATEVER THE INPUT: true; the input reads as it did. -/
def disTextsSpec : ChangeSpec := { name := "disTexts", fn := fun _ => fun
  | [d] => { results := [.lit (.bool true)], args := [d] }
  | _ => none }
def disTextsRow : OpenClaim := { program := "ytofdkhilapmccaa", sum := "3e00821a3102c712d7807b72f0719d6324b96c6a1d4b8e861f4bb45228b8de1a", func := "inlay/inlaylaw18.DisTexts", spec := "disTexts", inPlace := ["internal/abi.NoEscape", "internal/bytealg.MakeNoZero"], unfollowed := true, recurses := true, apart := false }
def DisTextsSaid : Prop := disTextsRow.holds Try.pinned (OpenSpec.ofChange disTextsSpec)

/-- ITS FALSE NEIGHBOUR: 'it returns false'. Refute it at one input. -/
def disTextsWrong : ChangeSpec := { name := "disTexts", fn := fun _ => fun
  | [d] => { results := [.lit (.bool false)], args := [d] }
  | _ => none }
def DisTextsWrongFalsely : Prop := disTextsRow.holds Try.pinned (OpenSpec.ofChange disTextsWrong)

/-- 'inlaylaw13.TreeRight': WHATEVER THE INPUT: true; the input reads as it did. -/
def treeRightSpec : ChangeSpec := { name := "treeRight", fn := fun _ => fun
  | [d] => { results := [.lit (.bool true)], args := [d] }
  | _ => none }
def treeRightRow : OpenClaim := { program := "ytofdkhilapmccaa", sum := "3e00821a3102c712d7807b72f0719d6324b96c6a1d4b8e861f4bb45228b8de1a", func := "inlay/inlaylaw13.TreeRight", spec := "treeRight", inPlace := ["internal/abi.NoEscape", "internal/bytealg.MakeNoZero"], recurses := true, apart := false }
def TreeRightSaid : Prop := treeRightRow.holds Try.pinned (OpenSpec.ofChange treeRightSpec)

/-- ITS FALSE NEIGHBOUR: 'it returns false'. Refute it at one input. -/
def treeRightWrong : ChangeSpec := { name := "treeRight", fn := fun _ => fun
  | [d] => { results := [.lit (.bool false)], args := [d] }
  | _ => none }
def TreeRightWrongFalsely : Prop := treeRightRow.holds Try.pinned (OpenSpec.ofChange treeRightWrong)

/-- 'inlaylaw13.TreeApart': WHATEVER THE INPUT: true; the input reads as it did. -/
def treeApartSpec : ChangeSpec := { name := "treeApart", fn := fun _ => fun
  | [d] => { results := [.lit (.bool true)], args := [d] }
  | _ => none }
def treeApartRow : OpenClaim := { program := "ytofdkhilapmccaa", sum := "3e00821a3102c712d7807b72f0719d6324b96c6a1d4b8e861f4bb45228b8de1a", func := "inlay/inlaylaw13.TreeApart", spec := "treeApart", inPlace := ["internal/abi.NoEscape", "internal/bytealg.MakeNoZero"], apart := false }
def TreeApartSaid : Prop := treeApartRow.holds Try.pinned (OpenSpec.ofChange treeApartSpec)

/-- ITS FALSE NEIGHBOUR: 'it returns false'. Refute it at one input. -/
def treeApartWrong : ChangeSpec := { name := "treeApart", fn := fun _ => fun
  | [d] => { results := [.lit (.bool false)], args := [d] }
  | _ => none }
def TreeApartWrongFalsely : Prop := treeApartRow.holds Try.pinned (OpenSpec.ofChange treeApartWrong)

/-- 'inlaylaw10.InstrReads': WHATEVER THE INPUT: true; the input reads as it did. -/
def instrReadsSpec : ChangeSpec := { name := "instrReads", fn := fun _ => fun
  | [d1, d2] => { results := [.lit (.bool true)], args := [d1, d2] }
  | _ => none }
def instrReadsRow : OpenClaim := { program := "ytofdkhilapmccaa", sum := "3e00821a3102c712d7807b72f0719d6324b96c6a1d4b8e861f4bb45228b8de1a", func := "inlay/inlaylaw10.InstrReads", spec := "instrReads", inPlace := ["internal/bytealg.IndexByteString", "internal/bytealg.IndexString"], unfollowed := true, recurses := true, named := ["internal/bytealg.MaxLen"], apart := false }
def InstrReadsSaid : Prop := instrReadsRow.holds Try.pinned (OpenSpec.ofChange instrReadsSpec)

/-- ITS FALSE NEIGHBOUR: 'it returns false'. Refute it at one input. -/
def instrReadsWrong : ChangeSpec := { name := "instrReads", fn := fun _ => fun
  | [d1, d2] => { results := [.lit (.bool false)], args := [d1, d2] }
  | _ => none }
def InstrReadsWrongFalsely : Prop := instrReadsRow.holds Try.pinned (OpenSpec.ofChange instrReadsWrong)

/-- 'inlaylaw13.TreeTells': WHATEVER THE INPUT: true; the input reads as it did. -/
def treeTellsSpec : ChangeSpec := { name := "treeTells", fn := fun _ => fun
  | [d1, d2, d3] => { results := [.lit (.bool true)], args := [d1, d2, d3] }
  | _ => none }
def treeTellsRow : OpenClaim := { program := "ytofdkhilapmccaa", sum := "3e00821a3102c712d7807b72f0719d6324b96c6a1d4b8e861f4bb45228b8de1a", func := "inlay/inlaylaw13.TreeTells", spec := "treeTells", inPlace := ["internal/abi.NoEscape", "internal/bytealg.MakeNoZero"], recurses := true, apart := false }
def TreeTellsSaid : Prop := treeTellsRow.holds Try.pinned (OpenSpec.ofChange treeTellsSpec)

/-- ITS FALSE NEIGHBOUR: 'it returns false'. Refute it at one input. -/
def treeTellsWrong : ChangeSpec := { name := "treeTells", fn := fun _ => fun
  | [d1, d2, d3] => { results := [.lit (.bool false)], args := [d1, d2, d3] }
  | _ => none }
def TreeTellsWrongFalsely : Prop := treeTellsRow.holds Try.pinned (OpenSpec.ofChange treeTellsWrong)

/-- 'inlaylaw15.FncCan': WHATEVER THE INPUT: true; the input reads as it did. -/
def fncCanSpec : ChangeSpec := { name := "fncCan", fn := fun _ => fun
  | [d] => { results := [.lit (.bool true)], args := [d] }
  | _ => none }
def fncCanRow : OpenClaim := { program := "ytofdkhilapmccaa", sum := "3e00821a3102c712d7807b72f0719d6324b96c6a1d4b8e861f4bb45228b8de1a", func := "inlay/inlaylaw15.FncCan", spec := "fncCan", unfollowed := true, recurses := true, apart := false }
def FncCanSaid : Prop := fncCanRow.holds Try.pinned (OpenSpec.ofChange fncCanSpec)

/-- ITS FALSE NEIGHBOUR: 'it returns false'. Refute it at one input. -/
def fncCanWrong : ChangeSpec := { name := "fncCan", fn := fun _ => fun
  | [d] => { results := [.lit (.bool false)], args := [d] }
  | _ => none }
def FncCanWrongFalsely : Prop := fncCanRow.holds Try.pinned (OpenSpec.ofChange fncCanWrong)

/-- 'inlaylaw13.TreeTakes': WHATEVER THE INPUT: true; the input reads as it did. -/
def treeTakesSpec : ChangeSpec := { name := "treeTakes", fn := fun _ => fun
  | [d] => { results := [.lit (.bool true)], args := [d] }
  | _ => none }
def treeTakesRow : OpenClaim := { program := "ytofdkhilapmccaa", sum := "3e00821a3102c712d7807b72f0719d6324b96c6a1d4b8e861f4bb45228b8de1a", func := "inlay/inlaylaw13.TreeTakes", spec := "treeTakes", inPlace := ["internal/abi.NoEscape", "internal/bytealg.MakeNoZero"], unfollowed := true, recurses := true, apart := false }
def TreeTakesSaid : Prop := treeTakesRow.holds Try.pinned (OpenSpec.ofChange treeTakesSpec)

/-- ITS FALSE NEIGHBOUR: 'it returns false'. Refute it at one input. -/
def treeTakesWrong : ChangeSpec := { name := "treeTakes", fn := fun _ => fun
  | [d] => { results := [.lit (.bool false)], args := [d] }
  | _ => none }
def TreeTakesWrongFalsely : Prop := treeTakesRow.holds Try.pinned (OpenSpec.ofChange treeTakesWrong)

/-- 'inlaylaw10.InstrTakes': WHATEVER THE INPUT: true; the input reads as it did. -/
def instrTakesSpec : ChangeSpec := { name := "instrTakes", fn := fun _ => fun
  | [d] => { results := [.lit (.bool true)], args := [d] }
  | _ => none }
def instrTakesRow : OpenClaim := { program := "ytofdkhilapmccaa", sum := "3e00821a3102c712d7807b72f0719d6324b96c6a1d4b8e861f4bb45228b8de1a", func := "inlay/inlaylaw10.InstrTakes", spec := "instrTakes", inPlace := ["internal/bytealg.IndexByteString", "internal/bytealg.IndexString"], unfollowed := true, recurses := true, named := ["internal/bytealg.MaxLen"], apart := false }
def InstrTakesSaid : Prop := instrTakesRow.holds Try.pinned (OpenSpec.ofChange instrTakesSpec)

/-- ITS FALSE NEIGHBOUR: 'it returns false'. Refute it at one input. -/
def instrTakesWrong : ChangeSpec := { name := "instrTakes", fn := fun _ => fun
  | [d] => { results := [.lit (.bool false)], args := [d] }
  | _ => none }
def InstrTakesWrongFalsely : Prop := instrTakesRow.holds Try.pinned (OpenSpec.ofChange instrTakesWrong)

/-- 'inlaylaw10.InstrPuts': WHATEVER THE INPUT: true; the input reads as it did. -/
def instrPutsSpec : ChangeSpec := { name := "instrPuts", fn := fun _ => fun
  | [d1, d2] => { results := [.lit (.bool true)], args := [d1, d2] }
  | _ => none }
def instrPutsRow : OpenClaim := { program := "ytofdkhilapmccaa", sum := "3e00821a3102c712d7807b72f0719d6324b96c6a1d4b8e861f4bb45228b8de1a", func := "inlay/inlaylaw10.InstrPuts", spec := "instrPuts", inPlace := ["internal/bytealg.IndexByteString", "internal/bytealg.IndexString"], unfollowed := true, recurses := true, named := ["internal/bytealg.MaxLen"], apart := false }
def InstrPutsSaid : Prop := instrPutsRow.holds Try.pinned (OpenSpec.ofChange instrPutsSpec)

/-- ITS FALSE NEIGHBOUR: 'it returns false'. Refute it at one input. -/
def instrPutsWrong : ChangeSpec := { name := "instrPuts", fn := fun _ => fun
  | [d1, d2] => { results := [.lit (.bool false)], args := [d1, d2] }
  | _ => none }
def InstrPutsWrongFalsely : Prop := instrPutsRow.holds Try.pinned (OpenSpec.ofChange instrPutsWrong)

/- THE SECOND FORM. 'bulk': how many values and letters a reading holds, each counted each time it is reached (what is shared counts as often as it is met; a slice's spare places count too). A statement '..UptoSaid' is the law's where the arguments, and the package variables that the reading takes, are together of bulk at most 1048576: NARROWER than '..Said'. Prove '..Said' where nothing that the law and all that it calls make is longer than what came in: it says more and counts as full. Else prove '..UptoSaid'. A law counts once. -/
mutual
def uptoBulk {H : Type} : DataW H → Nat
  | .lit (.string bytes) => bytes.length + 1
  | .lit _ => 1
  | .nil => 1
  | .ptr d => uptoBulk d + 1
  | .slice elems spare => uptoBulkAll elems + uptoBulkAll spare + 1
  | .agg parts => uptoBulkAll parts + 1
  | .iface _ d => uptoBulk d + 1
  | .map entries => uptoBulkEntries entries + 1
  | .held _ => 1
def uptoBulkAll {H : Type} : List (DataW H) → Nat
  | [] => 0
  | d :: r => uptoBulk d + uptoBulkAll r
def uptoBulkEntries {H : Type} : List (Lit × DataW H) → Nat
  | [] => 0
  | x :: r => uptoBulkEntry x + uptoBulkEntries r
def uptoBulkEntry {H : Type} : Lit × DataW H → Nat
  | (.string bytes, d) => bytes.length + uptoBulk d + 1
  | (_, d) => uptoBulk d + 1
 end
def uptoSmall : (H : Type) → List (DataW H) → Bool := fun _ ds => decide (uptoBulkAll ds ≤ 1048576)
def OpenSpec.upto (s : _root_.Go.ChangeSpec) : _root_.Go.OpenSpec := { _root_.Go.OpenSpec.ofChange s with cond := some uptoSmall }

/-- 'inlaylaw15.FncSame', WHERE WHAT IT READS IS OF BULK AT MOST 1048576: true; the input reads as it did. -/
def fncSameUptoRow : OpenClaim := { program := "ytofdkhilapmccaa", sum := "3e00821a3102c712d7807b72f0719d6324b96c6a1d4b8e861f4bb45228b8de1a", func := "inlay/inlaylaw15.FncSame", spec := "fncSame", unfollowed := true, recurses := true, apart := false, narrowed := true }
def FncSameUptoSaid : Prop := fncSameUptoRow.holds Try.pinned (OpenSpec.upto fncSameSpec)

/-- 'inlaylaw18.DisTexts', WHERE WHAT IT READS IS OF BULK AT MOST 1048576: true; the input reads as it did. -/
def disTextsUptoRow : OpenClaim := { program := "ytofdkhilapmccaa", sum := "3e00821a3102c712d7807b72f0719d6324b96c6a1d4b8e861f4bb45228b8de1a", func := "inlay/inlaylaw18.DisTexts", spec := "disTexts", inPlace := ["internal/abi.NoEscape", "internal/bytealg.MakeNoZero"], unfollowed := true, recurses := true, apart := false, narrowed := true }
def DisTextsUptoSaid : Prop := disTextsUptoRow.holds Try.pinned (OpenSpec.upto disTextsSpec)

/-- 'inlaylaw13.TreeRight', WHERE WHAT IT READS IS OF BULK AT MOST 1048576: true; the input reads as it did. -/
def treeRightUptoRow : OpenClaim := { program := "ytofdkhilapmccaa", sum := "3e00821a3102c712d7807b72f0719d6324b96c6a1d4b8e861f4bb45228b8de1a", func := "inlay/inlaylaw13.TreeRight", spec := "treeRight", inPlace := ["internal/abi.NoEscape", "internal/bytealg.MakeNoZero"], recurses := true, apart := false, narrowed := true }
def TreeRightUptoSaid : Prop := treeRightUptoRow.holds Try.pinned (OpenSpec.upto treeRightSpec)

/-- 'inlaylaw13.TreeApart', WHERE WHAT IT READS IS OF BULK AT MOST 1048576: true; the input reads as it did. -/
def treeApartUptoRow : OpenClaim := { program := "ytofdkhilapmccaa", sum := "3e00821a3102c712d7807b72f0719d6324b96c6a1d4b8e861f4bb45228b8de1a", func := "inlay/inlaylaw13.TreeApart", spec := "treeApart", inPlace := ["internal/abi.NoEscape", "internal/bytealg.MakeNoZero"], apart := false, narrowed := true }
def TreeApartUptoSaid : Prop := treeApartUptoRow.holds Try.pinned (OpenSpec.upto treeApartSpec)

/-- 'inlaylaw10.InstrReads', WHERE WHAT IT READS IS OF BULK AT MOST 1048576: true; the input reads as it did. -/
def instrReadsUptoRow : OpenClaim := { program := "ytofdkhilapmccaa", sum := "3e00821a3102c712d7807b72f0719d6324b96c6a1d4b8e861f4bb45228b8de1a", func := "inlay/inlaylaw10.InstrReads", spec := "instrReads", inPlace := ["internal/bytealg.IndexByteString", "internal/bytealg.IndexString"], unfollowed := true, recurses := true, named := ["internal/bytealg.MaxLen"], apart := false, narrowed := true }
def InstrReadsUptoSaid : Prop := instrReadsUptoRow.holds Try.pinned (OpenSpec.upto instrReadsSpec)

/-- 'inlaylaw13.TreeTells', WHERE WHAT IT READS IS OF BULK AT MOST 1048576: true; the input reads as it did. -/
def treeTellsUptoRow : OpenClaim := { program := "ytofdkhilapmccaa", sum := "3e00821a3102c712d7807b72f0719d6324b96c6a1d4b8e861f4bb45228b8de1a", func := "inlay/inlaylaw13.TreeTells", spec := "treeTells", inPlace := ["internal/abi.NoEscape", "internal/bytealg.MakeNoZero"], recurses := true, apart := false, narrowed := true }
def TreeTellsUptoSaid : Prop := treeTellsUptoRow.holds Try.pinned (OpenSpec.upto treeTellsSpec)

/-- 'inlaylaw15.FncCan', WHERE WHAT IT READS IS OF BULK AT MOST 1048576: true; the input reads as it did. -/
def fncCanUptoRow : OpenClaim := { program := "ytofdkhilapmccaa", sum := "3e00821a3102c712d7807b72f0719d6324b96c6a1d4b8e861f4bb45228b8de1a", func := "inlay/inlaylaw15.FncCan", spec := "fncCan", unfollowed := true, recurses := true, apart := false, narrowed := true }
def FncCanUptoSaid : Prop := fncCanUptoRow.holds Try.pinned (OpenSpec.upto fncCanSpec)

/-- 'inlaylaw13.TreeTakes', WHERE WHAT IT READS IS OF BULK AT MOST 1048576: true; the input reads as it did. -/
def treeTakesUptoRow : OpenClaim := { program := "ytofdkhilapmccaa", sum := "3e00821a3102c712d7807b72f0719d6324b96c6a1d4b8e861f4bb45228b8de1a", func := "inlay/inlaylaw13.TreeTakes", spec := "treeTakes", inPlace := ["internal/abi.NoEscape", "internal/bytealg.MakeNoZero"], unfollowed := true, recurses := true, apart := false, narrowed := true }
def TreeTakesUptoSaid : Prop := treeTakesUptoRow.holds Try.pinned (OpenSpec.upto treeTakesSpec)

/-- 'inlaylaw10.InstrTakes', WHERE WHAT IT READS IS OF BULK AT MOST 1048576: true; the input reads as it did. -/
def instrTakesUptoRow : OpenClaim := { program := "ytofdkhilapmccaa", sum := "3e00821a3102c712d7807b72f0719d6324b96c6a1d4b8e861f4bb45228b8de1a", func := "inlay/inlaylaw10.InstrTakes", spec := "instrTakes", inPlace := ["internal/bytealg.IndexByteString", "internal/bytealg.IndexString"], unfollowed := true, recurses := true, named := ["internal/bytealg.MaxLen"], apart := false, narrowed := true }
def InstrTakesUptoSaid : Prop := instrTakesUptoRow.holds Try.pinned (OpenSpec.upto instrTakesSpec)

/-- 'inlaylaw10.InstrPuts', WHERE WHAT IT READS IS OF BULK AT MOST 1048576: true; the input reads as it did. -/
def instrPutsUptoRow : OpenClaim := { program := "ytofdkhilapmccaa", sum := "3e00821a3102c712d7807b72f0719d6324b96c6a1d4b8e861f4bb45228b8de1a", func := "inlay/inlaylaw10.InstrPuts", spec := "instrPuts", inPlace := ["internal/bytealg.IndexByteString", "internal/bytealg.IndexString"], unfollowed := true, recurses := true, named := ["internal/bytealg.MaxLen"], apart := false, narrowed := true }
def InstrPutsUptoSaid : Prop := instrPutsUptoRow.holds Try.pinned (OpenSpec.upto instrPutsSpec)

end Rows
end Go.Proofs.Ytofdkhilapmccaa
