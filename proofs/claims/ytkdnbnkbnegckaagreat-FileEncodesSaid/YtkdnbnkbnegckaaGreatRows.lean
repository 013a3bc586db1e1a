/-
  No cell of these rows narrows 'for every input' (looked for: loops, veiled, ifaces, maps, wideKeys, modest, calm, conditions, laid).
  DERIVED. THE GIVEN ROWS OF THIS SEAT. 7 by the template 'for every input the law returns true; each argument reads behind the call as it read before'; 0 by the template 'total and deterministic' (their statements: YtkdnbnkbnegckaaGreatTotals.lean).
  GIVEN WITH THE SEED: the statements are not yours to turn. If you find one false, say at which input.
  Laid BY PROGRAM, IN A SANDBOX (cutbox-rows.mjs): the forced cells as the released guide's own fill.sh prints them over the translation f206763d2d9719ab… (all of the seat's roots in one cut). By AI agents, Wed Nov 11 2026. No macro, syntax, notation, axiom, sorry.
-/
import Derived.Test.YtkdnbnkbnegckaaGreatChecked
import GoSem.Claim
import GoSem.ClaimJoined
import GoSem.ClaimMapViews
import Derived.JoinedTies
import Derived.KernelRfl
namespace Go.Proofs.YtkdnbnkbnegckaaGreat
/- THE CELL 'sum', in the pinned program and in every row, IS THE sha256 OF THE DUMP (.gsa) THAT YtkdnbnkbnegckaaGreatProg.lean LOADS. Nothing in Lean hashes anything: it is a label: what it is worth is what the hold of that sum in a sandbox is worth. -/
noncomputable def Tryz.pinned : Pinned := { name := "ytkdnbnkbnegckaagreat", sum := "f206763d2d9719ab3d6d67dc9fe238b0fe01a05fd39c4ea4d845d7a92133d706", checked := Tryz.checked }
namespace Rows
def none {H : Type} : Left H := { results := [], args := [] }

/-- 'inlaylaw15.FncTakes': WHATEVER THE INPUT: true; the input reads as it did. -/
def fncTakesSpec : ChangeSpec := { name := "fncTakes", fn := fun _ => fun
  | [d] => { results := [.lit (.bool true)], args := [d] }
  | _ => none }
def fncTakesRow : OpenClaim := { program := "ytkdnbnkbnegckaagreat", sum := "f206763d2d9719ab3d6d67dc9fe238b0fe01a05fd39c4ea4d845d7a92133d706", func := "inlay/inlaylaw15.FncTakes", spec := "fncTakes", unfollowed := true, recurses := true, apart := false }
def FncTakesSaid : Prop := fncTakesRow.holds Tryz.pinned (OpenSpec.ofChange fncTakesSpec)

/-- ITS FALSE NEIGHBOUR: 'it returns false'. Refute it at one input. -/
def fncTakesWrong : ChangeSpec := { name := "fncTakes", fn := fun _ => fun
  | [d] => { results := [.lit (.bool false)], args := [d] }
  | _ => none }
def FncTakesWrongFalsely : Prop := fncTakesRow.holds Tryz.pinned (OpenSpec.ofChange fncTakesWrong)

/-- 'inlaylaw15.FncBack': WHATEVER THE INPUT: true; the input reads as it did. -/
def fncBackSpec : ChangeSpec := { name := "fncBack", fn := fun _ => fun
  | [d1, d2] => { results := [.lit (.bool true)], args := [d1, d2] }
  | _ => none }
def fncBackRow : OpenClaim := { program := "ytkdnbnkbnegckaagreat", sum := "f206763d2d9719ab3d6d67dc9fe238b0fe01a05fd39c4ea4d845d7a92133d706", func := "inlay/inlaylaw15.FncBack", spec := "fncBack", unfollowed := true, recurses := true, apart := false }
def FncBackSaid : Prop := fncBackRow.holds Tryz.pinned (OpenSpec.ofChange fncBackSpec)

/-- ITS FALSE NEIGHBOUR: 'it returns false'. Refute it at one input. -/
def fncBackWrong : ChangeSpec := { name := "fncBack", fn := fun _ => fun
  | [d1, d2] => { results := [.lit (.bool false)], args := [d1, d2] }
  | _ => none }
def FncBackWrongFalsely : Prop := fncBackRow.holds Tryz.pinned (OpenSpec.ofChange fncBackWrong)

/-- 'inlaylaw16.FileEncodes': WHATEVER THE INPUT: true; the input reads as it did. -/
def fileEncodesSpec : ChangeSpec := { name := "fileEncodes", fn := fun _ => fun
  | [d] => { results := [.lit (.bool true)], args := [d] }
  | _ => none }
def fileEncodesRow : OpenClaim := { program := "ytkdnbnkbnegckaagreat", sum := "f206763d2d9719ab3d6d67dc9fe238b0fe01a05fd39c4ea4d845d7a92133d706", func := "inlay/inlaylaw16.FileEncodes", spec := "fileEncodes", unfollowed := true, recurses := true, apart := false }
def FileEncodesSaid : Prop := fileEncodesRow.holds Tryz.pinned (OpenSpec.ofChange fileEncodesSpec)

/-- ITS FALSE NEIGHBOUR: 'it returns false'. Refute it at one input. -/
def fileEncodesWrong : ChangeSpec := { name := "fileEncodes", fn := fun _ => fun
  | [d] => { results := [.lit (.bool false)], args := [d] }
  | _ => none }
def FileEncodesWrongFalsely : Prop := fileEncodesRow.holds Tryz.pinned (OpenSpec.ofChange fileEncodesWrong)

/-- 'inlaylaw16.FileDecodes': WHATEVER THE INPUT: true; the input reads as it did. -/
def fileDecodesSpec : ChangeSpec := { name := "fileDecodes", fn := fun _ => fun
  | [d] => { results := [.lit (.bool true)], args := [d] }
  | _ => none }
def fileDecodesRow : OpenClaim := { program := "ytkdnbnkbnegckaagreat", sum := "f206763d2d9719ab3d6d67dc9fe238b0fe01a05fd39c4ea4d845d7a92133d706", func := "inlay/inlaylaw16.FileDecodes", spec := "fileDecodes", unfollowed := true, recurses := true, apart := false }
def FileDecodesSaid : Prop := fileDecodesRow.holds Tryz.pinned (OpenSpec.ofChange fileDecodesSpec)

/-- ITS FALSE NEIGHBOUR: 'it returns false'. Refute it at one input. -/
def fileDecodesWrong : ChangeSpec := { name := "fileDecodes", fn := fun _ => fun
  | [d] => { results := [.lit (.bool false)], args := [d] }
  | _ => none }
def FileDecodesWrongFalsely : Prop := fileDecodesRow.holds Tryz.pinned (OpenSpec.ofChange fileDecodesWrong)

/-- 'inlaylaw16.FileCuts': WHATEVER THE INPUT: true; the input reads as it did. -/
def fileCutsSpec : ChangeSpec := { name := "fileCuts", fn := fun _ => fun
  | [d1, d2, d3] => { results := [.lit (.bool true)], args := [d1, d2, d3] }
  | _ => none }
def fileCutsRow : OpenClaim := { program := "ytkdnbnkbnegckaagreat", sum := "f206763d2d9719ab3d6d67dc9fe238b0fe01a05fd39c4ea4d845d7a92133d706", func := "inlay/inlaylaw16.FileCuts", spec := "fileCuts", unfollowed := true, recurses := true, apart := false }
def FileCutsSaid : Prop := fileCutsRow.holds Tryz.pinned (OpenSpec.ofChange fileCutsSpec)

/-- ITS FALSE NEIGHBOUR: 'it returns false'. Refute it at one input. -/
def fileCutsWrong : ChangeSpec := { name := "fileCuts", fn := fun _ => fun
  | [d1, d2, d3] => { results := [.lit (.bool false)], args := [d1, d2, d3] }
  | _ => none }
def FileCutsWrongFalsely : Prop := fileCutsRow.holds Tryz.pinned (OpenSpec.ofChange fileCutsWrong)

/-- 'inlaylaw16.FileSame': WHATEVER THE INPUT: true; the input reads as it did. -/
def fileSameSpec : ChangeSpec := { name := "fileSame", fn := fun _ => fun
  | [d1, d2] => { results := [.lit (.bool true)], args := [d1, d2] }
  | _ => none }
def fileSameRow : OpenClaim := { program := "ytkdnbnkbnegckaagreat", sum := "f206763d2d9719ab3d6d67dc9fe238b0fe01a05fd39c4ea4d845d7a92133d706", func := "inlay/inlaylaw16.FileSame", spec := "fileSame", unfollowed := true, recurses := true, apart := false }
def FileSameSaid : Prop := fileSameRow.holds Tryz.pinned (OpenSpec.ofChange fileSameSpec)

/-- ITS FALSE NEIGHBOUR: 'it returns false'. Refute it at one input. -/
def fileSameWrong : ChangeSpec := { name := "fileSame", fn := fun _ => fun
  | [d1, d2] => { results := [.lit (.bool false)], args := [d1, d2] }
  | _ => none }
def FileSameWrongFalsely : Prop := fileSameRow.holds Tryz.pinned (OpenSpec.ofChange fileSameWrong)

/-- 'inlaylaw16.FileBack': WHATEVER THE INPUT: true; the input reads as it did. -/
def fileBackSpec : ChangeSpec := { name := "fileBack", fn := fun _ => fun
  | [d] => { results := [.lit (.bool true)], args := [d] }
  | _ => none }
def fileBackRow : OpenClaim := { program := "ytkdnbnkbnegckaagreat", sum := "f206763d2d9719ab3d6d67dc9fe238b0fe01a05fd39c4ea4d845d7a92133d706", func := "inlay/inlaylaw16.FileBack", spec := "fileBack", unfollowed := true, recurses := true, apart := false }
def FileBackSaid : Prop := fileBackRow.holds Tryz.pinned (OpenSpec.ofChange fileBackSpec)

/-- ITS FALSE NEIGHBOUR: 'it returns false'. Refute it at one input. -/
def fileBackWrong : ChangeSpec := { name := "fileBack", fn := fun _ => fun
  | [d] => { results := [.lit (.bool false)], args := [d] }
  | _ => none }
def FileBackWrongFalsely : Prop := fileBackRow.holds Tryz.pinned (OpenSpec.ofChange fileBackWrong)

/- THE SECOND FORM. 'bulk': how many values and letters a reading holds, each counted each time it is reached (what is shared counts as often as it is met; a slice's spare places count too). A statement '..UptoSaid' is the law's where the arguments, and the package variables that the reading takes, are together of bulk at most 1048576: NARROWER than '..Said'. Prove '..Said' where nothing that the law and all that it calls make is longer than what came in: it says more and counts as full. Else prove '..UptoSaid'. A law counts once. -/
mutual
def uptoBulk {H : Type} : DataW H → Nat
  | .lit (.string bytes) => bytes.length + 1
  | .lit _ => 1
  | .nil => 1
  | .ptr d => uptoBulk d + 1
  | .slice elems spare => uptoBulkAll elems + uptoBulkAll spare + 1
  | .agg parts => uptoBulkAll parts + 1
  | .iface _ d => uptoBulk d + 1
  | .map entries => uptoBulkEntries entries + 1
  | .held _ => 1
def uptoBulkAll {H : Type} : List (DataW H) → Nat
  | [] => 0
  | d :: r => uptoBulk d + uptoBulkAll r
def uptoBulkEntries {H : Type} : List (Lit × DataW H) → Nat
  | [] => 0
  | x :: r => uptoBulkEntry x + uptoBulkEntries r
def uptoBulkEntry {H : Type} : Lit × DataW H → Nat
  | (.string bytes, d) => bytes.length + uptoBulk d + 1
  | (_, d) => uptoBulk d + 1
 end
def uptoSmall : (H : Type) → List (DataW H) → Bool := fun _ ds => decide (uptoBulkAll ds ≤ 1048576)
def OpenSpec.upto (s : _root_.Go.ChangeSpec) : _root_.Go.OpenSpec := { _root_.Go.OpenSpec.ofChange s with cond := some uptoSmall }

/-- 'inlaylaw15.FncTakes', WHERE WHAT IT READS IS OF BULK AT MOST 1048576: true; the input reads as it did. -/
def fncTakesUptoRow : OpenClaim := { program := "ytkdnbnkbnegckaagreat", sum := "f206763d2d9719ab3d6d67dc9fe238b0fe01a05fd39c4ea4d845d7a92133d706", func := "inlay/inlaylaw15.FncTakes", spec := "fncTakes", unfollowed := true, recurses := true, apart := false, narrowed := true }
def FncTakesUptoSaid : Prop := fncTakesUptoRow.holds Tryz.pinned (OpenSpec.upto fncTakesSpec)

/-- 'inlaylaw15.FncBack', WHERE WHAT IT READS IS OF BULK AT MOST 1048576: true; the input reads as it did. -/
def fncBackUptoRow : OpenClaim := { program := "ytkdnbnkbnegckaagreat", sum := "f206763d2d9719ab3d6d67dc9fe238b0fe01a05fd39c4ea4d845d7a92133d706", func := "inlay/inlaylaw15.FncBack", spec := "fncBack", unfollowed := true, recurses := true, apart := false, narrowed := true }
def FncBackUptoSaid : Prop := fncBackUptoRow.holds Tryz.pinned (OpenSpec.upto fncBackSpec)

/-- 'inlaylaw16.FileEncodes', WHERE WHAT IT READS IS OF BULK AT MOST 1048576: true; the input reads as it did. -/
def fileEncodesUptoRow : OpenClaim := { program := "ytkdnbnkbnegckaagreat", sum := "f206763d2d9719ab3d6d67dc9fe238b0fe01a05fd39c4ea4d845d7a92133d706", func := "inlay/inlaylaw16.FileEncodes", spec := "fileEncodes", unfollowed := true, recurses := true, apart := false, narrowed := true }
def FileEncodesUptoSaid : Prop := fileEncodesUptoRow.holds Tryz.pinned (OpenSpec.upto fileEncodesSpec)

/-- 'inlaylaw16.FileDecodes', WHERE WHAT IT READS IS OF BULK AT MOST 1048576: true; the input reads as it did. -/
def fileDecodesUptoRow : OpenClaim := { program := "ytkdnbnkbnegckaagreat", sum := "f206763d2d9719ab3d6d67dc9fe238b0fe01a05fd39c4ea4d845d7a92133d706", func := "inlay/inlaylaw16.FileDecodes", spec := "fileDecodes", unfollowed := true, recurses := true, apart := false, narrowed := true }
def FileDecodesUptoSaid : Prop := fileDecodesUptoRow.holds Tryz.pinned (OpenSpec.upto fileDecodesSpec)

/-- 'inlaylaw16.FileCuts', WHERE WHAT IT READS IS OF BULK AT MOST 1048576: true; the input reads as it did. -/
def fileCutsUptoRow : OpenClaim := { program := "ytkdnbnkbnegckaagreat", sum := "f206763d2d9719ab3d6d67dc9fe238b0fe01a05fd39c4ea4d845d7a92133d706", func := "inlay/inlaylaw16.FileCuts", spec := "fileCuts", unfollowed := true, recurses := true, apart := false, narrowed := true }
def FileCutsUptoSaid : Prop := fileCutsUptoRow.holds Tryz.pinned (OpenSpec.upto fileCutsSpec)

/-- 'inlaylaw16.FileSame', WHERE WHAT IT READS IS OF BULK AT MOST 1048576: true; the input reads as it did. -/
def fileSameUptoRow : OpenClaim := { program := "ytkdnbnkbnegckaagreat", sum := "f206763d2d9719ab3d6d67dc9fe238b0fe01a05fd39c4ea4d845d7a92133d706", func := "inlay/inlaylaw16.FileSame", spec := "fileSame", unfollowed := true, recurses := true, apart := false, narrowed := true }
def FileSameUptoSaid : Prop := fileSameUptoRow.holds Tryz.pinned (OpenSpec.upto fileSameSpec)

/-- 'inlaylaw16.FileBack', WHERE WHAT IT READS IS OF BULK AT MOST 1048576: true; the input reads as it did. -/
def fileBackUptoRow : OpenClaim := { program := "ytkdnbnkbnegckaagreat", sum := "f206763d2d9719ab3d6d67dc9fe238b0fe01a05fd39c4ea4d845d7a92133d706", func := "inlay/inlaylaw16.FileBack", spec := "fileBack", unfollowed := true, recurses := true, apart := false, narrowed := true }
def FileBackUptoSaid : Prop := fileBackUptoRow.holds Tryz.pinned (OpenSpec.upto fileBackSpec)

end Rows
end Go.Proofs.YtkdnbnkbnegckaaGreat
