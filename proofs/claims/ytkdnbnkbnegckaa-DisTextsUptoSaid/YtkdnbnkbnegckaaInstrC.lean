/- The number that a text is, in plain Lean; the walks of instr.Number and of its reference. Whether a function may be called so. Whether two slices of structs, or of arrays, are the same: slices.Equal and the references' loops. Whether two slices of ints are the same: slices.Equal and the references' loops. Whether two functions are the same: fnc.Same. Functions: how many slots they have, whether they have tables, whether their types may be. Instructions: small facts for their walks. -/
import Derived.Test.YtkdnbnkbnegckaaOpsW
import Derived.Test.YtkdnbnkbnegckaaDigI
import Derived.Test.YtkdnbnkbnegckaaShelf
import Derived.Test.YtkdnbnkbnegckaaBase
import Derived.Test.YtkdnbnkbnegckaaStrA
import Derived.Test.YtkdnbnkbnegckaaData
import Derived.Test.YtkdnbnkbnegckaaStructQ
import Derived.Test.YtkdnbnkbnegckaaDigP
import Derived.Deep.DeepCutAuto
import Derived.Test.YtkdnbnkbnegckaaInstr
namespace Go.Proofs.Ytkdnbnkbnegckaa
open Go.RowKit

end Go.Proofs.Ytkdnbnkbnegckaa
namespace Go.Proofs.Ytkdnbnkbnegckaa
open Go.RowKit

end Go.Proofs.Ytkdnbnkbnegckaa
namespace Go.Proofs.Ytkdnbnkbnegckaa
open Go.RowKit
end Go.Proofs.Ytkdnbnkbnegckaa
namespace Go.Proofs.Ytkdnbnkbnegckaa
open Go.RowKit
end Go.Proofs.Ytkdnbnkbnegckaa
namespace Go.Proofs.Ytkdnbnkbnegckaa
open Go.RowKit

end Go.Proofs.Ytkdnbnkbnegckaa
namespace Go.Proofs.Ytkdnbnkbnegckaa
open Go.RowKit

theorem one_box (w : World) (cs : List Value) (t : TypeId) :
    Ext w (w.alloc (.cells cs.toArray t)) ∧ w.heap.size < (w.alloc (.cells cs.toArray t)).heap.size ∧ Cells (w.alloc (.cells cs.toArray t)) (some ⟨w.heap.size, 0, none⟩) cs :=
  ⟨(Ext.rf w).al _, by simp, cells_new w cs t _ rfl⟩

end Go.Proofs.Ytkdnbnkbnegckaa
namespace Go.Proofs.Ytkdnbnkbnegckaa
open Go.RowKit

theorem operandI_nn (op : Int) (h : operandI op ≠ 0) : 0 < operandI op := by have := operandI_lt op; omega
end Go.Proofs.Ytkdnbnkbnegckaa
