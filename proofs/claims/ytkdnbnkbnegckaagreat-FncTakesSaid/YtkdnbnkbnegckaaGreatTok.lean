/- The tables fit the program. -/
import Derived.Test.YtkdnbnkbnegckaaGreatTab
namespace Go.Proofs.YtkdnbnkbnegckaaGreat
open Go.RowKit

theorem prog_ok : progOk Tryz.prog plansX = true := by kernel_rfl
end Go.Proofs.YtkdnbnkbnegckaaGreat
