/- Whether a type may be. -/
import Derived.Test.YtofdkhilapmccaaBase
namespace Go.Proofs.Ytofdkhilapmccaa
open Go.RowKit

theorem sig_May (a : Int) (w : World) :
    Calls Try.prog 185 #[.int .i64 a] w fun e w' => e = .returned (.bool (a == 1 || a == 2)) ∧ w = w' := by
  by_cases h1 : a = 1
  · subst h1
    go_enter Try.func185, Try.ntmps185
    go_wp2
    go_ret
    exact ⟨rfl, rfl⟩
  · have t1 : (a == 1) = false := by simpa using h1
    clear h1
    go_enter Try.func185, Try.ntmps185
    go_wp2
    go_ret
    exact ⟨by simp [t1], rfl⟩
end Go.Proofs.Ytofdkhilapmccaa
