/- The walk of runs.Take. -/
import Derived.Test.YtofdkhilapmccaaRunT2
namespace Go.Proofs.Ytofdkhilapmccaa
open Go.RowKit

/-- The length of a slice. -/
def lenOf : Value → Nat | .slice _ n _ => n | _ => 0

/-- What taking a row leaves. -/
def TakeGoes (g : Nat) (R : List Int × List UInt8 × Int) (w : World) (e : Ending) (w' : World) : Prop :=
  ∃ ao cap, e = .returned (.slice ao R.1.length cap) ∧ Cells w' ao (R.1.map (.int .i64)) ∧ Fresh w.heap.size ao ∧ CurAt w' g R.2.1 R.2.2 ∧ w.grownBy w' (some g)

theorem fresh_nil (B : Nat) : Fresh B none := fun _ h => by cases h
end Go.Proofs.Ytofdkhilapmccaa
