/- What a call on a cursor leaves, seen from elsewhere. -/
import Derived.Test.YtfeddkfpkdjbeaaCurX
namespace Go.Proofs.Ytfeddkfpkdjbeaa
open Go.RowKit

theorem CurAt.ext {w w' : World} {g : Nat} {bs : List UInt8} {er : Int} (h : CurAt w g bs er) (hx : Ext w w') : CurAt w' g bs er := by
  obtain ⟨bs0, ao, cap, h1, h2, h3, h4, h5⟩ := h
  exact ⟨bs0, ao, cap, hx.blk h1, h2.ext hx, h3, h4, h5⟩

/-- What a method of a new cursor leaves, seen from below the cursor. -/
theorem ext_grown {w0 w w' : World} {g : Nat} (h : Ext w0 w) (hg : w.grownBy w' (some g)) (hb : w0.heap.size ≤ g) : Ext w0 w' :=
  Below.grown h.b hg h.size fun k e => by cases e; exact hb
end Go.Proofs.Ytfeddkfpkdjbeaa
