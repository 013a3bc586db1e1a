/- The reference's cursor, seen from elsewhere. -/
import Derived.Test.YtofdkhilapmccaaRunT4
namespace Go.Proofs.Ytofdkhilapmccaa
open Go.RowKit

theorem lower_of {w : World} {ao : Option Addr} {bs : List UInt8} (h : Cells w ao (bs.map byteC)) : Lower w.heap.size ao bs := fun hne ad e => by
  subst e
  obtain ⟨bk, off, e2⟩ := h.addr (by simpa using hne)
  cases e2
  exact h.lt (by simpa using hne)

theorem RefAt.call {w w' : World} {B g : Nat} {v : Value} {bs : List UInt8} {er : Int} (h : RefAt w B v bs er) (hg : w.grownBy w' (some g)) (hB : B ≤ g) : RefAt w' B v bs er := by
  obtain ⟨bs0, ao, cap, h1, hc, hl, hbs⟩ := h
  refine ⟨bs0, ao, cap, h1, ?_, hl, hbs⟩
  by_cases hne : bs0 = []
  · subst hne; exact Cells.nil _ _
  · exact hc.grown hg fun ad e => by have := hl.1 hne ad e; omega
end Go.Proofs.Ytofdkhilapmccaa
