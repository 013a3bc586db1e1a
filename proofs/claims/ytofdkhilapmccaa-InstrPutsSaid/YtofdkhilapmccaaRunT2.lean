/- The walk of runs.Take. -/
import Derived.Test.YtofdkhilapmccaaRunT
import Derived.Test.YtofdkhilapmccaaRefC
namespace Go.Proofs.Ytofdkhilapmccaa
open Go.RowKit

theorem ret_cell_tmp {fn : Func} {p u : Tmp} {ty : TypeId} (h : fn.results = #[.cell p ty, .tmp u]) {tmps : Array Value} {P : Program} {w : World} {A : Addr} {v : Value} (hp : tmps.getD p undef = .pointer (some A)) (hv : (loadVar ty A).run P w = .ok v w) :
    (results fn tmps).run P w = .ok (.tuple #[v, tmps.getD u undef]) w := by
  rw [results_cell_tmp h, hp]
  simp [asAddr, Result.andThen, hv]
theorem load_run {W : World} {g : Nat} {a b : Value} {t : TypeId} {fz : Nat × Nat} (h : W.heap[g]? = some (.cells #[a, b] t fz)) : (loadVar 181 ⟨g, 0, none⟩).run Try.prog W = .ok (.agg #[a, b]) W := by
  have c0 : W.cell? ⟨g, 0, none⟩ = some a := blk h 0 rfl
  have c1 : W.cell? ⟨g, 1, none⟩ = some b := blk h 1 rfl
  go_simp

theorem CurAt.other {W W' : World} {g s : Nat} {bs : List UInt8} {er : Int} (h : CurAt W g bs er) (hg : W.grownBy W' (some s)) (hs : g < s) : CurAt W' g bs er := by
  obtain ⟨bs0, ao, cap, h1, h2, h3, h4, h5⟩ := h
  exact ⟨bs0, ao, cap, (hg.block g (Array.getElem?_eq_some_iff.1 h1).1 (by simp; omega)).trans h1, h2.grown hg (fun ad e => by have := h3 ad e; omega), h3, h4, h5⟩
theorem CurAt.setF {W : World} {g s : Nat} {bs : List UInt8} {er : Int} (h : CurAt W g bs er) (hs : g < s) (j : Nat) (v : Value) : CurAt (W.setCell ⟨s, j, none⟩ v) g bs er := h.other (grown_set W s j v) hs

/-- What taking a run leaves. -/
def RunGoes (g left : Nat) (bs : List UInt8) (er : Int) (w : World) (e : Ending) (w' : World) : Prop :=
  (∃ a : Int, e = .returned (.tuple #[.agg #[.int .i64 a, .int .i64 (runS left bs er).2.1], .bool ((runS left bs er).2.2.2 == 0)]) ∧ ((runS left bs er).2.2.2 = 0 → a = (runS left bs er).1)) ∧
    CurAt w' g (runS left bs er).2.2.1 (runS left bs er).2.2.2 ∧ w.grownBy w' (some g)
end Go.Proofs.Ytofdkhilapmccaa
