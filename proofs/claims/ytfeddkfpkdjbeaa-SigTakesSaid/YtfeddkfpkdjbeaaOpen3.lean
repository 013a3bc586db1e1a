/- How data that came in are opened: a struct of three ints. -/
import Derived.Test.YtfeddkfpkdjbeaaOpen2
namespace Go.Proofs.Ytfeddkfpkdjbeaa
open Go.RowKit Go.WideShapes

theorem open_int3 {P : Program} {t f : TypeId} {a b c : Field} (ht : P.underlying t = some (.struct #[a, b, c])) (h3 : P.cellsOf t = 3) (ha : a.type = f ∧ a.offset = 0) (hb : b.type = f ∧ b.offset = 1) (hc : c.type = f ∧ c.offset = 2)
    (hf : P.underlying f = some (.int .i64)) (hcf : P.cellsOf f = 1) {W : World} {r : Reach} {base : Nat} {v : Value} (hv : Value.okWide P W r base t v) {H : Type} {enc : TypeId × Value → H} {base' : Nat} {spare : Nat → Bool} {held : Bool} {d : DataW H} {p : List MemPlace}
    (h : DataW.Trod enc P W base' spare held t v d p) : ∃ x : Int × Int × Int, v = .agg #[.int .i64 x.1, .int .i64 x.2.1, .int .i64 x.2.2] ∧ (Lit.int .i64 x.1).wf = true ∧ (Lit.int .i64 x.2.1).wf = true ∧ (Lit.int .i64 x.2.2).wf = true := by
  obtain ⟨cs, rfl, hsz⟩ := okWide_struct ht hv
  obtain ⟨fuel, hfu⟩ := h
  obtain ⟨xs, n, _, _, hl, hlen, hx⟩ := DataW.trod_struct ht hfu
  rw [h3] at hsz
  obtain ⟨c0, c1, c2, rfl⟩ : ∃ c0 c1 c2, cs = #[c0, c1, c2] := by
    obtain ⟨l⟩ := cs
    match l, hsz with
    | [c0, c1, c2], _ => exact ⟨c0, c1, c2, rfl⟩
  have e0 := hx 0 a rfl
  have e1 := hx 1 b rfl
  have e2 := hx 2 c rfl
  rw [ha.1, ha.2, hcf] at e0
  rw [hb.1, hb.2, hcf] at e1
  rw [hc.1, hc.2, hcf] at e2
  simp [Value.cells] at e0 e1 e2
  have hl3 : xs.length = 3 := by simpa using hlen
  rw [List.getElem?_eq_getElem (by omega)] at e0 e1 e2
  obtain ⟨n0, q0, _, w0⟩ := DataW.trod_int hf e0
  obtain ⟨n1, q1, _, w1⟩ := DataW.trod_int hf e1
  obtain ⟨n2, q2, _, w2⟩ := DataW.trod_int hf e2
  simp only [List.cons.injEq, and_true] at q0 q1 q2
  subst q0 q1 q2
  exact ⟨(n0, n1, n2), rfl, w0, w1, w2⟩
end Go.Proofs.Ytfeddkfpkdjbeaa
