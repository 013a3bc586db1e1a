/- What the bound on the bulk gives of a slice of texts. -/
import Derived.Test.YtfeddkfpkdjbeaaRows
import Derived.Test.YtfeddkfpkdjbeaaUvarQ
import Derived.Test.YtfeddkfpkdjbeaaOpen2
namespace Go.Proofs.Ytfeddkfpkdjbeaa
open Go.RowKit Go.WideShapes

theorem Cells.str {w : World} {ao : Option Addr} {l : List ByteArray} (h : Cells w ao (l.flatMap strC)) {k : Nat} (hk : k < l.length) : ∃ b off, ao = some ⟨b, off, none⟩ ∧ w.cell? ⟨b, off + k, none⟩ = some (.string l[k]) := by
  obtain ⟨b, off, e, hc⟩ := h.flat (enc := strC) (size := 1) (fun _ => rfl) hk (by decide)
  refine ⟨b, off, e, ?_⟩
  have := hc 0 _ rfl
  rwa [Nat.mul_one, Nat.add_zero] at this

theorem bulk_strs {H : Type} (z : List ByteArray) : letters z ≤ Rows.uptoBulkAll (z.map fun s => DataW.lit (H := H) (.string s.data.toList)) := by
  induction z with
  | nil => simp [letters]
  | cons s z ih =>
    have e : s.data.toList.length = s.size := by rw [Array.length_toList]; rfl
    simp only [letters, List.map_cons, List.sum_cons, Rows.uptoBulkAll, Rows.uptoBulk] at *
    omega

theorem open_strs_bulk {P : Program} {t e : TypeId} (ht : P.underlying t = some (.slice e)) (he : P.underlying e = some .string) (hc : P.cellsOf e = 1) {H : Type} {enc : TypeId × Value → H} {w : World} {base : Nat} {spare : Nat → Bool} {held : Bool}
    {a : Option Addr} {len cap : Nat} {d : DataW H} {p : List MemPlace} (h : DataW.Trod enc P w base spare held t (.slice a len cap) d p) : ∃ z : List ByteArray, len = z.length ∧ Cells w a (z.flatMap strC) ∧ letters z ≤ Rows.uptoBulk d := by
  obtain ⟨z, rfl, hz, _⟩ := open_strs ht he hc h
  obtain ⟨fuel, hf⟩ := h
  refine ⟨z, rfl, hz, ?_⟩
  rcases Deep.open_slice1 ht hc hf with ⟨h1, _⟩ | ⟨a', len', cap', m, n, V, D, Pl, h1, _, hl, _, hm, h2, hel⟩
  · simp [Value.cells] at h1
    obtain ⟨_, h1, _⟩ := h1
    subst h1
    simp [letters]
  · simp [Value.cells] at h1
    obtain ⟨rfl, rfl, rfl⟩ := h1
    simp only [Prod.mk.injEq] at h2
    obtain ⟨rfl, _⟩ := h2
    have hlm : z.length ≤ m := by rw [hm]; split <;> omega
    have hD : ∀ i (hi : i < z.length), D i = .lit (.string z[i].data.toList) := fun i hi => by
      obtain ⟨b, off, e1, hcell⟩ := hz.str hi
      obtain ⟨h3, h4⟩ := hel i (by omega)
      cases e1
      rw [Addr.add_lit, hcell] at h3
      obtain ⟨s, e2, e3, _⟩ := DataW.trod_string he h4
      simp only [List.cons.injEq, and_true] at e2
      rw [e2] at h3
      simp only [Option.some.injEq, Value.string.injEq] at h3
      subst h3
      exact (Prod.mk.inj e3).1
    have hmap : (List.range z.length).map D = z.map fun s => .lit (.string s.data.toList) := by
      apply List.ext_getElem
      · simp
      · intro i h1 h2
        simp only [List.getElem_map, List.getElem_range]
        exact hD i (by simpa using h1)
    have := bulk_strs (H := H) z
    simp only [Rows.uptoBulk, hmap]
    omega

theorem bulk_one {H : Type} (d : DataW H) : 1 ≤ Rows.uptoBulk d := by
  cases d with
  | lit l => cases l <;> simp [Rows.uptoBulk]
  | nil => simp [Rows.uptoBulk]
  | ptr d => simp [Rows.uptoBulk]
  | slice elems spare => simp [Rows.uptoBulk]
  | agg parts => simp [Rows.uptoBulk]
  | iface t d => simp [Rows.uptoBulk]
  | map entries => simp [Rows.uptoBulk]
  | held h => simp [Rows.uptoBulk]
theorem bulk_length {H : Type} (l : List (DataW H)) : l.length ≤ Rows.uptoBulkAll l := by
  induction l with
  | nil => simp [Rows.uptoBulkAll]
  | cons x r ih => have := bulk_one x; simp only [Rows.uptoBulkAll, List.length_cons]; omega
/-- A slice of bytes, with the bound on its bulk. -/
theorem open_bytes_bulk {P : Program} {t e : TypeId} (ht : P.underlying t = some (.slice e)) (he : P.underlying e = some (.int .u8)) (hc : P.cellsOf e = 1) {H : Type} {enc : TypeId × Value → H} {w : World} {base : Nat} {spare : Nat → Bool} {held : Bool}
    {a : Option Addr} {len cap : Nat} {d : DataW H} {p : List MemPlace} (h : DataW.Trod enc P w base spare held t (.slice a len cap) d p) : ∃ z : List UInt8, len = z.length ∧ Cells w a (z.map byteC) ∧ z.length ≤ Rows.uptoBulk d := by
  obtain ⟨z, rfl, hz⟩ := open_bytes_flat ht he hc h
  obtain ⟨fuel, hf⟩ := h
  refine ⟨z, rfl, hz, ?_⟩
  rcases Deep.open_slice ht hf with ⟨h1, _⟩ | ⟨a', len', cap', m, n, D, Pl, h1, _, hl, _, _, h2, _⟩
  · simp [Value.cells] at h1
    obtain ⟨_, h1, _⟩ := h1
    simp [h1]
  · simp [Value.cells] at h1
    obtain ⟨rfl, rfl, rfl⟩ := h1
    simp only [Prod.mk.injEq] at h2
    obtain ⟨rfl, _⟩ := h2
    have := bulk_length ((List.range z.length).map D)
    simp only [List.length_map, List.length_range] at this
    simp only [Rows.uptoBulk]
    omega
end Go.Proofs.Ytfeddkfpkdjbeaa
