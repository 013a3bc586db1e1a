/- How data that came in are opened: bytes with their capacity and their weight, pairs of ints with their bounds, texts. -/
import Derived.Test.YtfeddkfpkdjbeaaOpen
import Derived.SizedLaws
namespace Go.Proofs.Ytfeddkfpkdjbeaa
open Go.RowKit Go.WideShapes

/-- A slice of bytes: its length is no more than its capacity, and than what a machine can reach. -/
theorem open_bytes_sized {P : Program} {t e : TypeId} (ht : P.underlying t = some (.slice e)) (he : P.underlying e = some (.int .u8)) (hc : P.cellsOf e = 1) (hby : P.bytesOf e = 1) {H : Type} {enc : TypeId × Value → H} {w : World} {base : Nat} {spare : Nat → Bool} {held : Bool}
    {a : Option Addr} {len cap : Nat} {d : DataW H} {p : List MemPlace} {ts : List TypeId} {ds : List (DataW H)} (hsz : (DataW.weightsEach P ts ds).all (· ≤ reachBytes) = true) {j : Nat} (htj : ts[j]? = some t) (hdj : ds[j]? = some d)
    (h : DataW.Trod enc P w base spare held t (.slice a len cap) d p) : ∃ z : List UInt8, len = z.length ∧ Cells w a (z.map byteC) ∧ z.length ≤ cap ∧ z.length ≤ 140737488351232 := by
  obtain ⟨z, rfl, hz⟩ := open_bytes_flat ht he hc h
  obtain ⟨fuel, hf⟩ := h
  refine ⟨z, rfl, hz, ?_⟩
  rcases Deep.open_slice ht hf with ⟨h1, _⟩ | ⟨a', len', cap', m, n, D, Pl, h1, _, hl, _, _, h2, _⟩
  · simp [Value.cells] at h1
    obtain ⟨_, h1, h2⟩ := h1
    simp [h1, h2]
  · simp [Value.cells] at h1
    obtain ⟨rfl, rfl, rfl⟩ := h1
    simp only [Prod.mk.injEq] at h2
    obtain ⟨rfl, _⟩ := h2
    have := sized_slice hsz htj hdj ht
    rw [hby] at this
    simp only [List.length_map, List.length_range, reachBytes] at this
    exact ⟨hl, by omega⟩

/-- Structs of two ints. -/
theorem opens_pairB {P : Program} {t f g : TypeId} {a b : Field} (ht : P.underlying t = some (.struct #[a, b])) (h2 : P.cellsOf t = 2) (ha : a.type = f ∧ a.offset = 0) (hb : b.type = g ∧ b.offset = 1)
    (hf : P.underlying f = some (.int .i64)) (hg : P.underlying g = some (.int .i64)) (hcf : P.cellsOf f = 1) (hcg : P.cellsOf g = 1) :
    Opens P t (fun _ cs (p : Int × Int) => cs = pairC p ∧ (Lit.int .i64 p.1).wf = true ∧ (Lit.int .i64 p.2).wf = true) := by
  intro H enc w base spare held fuel cs x hx
  obtain ⟨y0, y1, n, _, hl, h0, h1⟩ := ChangeShapes.trod_struct2 ht hx
  rw [ha.1, ha.2, hcf] at h0
  rw [hb.1, hb.2, hcg] at h1
  rw [h2] at hl
  obtain ⟨c0, c1, rfl⟩ : ∃ c0 c1, cs = [c0, c1] := by match cs, hl with | [c0, c1], _ => exact ⟨_, _, rfl⟩
  obtain ⟨n0, e0, _, w0⟩ := DataW.trod_int hf h0
  obtain ⟨n1, e1, _, w1⟩ := DataW.trod_int hg h1
  simp at e0 e1
  subst e0 e1
  exact ⟨(n0, n1), rfl, w0, w1⟩

theorem AllR.flat2 {α : Type} {size : Nat} {enc : α → List Value} {Q : α → Prop} {w : World} : ∀ {ecs : List (List Value)} {xs : List α}, AllR size (fun _ cs a => cs = enc a ∧ Q a) w ecs xs → ecs.flatten = xs.flatMap enc ∧ ∀ a ∈ xs, Q a
  | [], [], _ => ⟨rfl, fun _ h => by simp at h⟩
  | _ :: _, _ :: _, ⟨_, ⟨h, hq⟩, hs⟩ => by
    obtain ⟨h1, h2⟩ := AllR.flat2 hs
    exact ⟨by rw [List.flatten_cons, List.flatMap_cons, h, h1], by simpa using ⟨hq, h2⟩⟩
/-- A slice whose elements' cells are a function of what they are, and of which each has a property. -/
theorem open_flat2 {P : Program} {t : TypeId} {α : Type} {size : Nat} {E : α → List Value} {Q : α → Prop} (ho : Opens P t (SliceR size (fun _ cs a => cs = E a ∧ Q a))) {H : Type} {enc : TypeId × Value → H} {w : World} {base : Nat} {spare : Nat → Bool} {held : Bool}
    {a : Option Addr} {len cap : Nat} {d : DataW H} {p : List MemPlace} (h : DataW.Trod enc P w base spare held t (.slice a len cap) d p) : ∃ z : List α, len = z.length ∧ Cells w a (z.flatMap E) ∧ ∀ a ∈ z, Q a := by
  obtain ⟨fuel, hf⟩ := h
  obtain ⟨xs, ao, cap', ecs, h1, _, _, hc, hall⟩ := ho H enc w base spare held fuel _ _ hf
  simp [Value.cells] at h1
  obtain ⟨rfl, rfl, rfl⟩ := h1
  obtain ⟨h1, h2⟩ := AllR.flat2 hall
  exact ⟨xs, rfl, by rw [← h1]; exact hc, h2⟩

def strC (s : ByteArray) : List Value := [.string s]
/-- A slice of texts. -/
theorem open_strs {P : Program} {t e : TypeId} (ht : P.underlying t = some (.slice e)) (he : P.underlying e = some .string) (hc : P.cellsOf e = 1) {H : Type} {enc : TypeId × Value → H} {w : World} {base : Nat} {spare : Nat → Bool} {held : Bool}
    {a : Option Addr} {len cap : Nat} {d : DataW H} {p : List MemPlace} (h : DataW.Trod enc P w base spare held t (.slice a len cap) d p) : ∃ z : List ByteArray, len = z.length ∧ Cells w a (z.flatMap strC) ∧ ∀ a ∈ z, a.size ≤ maxLen :=
  open_flat2 (size := 1) (E := strC) (opens_slice ht hc (opens_str he)) h
theorem wf_i64 {n : Int} (h : (Lit.int .i64 n).wf = true) : -9223372036854775808 ≤ n ∧ n ≤ 9223372036854775807 := by
  simp [Lit.wf, IntKind.min, IntKind.max, IntKind.signed, IntKind.bits] at h
  omega
end Go.Proofs.Ytfeddkfpkdjbeaa
