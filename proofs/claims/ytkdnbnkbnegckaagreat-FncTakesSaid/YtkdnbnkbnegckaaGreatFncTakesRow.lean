/- How data that came in are opened: bytes with their capacity and their weight, pairs of ints with their bounds, texts. FncTakes: every input, by the walk of the law. -/
import Derived.Test.YtkdnbnkbnegckaaGreatOpen
import Derived.SizedLaws
import Derived.Test.YtkdnbnkbnegckaaGreatSpY
import Derived.ProofKit
import Derived.OpenShut
import Derived.ShutString
import Derived.Deep.Slices
namespace Go.Proofs.YtkdnbnkbnegckaaGreat
open Go.RowKit Go.WideShapes

/-- A slice of bytes: its length is no more than its capacity, and than what a machine can reach. -/
theorem open_bytes_sized {P : Program} {t e : TypeId} (ht : P.underlying t = some (.slice e)) (he : P.underlying e = some (.int .u8)) (hc : P.cellsOf e = 1) (hby : P.bytesOf e = 1) {H : Type} {enc : TypeId × Value → H} {w : World} {base : Nat} {spare : Nat → Bool} {held : Bool}
    {a : Option Addr} {len cap : Nat} {d : DataW H} {p : List MemPlace} {ts : List TypeId} {ds : List (DataW H)} (hsz : (DataW.weightsEach P ts ds).all (· ≤ reachBytes) = true) {j : Nat} (htj : ts[j]? = some t) (hdj : ds[j]? = some d)
    (h : DataW.Trod enc P w base spare held t (.slice a len cap) d p) : ∃ z : List UInt8, len = z.length ∧ Cells w a (z.map byteC) ∧ z.length ≤ cap ∧ z.length ≤ 140737488351232 := by
  obtain ⟨z, rfl, hz⟩ := open_bytes_flat ht he hc h
  obtain ⟨fuel, hf⟩ := h
  refine ⟨z, rfl, hz, ?_⟩
  rcases Deep.open_slice ht hf with ⟨h1, _⟩ | ⟨a', len', cap', m, n, D, Pl, h1, _, hl, _, _, h2, _⟩
  · simp [Value.cells] at h1
    obtain ⟨_, h1, h2⟩ := h1
    simp [h1, h2]
  · simp [Value.cells] at h1
    obtain ⟨rfl, rfl, rfl⟩ := h1
    simp only [Prod.mk.injEq] at h2
    obtain ⟨rfl, _⟩ := h2
    have := sized_slice hsz htj hdj ht
    rw [hby] at this
    simp only [List.length_map, List.length_range, reachBytes] at this
    exact ⟨hl, by omega⟩

/-- Structs of two ints. -/
theorem opens_pairB {P : Program} {t f g : TypeId} {a b : Field} (ht : P.underlying t = some (.struct #[a, b])) (h2 : P.cellsOf t = 2) (ha : a.type = f ∧ a.offset = 0) (hb : b.type = g ∧ b.offset = 1)
    (hf : P.underlying f = some (.int .i64)) (hg : P.underlying g = some (.int .i64)) (hcf : P.cellsOf f = 1) (hcg : P.cellsOf g = 1) :
    Opens P t (fun _ cs (p : Int × Int) => cs = pairC p ∧ (Lit.int .i64 p.1).wf = true ∧ (Lit.int .i64 p.2).wf = true) := by
  intro H enc w base spare held fuel cs x hx
  obtain ⟨y0, y1, n, _, hl, h0, h1⟩ := ChangeShapes.trod_struct2 ht hx
  rw [ha.1, ha.2, hcf] at h0
  rw [hb.1, hb.2, hcg] at h1
  rw [h2] at hl
  obtain ⟨c0, c1, rfl⟩ : ∃ c0 c1, cs = [c0, c1] := by match cs, hl with | [c0, c1], _ => exact ⟨_, _, rfl⟩
  obtain ⟨n0, e0, _, w0⟩ := DataW.trod_int hf h0
  obtain ⟨n1, e1, _, w1⟩ := DataW.trod_int hg h1
  simp at e0 e1
  subst e0 e1
  exact ⟨(n0, n1), rfl, w0, w1⟩

theorem AllR.flat2 {α : Type} {size : Nat} {enc : α → List Value} {Q : α → Prop} {w : World} : ∀ {ecs : List (List Value)} {xs : List α}, AllR size (fun _ cs a => cs = enc a ∧ Q a) w ecs xs → ecs.flatten = xs.flatMap enc ∧ ∀ a ∈ xs, Q a
  | [], [], _ => ⟨rfl, fun _ h => by simp at h⟩
  | _ :: _, _ :: _, ⟨_, ⟨h, hq⟩, hs⟩ => by
    obtain ⟨h1, h2⟩ := AllR.flat2 hs
    exact ⟨by rw [List.flatten_cons, List.flatMap_cons, h, h1], by simpa using ⟨hq, h2⟩⟩
/-- A slice whose elements' cells are a function of what they are, and of which each has a property. -/
theorem open_flat2 {P : Program} {t : TypeId} {α : Type} {size : Nat} {E : α → List Value} {Q : α → Prop} (ho : Opens P t (SliceR size (fun _ cs a => cs = E a ∧ Q a))) {H : Type} {enc : TypeId × Value → H} {w : World} {base : Nat} {spare : Nat → Bool} {held : Bool}
    {a : Option Addr} {len cap : Nat} {d : DataW H} {p : List MemPlace} (h : DataW.Trod enc P w base spare held t (.slice a len cap) d p) : ∃ z : List α, len = z.length ∧ Cells w a (z.flatMap E) ∧ ∀ a ∈ z, Q a := by
  obtain ⟨fuel, hf⟩ := h
  obtain ⟨xs, ao, cap', ecs, h1, _, _, hc, hall⟩ := ho H enc w base spare held fuel _ _ hf
  simp [Value.cells] at h1
  obtain ⟨rfl, rfl, rfl⟩ := h1
  obtain ⟨h1, h2⟩ := AllR.flat2 hall
  exact ⟨xs, rfl, by rw [← h1]; exact hc, h2⟩

def strC (s : ByteArray) : List Value := [.string s]
/-- A slice of texts. -/
theorem open_strs {P : Program} {t e : TypeId} (ht : P.underlying t = some (.slice e)) (he : P.underlying e = some .string) (hc : P.cellsOf e = 1) {H : Type} {enc : TypeId × Value → H} {w : World} {base : Nat} {spare : Nat → Bool} {held : Bool}
    {a : Option Addr} {len cap : Nat} {d : DataW H} {p : List MemPlace} (h : DataW.Trod enc P w base spare held t (.slice a len cap) d p) : ∃ z : List ByteArray, len = z.length ∧ Cells w a (z.flatMap strC) ∧ ∀ a ∈ z, a.size ≤ maxLen :=
  open_flat2 (size := 1) (E := strC) (opens_slice ht hc (opens_str he)) h
theorem wf_i64 {n : Int} (h : (Lit.int .i64 n).wf = true) : -9223372036854775808 ≤ n ∧ n ≤ 9223372036854775807 := by
  simp [Lit.wf, IntKind.min, IntKind.max, IntKind.signed, IntKind.bits] at h
  omega
end Go.Proofs.YtkdnbnkbnegckaaGreat
namespace Go.Proofs.YtkdnbnkbnegckaaGreat.fncTakes
open Go.ChangeShapes Go.WideShapes Go.ChangeAt Go.RowKit
open Go.ChangeMaps (open_string shut_string)
set_option linter.unusedVariables false

theorem own : ownKnob Tryz.prog.godebug = none := by kernel_rfl
theorem laidOut : laidOutB Tryz.prog = true := by kernel_rfl

set_option maxRecDepth 100000 in
theorem lifted (os : Os) (started : os.Started) (H : Type) (enc : TypeId × Value → H) :
    ReturnsInHanded {} Tryz.checked os 3 .any (Rows.fncTakesSpec.pre6 enc Tryz.prog Tryz.f3 Rows.fncTakesRow.domain false) (Rows.fncTakesSpec.post enc Tryz.prog Tryz.f3 false true false false) := by
  refine returnsInHanded_of_change_sized (C := Tryz.checked) own started (by kernel_rfl) Tryz.func3
    (ChangeSpec.witness6 (enc := enc) (C := Tryz.checked) false ⟨#[], #[.slice none 0 0], []⟩ 8 (by kernel_rfl) (by kernel_rfl) (by kernel_rfl) (by kernel_rfl)) ?_
  intro W base args ds gs before hval0 hW hcnd hsz0 hholds
  have hval : ∀ (j : Nat) t v, Tryz.f3.params[j]? = some t → args[j]? = some v → Value.okWide Tryz.prog W .any base t v := hval0
  have hsz : (DataW.weightsEach Tryz.prog (Tryz.f3.params.toList ++ Rows.fncTakesSpec.plain.varTypes Tryz.prog) (ds ++ gs)).all (· ≤ reachBytes) = true := hsz0
  have hW' := hW
  obtain ⟨p, q, hA0, hV, rfl, hfz, hnd⟩ := hW
  have hA : DataW.TrodAll enc Tryz.prog W 0 (fun _ => true) true Tryz.f3.params.toList args.toList ds p := hA0
  rw [Tryz.params3] at hA hval hsz
  obtain ⟨v0, vs0, d0, ds0, p0, q0, hargs, rfl, rfl, h0, r0⟩ := trodAll_cons hA
  obtain ⟨rfl, rfl, rfl⟩ := trodAll_nil r0
  obtain rfl : args = #[v0] := by cases args; simp_all
  obtain ⟨rfl, rfl⟩ := trodVars_none hV
  have k0 := h0
  have lt0 : ∀ x ∈ p0, x.block < W.heap.size := by obtain ⟨m, hm⟩ := k0; exact DataW.trod_lt m _ _ _ hm
  obtain ⟨a0, len0, cap0, rfl⟩ := okWide_slice Tryz.underlying22 (hval 0 22 v0 rfl rfl)
  obtain ⟨z0, rfl, w0⟩ := open_bytes_sized Tryz.underlying22 Tryz.underlying5 (by kernel_rfl) (by kernel_rfl) hsz (j := 0) rfl rfl h0
  clear hA0 hval0
  refine (FncTakes_walk (w := W) (ao0 := a0) (cap0 := cap0) (b0 := z0) (hl0 := w0)).mono fun e W' ⟨he, bel⟩ => ?_
  subst he
  exact ⟨_, rfl, _, _, _, [], _, [], hW', trodAll_mk1 (shut_bool Tryz.underlying4 _), (trodAll_cons_mk (Below.trod laidOut (by kernel_rfl) (of_decide_eq_true (by kernel_rfl)) k0 bel.b lt0) trodAll_mk0), rfl, bel.b.frame _, fun h => by cases h⟩

theorem FncTakes_holds : Rows.FncTakesSaid :=
  OpenClaim.holds_of_wide 3 Tryz.f3 rfl rfl rfl rfl rfl rfl rfl ⟨rfl, rfl, rfl, rfl, rfl⟩ rfl rfl rfl rfl rfl (by kernel_rfl) Tryz.func3 (by kernel_rfl)
    (of_decide_eq_true (by kernel_rfl)) (by unfold Func.isWrapper; first | (rw [if_pos (by decide +kernel)]; kernel_rfl) | (rw [if_neg (by decide +kernel)]; exact ⟨rfl, rfl⟩))
    (fun os started H enc _ => lifted os started H enc)
end Go.Proofs.YtkdnbnkbnegckaaGreat.fncTakes

namespace Go.Proofs.YtkdnbnkbnegckaaGreat
theorem FncTakes_proved : Rows.FncTakesSaid := fncTakes.FncTakes_holds
#print axioms FncTakes_proved
end Go.Proofs.YtkdnbnkbnegckaaGreat
