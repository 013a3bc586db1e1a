/- How a function that came in is opened: its instructions, its nodes, its sets. -/
import Derived.Test.YtofdkhilapmccaaOpenW
import Derived.OpenShut
namespace Go.Proofs.Ytofdkhilapmccaa
open Go.RowKit Go.WideShapes

theorem opensW_instr : OpensW Try.prog 49 (fun _ cs (i : InstrT) => cs = pairC i ∧ (I64 i.1 ∧ I64 i.2)) :=
  (opensW_struct Try.underlying49 (OpensFW.cons (n := 1) rfl (by kernel_rfl) (opensW_int Try.underlying47) (fun _ _ _ h => by first | (rw [h.1]; rfl) | (rw [h]; rfl)) (OpensFW.cons (n := 1) rfl (by kernel_rfl) (opensW_int Try.underlying3) (fun _ _ _ h => by first | (rw [h.1]; rfl) | (rw [h]; rfl)) OpensFW.nil))).mono (fun x => (x.1, x.2.1)) fun w cs a ⟨hl, c, d, e1, h1, ⟨g1, b1⟩, c2, d2, e2, h2, ⟨g2, b2⟩, _⟩ => by
    have hd : d2 = [] := by
      have : cs.length = 2 := by rw [hl]; kernel_rfl
      subst e1 e2; simp [h1, h2] at this; exact List.eq_nil_of_length_eq_zero (by omega)
    subst hd e2 e1 g1 g2
    exact ⟨rfl, b1, b2⟩

theorem opensW_node : OpensW Try.prog 87 (fun _ cs (n : NodeT) => cs = nodeC n ∧ Node64 n) :=
  (opensW_struct Try.underlying87 (OpensFW.cons (n := 1) rfl (by kernel_rfl) (opensW_int Try.underlying3) (fun _ _ _ h => by first | (rw [h.1]; rfl) | (rw [h]; rfl)) (OpensFW.cons (n := 1) rfl (by kernel_rfl) (opensW_int Try.underlying3) (fun _ _ _ h => by first | (rw [h.1]; rfl) | (rw [h]; rfl)) (OpensFW.cons (n := 1) rfl (by kernel_rfl) (opensW_int Try.underlying3) (fun _ _ _ h => by first | (rw [h.1]; rfl) | (rw [h]; rfl)) (OpensFW.cons (n := 1) rfl (by kernel_rfl) (opensW_int Try.underlying3) (fun _ _ _ h => by first | (rw [h.1]; rfl) | (rw [h]; rfl)) (OpensFW.cons (n := 1) rfl (by kernel_rfl) (opensW_int Try.underlying3) (fun _ _ _ h => by first | (rw [h.1]; rfl) | (rw [h]; rfl)) (OpensFW.cons (n := 1) rfl (by kernel_rfl) (opensW_int Try.underlying3) (fun _ _ _ h => by first | (rw [h.1]; rfl) | (rw [h]; rfl)) (OpensFW.cons (n := 1) rfl (by kernel_rfl) (opensW_int Try.underlying3) (fun _ _ _ h => by first | (rw [h.1]; rfl) | (rw [h]; rfl)) OpensFW.nil)))))))).mono (fun x => (⟨x.1, x.2.1, x.2.2.1, x.2.2.2.1, x.2.2.2.2.1, x.2.2.2.2.2.1, x.2.2.2.2.2.2.1⟩ : NodeT)) fun w cs a ⟨hl, c1, d1, e1, h1, ⟨g1, b1⟩, c2, d2, e2, h2, ⟨g2, b2⟩, c3, d3, e3, h3, ⟨g3, b3⟩, c4, d4, e4, h4, ⟨g4, b4⟩, c5, d5, e5, h5, ⟨g5, b5⟩, c6, d6, e6, h6, ⟨g6, b6⟩, c7, d7, e7, h7, ⟨g7, b7⟩, _⟩ => by
    have hd : d7 = [] := by
      have : cs.length = 7 := by rw [hl]; kernel_rfl
      subst e1 e2 e3 e4 e5 e6 e7; simp [h1, h2, h3, h4, h5, h6, h7] at this; exact List.eq_nil_of_length_eq_zero (by omega)
    subst hd e7 e6 e5 e4 e3 e2 e1 g1 g2 g3 g4 g5 g6 g7
    exact ⟨rfl, b1, b2, b3, b4, b5, b6, b7⟩

set_option maxRecDepth 20000 in
theorem wf_u64 {n : Int} (h : (Lit.int .u64 n).wf = true) : 0 ≤ n ∧ n < 18446744073709551616 := by
  simp [Lit.wf, IntKind.min, IntKind.max, IntKind.signed, IntKind.bits] at h
  omega
set_option maxRecDepth 20000 in
theorem opensW_set : OpensW Try.prog 43 (fun _ cs (s : SetT) => cs = setC s ∧ Set64 s) :=
  fun H enc w base spare held fuel cs x hx _ => by
    obtain ⟨xs, m, _, _, hl, hlen, hf⟩ := DataW.trod_array Try.underlying43 hx
    have hc : Try.prog.cellsOf 41 = 1 := by kernel_rfl
    have hl4 : cs.length = 4 := by rw [hl]; kernel_rfl
    obtain ⟨v0, v1, v2, v3, rfl⟩ : ∃ v0 v1 v2 v3, cs = [v0, v1, v2, v3] := by
      match cs, hl4 with
      | [v0, v1, v2, v3], _ => exact ⟨v0, v1, v2, v3, rfl⟩
    have f0 := hf 0 (by decide)
    have f1 := hf 1 (by decide)
    have f2 := hf 2 (by decide)
    have f3 := hf 3 (by decide)
    rw [hc] at f0 f1 f2 f3
    rw [List.getElem?_eq_getElem (by omega)] at f0 f1 f2 f3
    obtain ⟨n0, q0, _, w0⟩ := DataW.trod_int Try.underlying41 f0
    obtain ⟨n1, q1, _, w1⟩ := DataW.trod_int Try.underlying41 f1
    obtain ⟨n2, q2, _, w2⟩ := DataW.trod_int Try.underlying41 f2
    obtain ⟨n3, q3, _, w3⟩ := DataW.trod_int Try.underlying41 f3
    simp at q0 q1 q2 q3
    subst q0 q1 q2 q3
    have u0 := wf_u64 w0
    have u1 := wf_u64 w1
    have u2 := wf_u64 w2
    have u3 := wf_u64 w3
    refine ⟨⟨n0.toNat, n1.toNat, n2.toNat, n3.toNat⟩, ?_, ?_⟩
    · simp only [setC, Int.toNat_of_nonneg u0.1, Int.toNat_of_nonneg u1.1, Int.toNat_of_nonneg u2.1, Int.toNat_of_nonneg u3.1]
    · refine ⟨?_, ?_, ?_, ?_⟩ <;> simp only <;> omega

set_option maxHeartbeats 2000000 in
theorem opensW_func : OpensW Try.prog 28 (fun w cs (x : FuncA × FuncT) => cs = funcC x.1 x.2 ∧ FuncIn w x.1 x.2 ∧ FuncB x.2) :=
  (opensW_struct Try.underlying28 (OpensFW.cons (n := 1) rfl (by kernel_rfl) (opensW_str Try.underlying9) (fun _ _ _ h => by first | (rw [h.1]; rfl) | (rw [h]; rfl)) (OpensFW.cons (n := 1) rfl (by kernel_rfl) (opensW_bool Try.underlying4) (fun _ _ _ h => by first | (rw [h.1]; rfl) | (rw [h]; rfl)) (OpensFW.cons (n := 1) rfl (by kernel_rfl) (opensW_ints Try.underlying22 Try.underlying150 (by kernel_rfl) (by kernel_rfl)) (fun _ _ _ h => by first | (rw [h.1]; rfl) | (rw [h]; rfl)) (OpensFW.cons (n := 1) rfl (by kernel_rfl) (opensW_ints Try.underlying22 Try.underlying150 (by kernel_rfl) (by kernel_rfl)) (fun _ _ _ h => by first | (rw [h.1]; rfl) | (rw [h]; rfl)) (OpensFW.cons (n := 1) rfl (by kernel_rfl) (opensW_ints Try.underlying22 Try.underlying150 (by kernel_rfl) (by kernel_rfl)) (fun _ _ _ h => by first | (rw [h.1]; rfl) | (rw [h]; rfl)) (OpensFW.cons (n := 1) rfl (by kernel_rfl) (opensW_ints Try.underlying22 Try.underlying150 (by kernel_rfl) (by kernel_rfl)) (fun _ _ _ h => by first | (rw [h.1]; rfl) | (rw [h]; rfl)) (OpensFW.cons (n := 1) rfl (by kernel_rfl) (opensW_flat (size := 2) (by' := 16) Try.underlying23 (by kernel_rfl) (by kernel_rfl) opensW_instr) (fun _ _ _ h => by first | (rw [h.1]; rfl) | (rw [h]; rfl)) (OpensFW.cons (n := 1) rfl (by kernel_rfl) (opensW_ints Try.underlying24 Try.underlying3 (by kernel_rfl) (by kernel_rfl)) (fun _ _ _ h => by first | (rw [h.1]; rfl) | (rw [h]; rfl)) (OpensFW.cons (n := 1) rfl (by kernel_rfl) (opensW_flat (size := 7) (by' := 56) Try.underlying25 (by kernel_rfl) (by kernel_rfl) opensW_node) (fun _ _ _ h => by first | (rw [h.1]; rfl) | (rw [h]; rfl)) (OpensFW.cons (n := 1) rfl (by kernel_rfl) (opensW_ints Try.underlying24 Try.underlying3 (by kernel_rfl) (by kernel_rfl)) (fun _ _ _ h => by first | (rw [h.1]; rfl) | (rw [h]; rfl)) (OpensFW.cons (n := 1) rfl (by kernel_rfl) (opensW_flat (size := 4) (by' := 32) Try.underlying26 (by kernel_rfl) (by kernel_rfl) opensW_set) (fun _ _ _ h => by first | (rw [h.1]; rfl) | (rw [h]; rfl)) OpensFW.nil)))))))))))).mono
    (fun x => (⟨x.2.2.1.2.1, x.2.2.1.2.2, x.2.2.2.1.2.1, x.2.2.2.1.2.2, x.2.2.2.2.1.2.1, x.2.2.2.2.1.2.2, x.2.2.2.2.2.1.2.1, x.2.2.2.2.2.1.2.2, x.2.2.2.2.2.2.1.2.1, x.2.2.2.2.2.2.1.2.2, x.2.2.2.2.2.2.2.1.2.1, x.2.2.2.2.2.2.2.1.2.2, x.2.2.2.2.2.2.2.2.1.2.1, x.2.2.2.2.2.2.2.2.1.2.2, x.2.2.2.2.2.2.2.2.2.1.2.1, x.2.2.2.2.2.2.2.2.2.1.2.2, x.2.2.2.2.2.2.2.2.2.2.1.2.1, x.2.2.2.2.2.2.2.2.2.2.1.2.2⟩,
      ⟨x.1, x.2.1, x.2.2.1.1, x.2.2.2.1.1, x.2.2.2.2.1.1, x.2.2.2.2.2.1.1, x.2.2.2.2.2.2.1.1, x.2.2.2.2.2.2.2.1.1, x.2.2.2.2.2.2.2.2.1.1, x.2.2.2.2.2.2.2.2.2.1.1, x.2.2.2.2.2.2.2.2.2.2.1.1⟩))
    fun w cs a ⟨hl, c0, d0, e0, h0, g0, c1, d1, e1, h1, g1, c2, d2, e2, h2, g2, c3, d3, e3, h3, g3, c4, d4, e4, h4, g4, c5, d5, e5, h5, g5, c6, d6, e6, h6, g6, c7, d7, e7, h7, g7, c8, d8, e8, h8, g8, c9, d9, e9, h9, g9, c10, d10, e10, h10, g10, _⟩ => by
    have hd : d10 = [] := by
      have : cs.length = 11 := by rw [hl]; kernel_rfl
      subst e0 e1 e2 e3 e4 e5 e6 e7 e8 e9 e10; simp [h0, h1, h2, h3, h4, h5, h6, h7, h8, h9, h10] at this; exact List.eq_nil_of_length_eq_zero (by omega)
    obtain ⟨g0, b0⟩ := g0
    obtain ⟨g2, n2, w2, b2⟩ := g2
    obtain ⟨g3, n3, w3, b3⟩ := g3
    obtain ⟨g4, n4, w4, b4⟩ := g4
    obtain ⟨g5, n5, w5, b5⟩ := g5
    obtain ⟨g6, n6, w6, b6⟩ := g6
    obtain ⟨g7, n7, w7, b7⟩ := g7
    obtain ⟨g8, n8, w8, b8⟩ := g8
    obtain ⟨g9, n9, w9, b9⟩ := g9
    obtain ⟨g10, n10, w10, b10⟩ := g10
    exact ⟨by rw [e0, e1, e2, e3, e4, e5, e6, e7, e8, e9, e10, hd, g0, g1, g2, g3, g4, g5, g6, g7, g8, g9, g10]; rfl, ⟨w2, w3, w4, w5, w6, w7, w8, w9, w10⟩, (⟨by simp only; omega, n2, n3, n4, n5, by simp only; omega, n7, by simp only; omega, n9, by simp only; omega, b2, b3, b4, b5, b6, b7, b8, b9, b10⟩ : FuncB _)⟩

/-- An argument, opened with its weight. -/
theorem open_w {P : Program} {t : TypeId} {α : Type} {R : World → List Value → α → Prop} (ho : OpensW P t R) {H : Type} {enc : TypeId × Value → H} {W : World} {base : Nat} {spare : Nat → Bool} {held : Bool} {v : Value} {d : DataW H} {p : List MemPlace} {ts : List TypeId} {ds : List (DataW H)}
    (hsz : (DataW.weightsEach P ts ds).all (· ≤ reachBytes) = true) {j : Nat} (htj : ts[j]? = some t) (hdj : ds[j]? = some d) (h : DataW.Trod enc P W base spare held t v d p) : ∃ a, R W v.cells.toList a := by
  obtain ⟨fuel, hf⟩ := h
  exact ho H enc W base spare held fuel _ _ hf (fun n hn => by
    exact of_decide_eq_true (List.all_eq_true.1 hsz _ (DataW.weights_mem_each htj hdj n hn)))

set_option maxRecDepth 100000 in
theorem open_func {W : World} {r : Reach} {base : Nat} {v : Value} (hv : Value.okWide Try.prog W r base 28 v) {H : Type} {enc : TypeId × Value → H} {base' : Nat} {spare : Nat → Bool} {held : Bool} {d : DataW H} {p : List MemPlace} {ts : List TypeId} {ds : List (DataW H)}
    (hsz : (DataW.weightsEach Try.prog ts ds).all (· ≤ reachBytes) = true) {j : Nat} (htj : ts[j]? = some 28) (hdj : ds[j]? = some d) (h : DataW.Trod enc Try.prog W base' spare held 28 v d p) :
    ∃ x : FuncA × FuncT, v = .agg (funcC x.1 x.2).toArray ∧ FuncIn W x.1 x.2 ∧ FuncB x.2 := by
  obtain ⟨cs, rfl, _⟩ := okWide_struct Try.underlying28 hv
  obtain ⟨x, h1, h2, h3⟩ := open_w opensW_func hsz htj hdj h
  refine ⟨x, ?_, h2, h3⟩
  rw [← h1]
  rfl

/-- A slice of nodes. -/
theorem open_nodes {W : World} {a : Option Addr} {len cap : Nat} {H : Type} {enc : TypeId × Value → H} {base' : Nat} {spare : Nat → Bool} {held : Bool} {d : DataW H} {p : List MemPlace} {ts : List TypeId} {ds : List (DataW H)}
    (hsz : (DataW.weightsEach Try.prog ts ds).all (· ≤ reachBytes) = true) {j : Nat} (htj : ts[j]? = some 25) (hdj : ds[j]? = some d) (h : DataW.Trod enc Try.prog W base' spare held 25 (.slice a len cap) d p) :
    ∃ z : List NodeT, len = z.length ∧ z.length ≤ 2513169434916 ∧ Cells W a (z.flatMap nodeC) ∧ ∀ n ∈ z, Node64 n := by
  obtain ⟨x, h1, h2, h3, h4⟩ := open_w (opensW_flat (size := 7) (by' := 56) Try.underlying25 (by kernel_rfl) (by kernel_rfl) opensW_node) hsz htj hdj h
  simp only [Value.cells, List.cons.injEq, Value.slice.injEq, and_true] at h1
  obtain ⟨rfl, rfl, rfl⟩ := h1
  exact ⟨x.1, rfl, by omega, h3, h4⟩
end Go.Proofs.Ytofdkhilapmccaa
