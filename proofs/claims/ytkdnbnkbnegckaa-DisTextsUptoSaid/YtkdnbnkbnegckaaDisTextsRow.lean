/- What the bound on a program's bulk gives of its names. DisTexts: every input of bulk at most 1048576, by the walk of the law. -/
import Derived.Test.YtkdnbnkbnegckaaRows
import Derived.Test.YtkdnbnkbnegckaaSml
import Derived.Test.YtkdnbnkbnegckaaPur
import Derived.Deep.Slices
import Derived.ChangeSame
import Derived.Test.YtkdnbnkbnegckaaDtx
import Derived.JoinedCond
import Derived.Deep.CondSized
import Derived.ProofKit
import Derived.OpenShut
import Derived.ShutString
import Derived.SizedLaws
namespace Go.Proofs.Ytkdnbnkbnegckaa
open Go.RowKit Go.WideShapes Go.ChangeShapes Go.ChangeAt
set_option maxRecDepth 20000
set_option linter.unusedVariables false
theorem bulk_mem {H : Type} {d : DataW H} : ∀ {l : List (DataW H)}, d ∈ l → Rows.uptoBulk d ≤ Rows.uptoBulkAll l
  | x :: l, h => by
    rcases List.mem_cons.1 h with rfl | h
    · simp only [Rows.uptoBulkAll]; omega
    · have := bulk_mem h
      simp only [Rows.uptoBulkAll]; omega
theorem bulk_agg {H : Type} {d : DataW H} {l : List (DataW H)} (h : d ∈ l) : Rows.uptoBulk d ≤ Rows.uptoBulk (.agg l) := by
  have := bulk_mem h
  simp only [Rows.uptoBulk]; omega
theorem bulk_slice {H : Type} {d : DataW H} {l m : List (DataW H)} (h : d ∈ l) : Rows.uptoBulk d ≤ Rows.uptoBulk (.slice l m) := by
  have := bulk_mem h
  simp only [Rows.uptoBulk]; omega
theorem bulk_str {H : Type} {s : List UInt8} : s.length ≤ Rows.uptoBulk (H := H) (.lit (.string s)) := by
  simp only [Rows.uptoBulk]; omega
theorem prog_bulk {H : Type} {enc : TypeId × Value → H} {W : World} {base : Nat} {spare : Nat → Bool} {held : Bool} {cs : Array Value} {d : DataW H} {p : List MemPlace} {x : List Fn} (hx : DatR PrD W cs.toList x)
    (h : DataW.Trod enc Try.prog W base spare held 24 (.agg cs) d p) : ∀ f ∈ x, f.1.length ≤ Rows.uptoBulk d := by
  obtain ⟨v, hv⟩ : ∃ v, cs.toList = [v] := by
    match cs.toList, hx.len with
    | [v], _ => exact ⟨v, rfl⟩
  have hr : RepC W W0 (.fz 11 (encL tF x)) v := by
    have := hx.1
    rw [hv] at this
    exact this.2 0 _ _ rfl rfl
  obtain ⟨fuel, hf⟩ := h
  obtain ⟨y0, n, he, hl, h0⟩ := trod_struct1 Try.underlying24 hf
  have hc : ((Value.agg cs).cells.toList.drop 0).take 1 = [v] := by
    show (cs.toList.drop 0).take 1 = [v]
    rw [hv]
    rfl
  have hc1 : Try.prog.cellsOf 22 = 1 := by kernel_rfl
  have h1 : DataW.trod enc Try.prog W base spare held n 22 (((Value.agg cs).cells.toList.drop 0).take (Try.prog.cellsOf 22)) = some y0 := h0
  rw [hc1, hc] at h1
  clear h0
  obtain ⟨rfl, -⟩ := Prod.mk.inj he
  intro f hf2
  refine Nat.le_trans ?_ (bulk_agg (List.mem_singleton.2 rfl))
  obtain ⟨k, hk, rfl⟩ := List.mem_iff_getElem.1 hf2
  obtain ⟨ao, cap, rfl, hel⟩ := row_elem hr
  obtain ⟨b, off, rfl, hb, hj⟩ := hel (fun h => by rw [h] at hk; simp at hk)
  obtain ⟨us, hus, hrg⟩ := hj k hk
  have hcF : Try.prog.cellsOf 35 = 11 := by kernel_rfl
  rcases Deep.open_slice Try.underlying22 h1 with ⟨h2, _⟩ | ⟨a, len, cap2, m, n2, D, Pl, h2, _, hl2, _, hm, h3, hD⟩
  · simp at h2
  · simp only [List.cons.injEq, Value.slice.injEq, Option.some.injEq, and_true] at h2
    obtain ⟨rfl, rfl, rfl⟩ := h2
    have hkm : k < m := by rw [hm]; split <;> omega
    obtain ⟨cs', hcs', ht'⟩ := hD k hkm
    rw [hcF] at hcs'
    have hy : y0.1 = .slice ((List.range (List.length x)).map D) ((List.range (m - List.length x)).map fun j => D (List.length x + j)) := by rw [h3]
    rw [hy]
    refine Nat.le_trans ?_ (bulk_slice (List.mem_map.2 ⟨k, List.mem_range.2 hk, rfl⟩))
    obtain ⟨xs, n3, _, hx3, hl3, hlen3, hf3⟩ := DataW.trod_struct Try.underlying35 ht'
    obtain ⟨-, hlc, hcc⟩ := World.cells?_some hcs'
    obtain ⟨a1, c1, a2, c2, a3, c3, a4, c4, a5, c5, a6, c6, a7, c7, a8, c8, a9, c9, hcse⟩ := fn_cells hus
    rw [hcse] at hrg
    have e0 := hrg 0 _ rfl
    have e1 := hcc 0 (by decide)
    have hcS : Try.prog.cellsOf 9 = 1 := by kernel_rfl
    have t0 : DataW.trod enc Try.prog W base spare held n3 9 ((cs'.drop 0).take (Try.prog.cellsOf 9)) = xs[0]? := hf3 0 _ rfl
    rw [hcS] at t0
    have e2 : cs'[0]? = some (.string ⟨⟨x[k].1⟩⟩) := by
      rw [← e1, Addr.add_lit, Addr.add_lit]
      exact e0
    match cs', hlc, e2, t0 with
    | c :: rest, _, e2, t0 =>
      obtain rfl : c = .string ⟨⟨x[k].1⟩⟩ := by simpa using e2
      match xs, hlen3, hx3, t0 with
      | [], hlen3, _, _ => exact absurd (show (0 : Nat) = 11 from hlen3) (by decide)
      | y :: ys, _, hx3, t0 =>
        have t0 : DataW.trod enc Try.prog W base spare held n3 9 [.string ⟨⟨x[k].1⟩⟩] = some y := t0
        obtain ⟨s, e4, e5, _⟩ := DataW.trod_string Try.underlying9 t0
        obtain rfl : (⟨⟨x[k].1⟩⟩ : ByteArray) = s := by simpa using e4
        rw [(Prod.mk.inj hx3).1, e5]
        exact Nat.le_trans bulk_str (bulk_agg (List.mem_cons_self ..))
end Go.Proofs.Ytkdnbnkbnegckaa
namespace Go.Proofs.Ytkdnbnkbnegckaa.disTexts
open Go.ChangeShapes Go.WideShapes Go.ChangeAt Go.RowKit
open Go.ChangeMaps (open_string shut_string)
set_option linter.unusedVariables false

theorem own : ownKnob Try.prog.godebug = none := by kernel_rfl
theorem laidOut : laidOutB Try.prog = true := by kernel_rfl

set_option maxRecDepth 100000 in
theorem lifted (os : Os) (started : os.Started) (H : Type) (enc : TypeId × Value → H) (F : Stop.Interp) :
    ReturnsInHanded {} Try.checked os 3 .any ((Rows.OpenSpec.upto Rows.disTextsSpec).pre6 enc Try.prog Try.f3 Rows.disTextsUptoRow.domain false) (((Rows.OpenSpec.upto Rows.disTextsSpec).at F).post enc Try.prog Try.f3 false true false false) := by
  refine returnsInHanded_of_cond_sized (C := Try.checked) (s := Rows.OpenSpec.upto Rows.disTextsSpec) (k := Rows.uptoSmall) rfl own started (by kernel_rfl) Try.func3
    (OpenSpec.witness (enc := enc) (C := Try.checked) (s := Rows.OpenSpec.upto Rows.disTextsSpec) (k := Rows.uptoSmall) rfl false ⟨#[], #[.agg #[.slice none 0 0]], []⟩ 8 (by kernel_rfl) (by kernel_rfl) (by kernel_rfl)
      (x := ([.agg [.nil]], [], [])) (by kernel_rfl) rfl (by kernel_rfl)) ?_
  intro W base args ds gs before hval0 hW hcnd hk hsz0 hholds
  have hval : ∀ (j : Nat) t v, Try.f3.params[j]? = some t → args[j]? = some v → Value.okWide Try.prog W .any base t v := hval0
  have hsz : (DataW.weightsEach Try.prog (Try.f3.params.toList ++ Rows.disTextsSpec.plain.varTypes Try.prog) (ds ++ gs)).all (· ≤ reachBytes) = true := hsz0
  have hW' := hW
  obtain ⟨p, q, hA0, hV, rfl, hfz, hnd⟩ := hW
  have hA : DataW.TrodAll enc Try.prog W 0 (fun _ => true) true Try.f3.params.toList args.toList ds p := hA0
  rw [Try.params3] at hA hval hsz
  obtain ⟨v0, vs0, d0, ds0, p0, q0, hargs, rfl, rfl, h0, r0⟩ := trodAll_cons hA
  obtain ⟨rfl, rfl, rfl⟩ := trodAll_nil r0
  obtain rfl : args = #[v0] := by cases args; simp_all
  obtain ⟨rfl, rfl⟩ := trodVars_none hV
  have hbulk : Rows.uptoBulkAll (H := H) ([d0] ++ []) ≤ 1048576 := of_decide_eq_true hk
  simp only [List.cons_append, List.nil_append, List.append_nil, Rows.uptoBulkAll] at hbulk
  have k0 := h0
  have lt0 : ∀ x ∈ p0, x.block < W.heap.size := by obtain ⟨m, hm⟩ := k0; exact DataW.trod_lt m _ _ _ hm
  obtain ⟨cs0, rfl, _⟩ := okWide_struct Try.underlying24 (hval 0 24 v0 rfl rfl)
  obtain ⟨z0, w0⟩ := open_d opensD_prog hsz (j := 0) rfl rfl h0
  clear hA0 hval0
  refine (DisTexts_walk (w := W) (x := z0) (cs := cs0.toList) (hx := w0) (hn := fun f hf => Nat.le_trans (prog_bulk w0 h0 f hf) (by omega))).mono fun e W' ⟨he, bel⟩ => ?_
  subst he
  exact ⟨_, rfl, _, _, _, [], _, [], hW', trodAll_mk1 (shut_bool Try.underlying4 _), (trodAll_cons_mk (Below.trod laidOut (by kernel_rfl) (of_decide_eq_true (by kernel_rfl)) k0 bel.b lt0) trodAll_mk0), rfl, bel.b.frame _, fun h => by cases h⟩

theorem DisTexts_holds : Rows.DisTextsUptoSaid :=
  OpenClaim.holds_of_cond 3 Try.f3 rfl rfl rfl rfl rfl rfl rfl ⟨rfl, rfl, rfl, rfl, rfl⟩ rfl rfl rfl rfl rfl (by kernel_rfl) Try.func3 (by kernel_rfl)
    (of_decide_eq_true (by kernel_rfl)) (by unfold Func.isWrapper; first | (rw [if_pos (by decide +kernel)]; kernel_rfl) | (rw [if_neg (by decide +kernel)]; exact ⟨rfl, rfl⟩))
    (fun os started H enc _ F => lifted os started H enc F)
end Go.Proofs.Ytkdnbnkbnegckaa.disTexts

namespace Go.Proofs.Ytkdnbnkbnegckaa
theorem DisTexts_proved : Rows.DisTextsUptoSaid := disTexts.DisTexts_holds
#print axioms DisTexts_proved
end Go.Proofs.Ytkdnbnkbnegckaa
