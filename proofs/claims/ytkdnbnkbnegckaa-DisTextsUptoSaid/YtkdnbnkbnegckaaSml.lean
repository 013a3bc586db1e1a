/- Small programs; how a program that came in is opened. -/
import Derived.Test.YtkdnbnkbnegckaaDaS
import Derived.Test.YtkdnbnkbnegckaaOpenD
namespace Go.Proofs.Ytkdnbnkbnegckaa
open Go.RowKit Go.WideShapes
set_option maxRecDepth 20000
section
variable {name : List UInt8} {inner : Bool} {outer params results locals lines at' : List Int} {code : List (Int × Int)} {nodes : List Nd} {live : List St}
def smallB (outer params results locals lines at' : List Int) (code : List (Int × Int)) (nodes : List Nd) (live : List St) : Bool :=
  decide (code.length ≤ 150 ∧ lines.length ≤ 150 ∧ nodes.length ≤ 20 ∧ at'.length ≤ 150 ∧ live.length ≤ 150 ∧ params.length + results.length + locals.length + outer.length ≤ 300)
theorem sp_Small (h1 : outer.length ≤ 140737488351232) (h2 : params.length ≤ 140737488351232) (h3 : results.length ≤ 140737488351232) (h4 : locals.length ≤ 140737488351232) : S_law15_Small name inner outer params results locals code lines nodes at' live = some (smallB outer params results locals lines at' code nodes live, ()) := by
  refine u_law15_Small (N := 0) ?_
  have w1 : wrp .i64 ((params.length : Int) + results.length) = (params.length : Int) + results.length := wi64 (by omega) (by omega)
  have w2 : wrp .i64 ((params.length : Int) + results.length + locals.length) = (params.length : Int) + results.length + locals.length := wi64 (by omega) (by omega)
  have w3 : wrp .i64 ((params.length : Int) + results.length + locals.length + outer.length) = (params.length : Int) + results.length + locals.length + outer.length := wi64 (by omega) (by omega)
  have c1 : ((code.length : Int) ≤ 150) ↔ code.length ≤ 150 := by omega
  have c2 : ((lines.length : Int) ≤ 150) ↔ lines.length ≤ 150 := by omega
  have c3 : ((nodes.length : Int) ≤ 20) ↔ nodes.length ≤ 20 := by omega
  have c4 : ((at'.length : Int) ≤ 150) ↔ at'.length ≤ 150 := by omega
  have c5 : ((live.length : Int) ≤ 150) ↔ live.length ≤ 150 := by omega
  have c6 : ((params.length : Int) + results.length + locals.length + outer.length ≤ 300) ↔ params.length + results.length + locals.length + outer.length ≤ 300 := by omega
  simp [M_law15_Small, smallB, w1, w2, w3, c1, c2, c3, c4, c5, c6]
  by_cases d1 : code.length ≤ 150 <;> by_cases d2 : lines.length ≤ 150 <;> by_cases d3 : nodes.length ≤ 20 <;> by_cases d4 : at'.length ≤ 150 <;> by_cases d5 : live.length ≤ 150 <;> simp [d1, d2, d3, d4, d5]
theorem okD_dat (h : OkD tF (name, inner, outer, params, results, locals, code, lines, nodes, at', live)) : outer.length ≤ 140737488351232 ∧ params.length ≤ 140737488351232 ∧ results.length ≤ 140737488351232 ∧ locals.length ≤ 140737488351232 ∧ (∀ p ∈ code, I64s p.2) ∧ ∀ v ∈ lines, I64s v := by
  obtain ⟨h1, -, ⟨h2, -⟩, ⟨h3, -⟩, ⟨h4, -⟩, ⟨h5, -⟩, ⟨-, h6⟩, ⟨-, h7⟩, ⟨-, h8⟩, ⟨-, h9⟩, ⟨-, h10⟩⟩ := h
  exact ⟨h2, h3, h4, h5, fun p hp => (h6 p hp).2, h7⟩
end
def smallV (f : Fn) : Bool := smallB f.2.2.1 f.2.2.2.1 f.2.2.2.2.1 f.2.2.2.2.2.1 f.2.2.2.2.2.2.2.1 f.2.2.2.2.2.2.2.2.2.1 f.2.2.2.2.2.2.1 f.2.2.2.2.2.2.2.2.1 f.2.2.2.2.2.2.2.2.2.2
def smallsB (fs : List Fn) : Bool := decide (fs.length ≤ 50) && fs.all smallV
def BoundV (f : Fn) : Prop := f.2.2.1.length ≤ 140737488351232 ∧ f.2.2.2.1.length ≤ 140737488351232 ∧ f.2.2.2.2.1.length ≤ 140737488351232 ∧ f.2.2.2.2.2.1.length ≤ 140737488351232
theorem sp_Small16 {fs : List Fn} (hl : ∀ f ∈ fs, BoundV f) : S_law16_Small fs = some (smallsB fs, ()) := by
  refine u_law16_Small (N := 52) ?_
  simp [M_law16_Small]
  refine iter_join (fun d => fs.length + 51 - d.1.toNat - fs.length) (fun d => ∃ k : Nat, d = ((k : Int), ()) ∧ k ≤ fs.length ∧ k ≤ 50 ∧ (fs.take k).all smallV = true) ?_ _ _ ⟨0, rfl, Nat.zero_le _, by omega, by simp⟩ (by simp)
  rintro _ again ⟨k, rfl, hk, hk2, hr⟩ ih
  by_cases h : k < fs.length
  · by_cases h5 : k < 50
    · have hw : wrp .i64 ((k : Int) + 1) = (k : Int) + 1 := wi64 (by omega) (by omega)
      obtain ⟨p1, p2, p3, p4⟩ := hl fs[k] (List.getElem_mem h)
      have hS : S_law15_Small fs[k].1 fs[k].2.1 fs[k].2.2.1 fs[k].2.2.2.1 fs[k].2.2.2.2.1 fs[k].2.2.2.2.2.1 fs[k].2.2.2.2.2.2.1 fs[k].2.2.2.2.2.2.2.1 fs[k].2.2.2.2.2.2.2.2.1 fs[k].2.2.2.2.2.2.2.2.2.1 fs[k].2.2.2.2.2.2.2.2.2.2 = some (smallV fs[k], ()) := sp_Small p1 p2 p3 p4
      have h50 : (k : Int) < 50 := by omega
      simp [h, h50, bnd_get h, hw, hS]
      cases he : smallV fs[k] with
      | true => exact ih ((k : Int) + 1, ()) ⟨k + 1, rfl, h, h5, by rw [List.take_succ_eq_append_getElem h, List.all_append, hr]; simp [he]⟩ (by simp; omega)
      | false =>
        have : smallsB fs = false := by
          have : fs.all smallV = false := by
            cases hq : fs.all smallV with
            | false => rfl
            | true => rw [List.all_eq_true] at hq; rw [hq _ (List.getElem_mem h)] at he; cases he
          rw [smallsB, this]; simp
        simp [this]
    · have h50 : ¬(k : Int) < 50 := by omega
      have hb : ¬fs.length ≤ 50 := by omega
      have hb2 : ¬(fs.length : Int) ≤ 50 := by omega
      simp [h, h50, smallsB, hb, hb2]
  · have : k = fs.length := by omega
    subst this
    rw [List.take_length] at hr
    simp [smallsB, hr]
    omega
theorem opensD_types : OpensD Try.prog 29 (.sl 1 tI) := opensD_sl (by' := 8) Try.underlying29 (by kernel_rfl) (by kernel_rfl) rfl (by decide) (by decide) (opensD_i64 Try.underlying59)
theorem opensD_ints : OpensD Try.prog 31 (.sl 1 tI) := opensD_sl (by' := 8) Try.underlying31 (by kernel_rfl) (by kernel_rfl) rfl (by decide) (by decide) (opensD_i64 Try.underlying3)
theorem opensD_instr : OpensD Try.prog 52 tC := opensD_struct Try.underlying52 (by kernel_rfl) (opensFD_cons rfl (by kernel_rfl) (opensD_i64 Try.underlying50) (opensFD_one rfl (by kernel_rfl) (opensD_i64 Try.underlying3)))
theorem opensD_node : OpensD Try.prog 96 tN :=
  have hi : OpensD Try.prog 3 tI := opensD_i64 Try.underlying3
  opensD_struct Try.underlying96 (by kernel_rfl) (opensFD_cons rfl (by kernel_rfl) hi (opensFD_cons rfl (by kernel_rfl) hi (opensFD_cons rfl (by kernel_rfl) hi (opensFD_cons rfl (by kernel_rfl) hi (opensFD_cons rfl (by kernel_rfl) hi (opensFD_cons rfl (by kernel_rfl) hi (opensFD_one rfl (by kernel_rfl) hi)))))))
theorem opensD_set : OpensD Try.prog 99 tS := opensD_arr4 Try.underlying99 Try.underlying97 (by kernel_rfl) (by kernel_rfl)
theorem opensD_code : OpensD Try.prog 30 (.sl 2 tC) := opensD_sl (by' := 16) Try.underlying30 (by kernel_rfl) (by kernel_rfl) rfl (by decide) (by decide) opensD_instr
theorem opensD_nodes : OpensD Try.prog 32 (.sl 7 tN) := opensD_sl (by' := 56) Try.underlying32 (by kernel_rfl) (by kernel_rfl) rfl (by decide) (by decide) opensD_node
theorem opensD_sets : OpensD Try.prog 33 (.sl 4 tS) := opensD_sl (by' := 32) Try.underlying33 (by kernel_rfl) (by kernel_rfl) rfl (by decide) (by decide) opensD_set
theorem opensD_func : OpensD Try.prog 35 tF :=
  opensD_struct Try.underlying35 (by kernel_rfl) (opensFD_cons rfl (by kernel_rfl) (opensD_str Try.underlying9) (opensFD_cons rfl (by kernel_rfl) (opensD_bool Try.underlying4) (opensFD_cons rfl (by kernel_rfl) opensD_types (opensFD_cons rfl (by kernel_rfl) opensD_types (opensFD_cons rfl (by kernel_rfl) opensD_types (opensFD_cons rfl (by kernel_rfl) opensD_types
    (opensFD_cons rfl (by kernel_rfl) opensD_code (opensFD_cons rfl (by kernel_rfl) opensD_ints (opensFD_cons rfl (by kernel_rfl) opensD_nodes (opensFD_cons rfl (by kernel_rfl) opensD_ints (opensFD_one rfl (by kernel_rfl) opensD_sets)))))))))))
/-- Data of a program. -/
abbrev PrD : Ty := .sl 11 tF
theorem opensD_prog : OpensD Try.prog 24 PrD :=
  opensD_struct Try.underlying24 (by kernel_rfl) (opensFD_one rfl (by kernel_rfl) (opensD_sl (by' := 240) Try.underlying22 (by kernel_rfl) (by kernel_rfl) rfl (by decide) (by decide) opensD_func))
theorem okP_bound {p : List Fn} (h : OkD PrD p) : ∀ f ∈ p, BoundV f := fun f hf => by
  obtain ⟨name, inner, outer, params, results, locals, code, lines, nodes, at', live⟩ := f
  obtain ⟨h2, h3, h4, h5, _⟩ := okD_dat (h.2 _ hf)
  exact ⟨h2, h3, h4, h5⟩
theorem okT_small {p : List Fn} (h : OkD PrD p) (hs : smallsB p = true) (hn : ∀ f ∈ p, f.1.length ≤ 1048576) : p.length ≤ 50 ∧ ∀ f ∈ p, OkT f := by
  simp only [smallsB, Bool.and_eq_true, decide_eq_true_eq, List.all_eq_true] at hs
  refine ⟨hs.1, fun f hf => ?_⟩
  have h1 := hs.2 f hf
  have h2 := hn f hf
  obtain ⟨name, inner, outer, params, results, locals, code, lines, nodes, at', live⟩ := f
  obtain ⟨-, -, -, -, h6, h7⟩ := okD_dat (h.2 _ hf)
  simp only [smallV, smallB, decide_eq_true_eq] at h1
  exact ⟨⟨by show name.length ≤ _; dsimp only at h2; omega, by show outer.length ≤ _; omega, by show params.length ≤ _; omega, by show results.length ≤ _; omega, by show locals.length ≤ _; omega⟩, by show code.length ≤ _; omega, h7, h6⟩
theorem textT_le {p : List Fn} (h : ∀ f ∈ p, OkT f) (hp : p.length ≤ 50) : (textT p).length ≤ 10000000000000 := by
  have h1 : (textT p).length ≤ p.length * 200000000 := flatMap_le fun f hf => funcT_le (h f hf)
  omega
end Go.Proofs.Ytkdnbnkbnegckaa
