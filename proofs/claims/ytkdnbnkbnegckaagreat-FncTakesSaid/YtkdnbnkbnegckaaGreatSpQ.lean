/- Whether things are the same: what the lifted functions of the document's answer come to. -/
import Derived.Test.YtkdnbnkbnegckaaGreatSpF
namespace Go.Proofs.YtkdnbnkbnegckaaGreat
open Go.RowKit
open Classical in
/-- Are they the same? -/
noncomputable def eqD {α : Type} (a b : α) : Bool := decide (a = b)
@[simp] theorem eqD_s {α : Type} {a : α} : eqD a a = true := by simp [eqD]
theorem eqD_t {α : Type} {a b : α} (h : a = b) : eqD a b = true := by simp [eqD, h]
theorem eqD_f {α : Type} {a b : α} (h : a ≠ b) : eqD a b = false := by simp [eqD, h]
theorem eqD_cons {α : Type} {a b : α} {l m : List α} : eqD (a :: l) (b :: m) = (eqD a b && eqD l m) := by
  by_cases h1 : a = b <;> by_cases h2 : l = m <;> simp [eqD, h1, h2]
theorem eqD_d {α : Type} {a b : α} [Decidable (a = b)] : eqD a b = decide (a = b) := by
  by_cases h : a = b <;> simp [eqD, h]
theorem iter_same {α : Type} {l m : List α} {f : α → α → Bool} (hf : ∀ x y, f x y = eqD x y) (hl : l.length ≤ 1000000000000000000) (hm : l.length = m.length) :
    iter (fun (d : Int × Unit) again => if d.1 < (l.length : Int) then if 0 ≤ d.1 then bnd l[d.1.toNat]? fun x => if 0 ≤ d.1 then bnd m[d.1.toNat]? fun y => cnd (f x y) (again (wrp .i64 (d.1 + 1), ())) (some (false, ())) else none else none else some (true, ())) (l.length + 1) (0, ()) = some (eqD l m, ()) := by
  refine iter_to (fun d => l.length - d.1.toNat) (fun d => ∃ k : Nat, d = ((k : Int), ()) ∧ k ≤ l.length ∧ eqD l m = eqD (l.drop k) (m.drop k)) ?_ _ _ ⟨0, rfl, Nat.zero_le _, rfl⟩ (by simp)
  rintro _ again ⟨k, rfl, hk, hr⟩ ih
  by_cases h : k < l.length
  · have h2 : k < m.length := by omega
    have hw : wrp .i64 ((k : Int) + 1) = (k : Int) + 1 := wi64 (by omega) (by omega)
    rw [List.drop_eq_getElem_cons h, List.drop_eq_getElem_cons h2, eqD_cons] at hr
    simp [h, bnd_get h, bnd_get h2, hw, hf]
    cases he : eqD l[k] m[k] with
    | true =>
      rw [he] at hr
      exact ih _ ⟨k + 1, rfl, h, by simpa using hr⟩ (by simp; omega)
    | false =>
      rw [he] at hr
      simp [hr]
  · have : k = l.length := by omega
    subst this
    rw [hr, List.drop_eq_nil_of_le (Nat.le_refl _), List.drop_eq_nil_of_le (show m.length ≤ l.length by omega)]
    simp
theorem len_ne {α : Type} {l m : List α} (h : ¬l.length = m.length) : eqD l m = false := eqD_f fun e => h (by rw [e])
theorem sp_Same11 {l m : List Int} (hl : l.length ≤ 1000000000000000000) : S_ref11_Same l m = some (eqD l m, ()) := by
  refine u_ref11_Same (N := l.length + 1) ?_
  simp [M_ref11_Same]
  by_cases h : l.length = m.length
  · have := iter_same (f := fun x y => decide (x = y)) (fun x y => (eqD_d (a := x) (b := y)).symm) hl h
    simpa [h] using this
  · simp [len_ne h, show ¬(l.length : Int) = m.length by omega]
theorem sp_Ints {l m : List Int} (hl : l.length ≤ 1000000000000000000) : S_ref04_Ints l m = some (eqD l m, ()) := by
  refine u_ref04_Ints (N := l.length + 1) ?_
  simp [M_ref04_Ints]
  by_cases h : l.length = m.length
  · have := iter_same (f := fun x y => decide (x = y)) (fun x y => (eqD_d (a := x) (b := y)).symm) hl h
    simpa [h] using this
  · simp [len_ne h, show ¬(l.length : Int) = m.length by omega]
theorem sp_Same13 {l m : List Nd} (hl : l.length ≤ 1000000000000000000) : S_ref13_Same l m = some (eqD l m, ()) := by
  refine u_ref13_Same (N := l.length + 1) ?_
  simp [M_ref13_Same]
  by_cases h : l.length = m.length
  · have := iter_same (f := fun (p q : Nd) => eqL [p.1, p.2.1, p.2.2.1, p.2.2.2.1, p.2.2.2.2.1, p.2.2.2.2.2.1, p.2.2.2.2.2.2] [q.1, q.2.1, q.2.2.1, q.2.2.2.1, q.2.2.2.2.1, q.2.2.2.2.2.1, q.2.2.2.2.2.2]) (fun p q => by
      obtain ⟨a, b, c, d, e, f, g⟩ := p
      obtain ⟨a', b', c', d', e', f', g'⟩ := q
      simp [eqL, eqD]) hl h
    simpa [h] using this
  · simp [len_ne h, show ¬(l.length : Int) = m.length by omega]
theorem sp_Same14 {l m : List St} (hl : l.length ≤ 1000000000000000000) : S_ref14_Same l m = some (eqD l m, ()) := by
  refine u_ref14_Same (N := l.length + 1) ?_
  simp [M_ref14_Same]
  by_cases h : l.length = m.length
  · have := iter_same (f := fun (p q : St) => eqL [p.1, p.2.1, p.2.2.1, p.2.2.2] [q.1, q.2.1, q.2.2.1, q.2.2.2]) (fun p q => by
      obtain ⟨a, b, c, d⟩ := p
      obtain ⟨a', b', c', d'⟩ := q
      simp [eqL, eqD]) hl h
    simpa [h] using this
  · simp [len_ne h, show ¬(l.length : Int) = m.length by omega]
theorem sp_Code {l m : List (Int × Int)} (hl : l.length ≤ 1000000000000000000) : S_ref15_Code l m = some (eqD l m, ()) := by
  refine u_ref15_Code (N := l.length + 1) ?_
  simp [M_ref15_Code]
  by_cases h : l.length = m.length
  · have := iter_same (f := fun (p q : Int × Int) => eqL [p.1, p.2] [q.1, q.2]) (fun p q => by
      obtain ⟨a, b⟩ := p
      obtain ⟨a', b'⟩ := q
      simp [eqL, eqD]) hl h
    simpa [h] using this
  · simp [len_ne h, show ¬(l.length : Int) = m.length by omega]
/-- A function is the same as itself. -/
theorem sp_Same15 {name : List UInt8} {inner : Bool} {outer params results locals lines at' : List Int} {code : List (Int × Int)} {nodes : List Nd} {live : List St}
    (h1 : outer.length ≤ 1000000000) (h2 : params.length ≤ 1000000000) (h3 : results.length ≤ 1000000000) (h4 : locals.length ≤ 1000000000) (h5 : code.length ≤ 1000000000) (h6 : lines.length ≤ 1000000000) (h7 : nodes.length ≤ 1000000000) (h8 : at'.length ≤ 1000000000) (h9 : live.length ≤ 1000000000) :
    S_ref15_Same name inner outer params results locals code lines nodes at' live name inner outer params results locals code lines nodes at' live = some (true, ()) := by
  refine u_ref15_Same (N := 0) ?_
  simp [M_ref15_Same, sp_Same11 (l := outer) (by omega), sp_Same11 (l := params) (by omega), sp_Same11 (l := results) (by omega), sp_Same11 (l := locals) (by omega), sp_Code (l := code) (by omega), sp_Ints (l := lines) (by omega), sp_Ints (l := at') (by omega), sp_Same13 (l := nodes) (by omega), sp_Same14 (l := live) (by omega)]
end Go.Proofs.YtkdnbnkbnegckaaGreat
