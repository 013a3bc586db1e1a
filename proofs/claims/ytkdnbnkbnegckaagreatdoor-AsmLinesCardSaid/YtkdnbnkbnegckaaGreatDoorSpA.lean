/- Whether functions, and programs, can be laid: what the lifted functions come to. -/
import Derived.Test.YtkdnbnkbnegckaaGreatDoorAc
import Derived.Test.YtkdnbnkbnegckaaGreatDoorRetC
namespace Go.Proofs.YtkdnbnkbnegckaaGreatDoor
open Go.RowKit
set_option maxRecDepth 20000
set_option linter.unusedVariables false
abbrev Len (l : List UInt8) : Prop := l.length ≤ 140737488351232
def firstB (x : UInt8) : Bool := decide (97 ≤ u8I x ∧ u8I x ≤ 122)
def otherB (x : UInt8) : Bool := firstB x || decide (48 ≤ u8I x ∧ u8I x ≤ 57) || decide (u8I x = 95)
def mayB : List UInt8 → Bool
  | [] => false
  | x :: l => decide (l.length < 12) && firstB x && (x :: l).all otherB
@[simp] theorem sp_first {x : UInt8} : S_names_first x = some (firstB x, ()) := u_names_first (N := 0) (by
  by_cases h : 97 ≤ u8I x <;> simp [M_names_first, firstB, h])
@[simp] theorem sp_other {x : UInt8} : S_names_other x = some (otherB x, ()) := u_names_other (N := 0) (by
  cases h : firstB x <;> by_cases h1 : 48 ≤ u8I x <;> by_cases h2 : u8I x ≤ 57 <;> simp [M_names_other, otherB, cnd_b, h, h1, h2])
theorem all_drop {l : List UInt8} {p : UInt8 → Bool} {k : Nat} (h : k < l.length) : (l.drop k).all p = (p l[k] && (l.drop (k + 1)).all p) := by
  rw [List.drop_eq_getElem_cons h, List.all_cons]
theorem sp_May {l : List UInt8} (hl : Len l) : S_names_May l = some (mayB l, ()) := by
  refine u_names_May (N := l.length + 1) ?_
  cases l with
  | nil => simp [M_names_May, mayB]
  | cons x l =>
    simp [M_names_May, mayB]
    by_cases h1 : l.length < 12
    · rw [if_neg (by omega)]
      cases h2 : firstB x with
      | false => simp [cnd_b, h2]
      | true =>
        have hall : (otherB x && l.all otherB) = (x :: l).all otherB := rfl
        simp [cnd_b, h1]
        rw [hall]
        refine iter_to (fun d => (x :: l).length - d.1.toNat) (fun d => ∃ k : Nat, d = ((k : Int), ()) ∧ k ≤ (x :: l).length ∧ (x :: l).all otherB = ((x :: l).drop k).all otherB) ?_ _ _ ⟨0, rfl, Nat.zero_le _, rfl⟩ (by simp)
        rintro _ again ⟨k, rfl, h3, h4⟩ ih
        rw [h4] at ih ⊢
        by_cases hk : k < (x :: l).length
        · rw [all_drop hk]
          have hk2 : (k : Int) < l.length + 1 := by simp at hk; omega
          simp [hk2, bnd_get hk]
          cases h5 : otherB (x :: l)[k] with
          | false => simp
          | true =>
            rw [wi64 (by omega) (by unfold Len at hl; simp at hl; omega)]
            have := ih ((k : Int) + 1, ()) ⟨k + 1, rfl, hk, by rw [all_drop hk, h5]; rfl⟩ (by simp at hk ⊢; omega)
            rw [all_drop hk, h5] at this
            simpa using this
        · have hk2 : ¬(k : Int) < l.length + 1 := by simp at hk; omega
          simp [hk2, List.drop_eq_nil_of_le (Nat.le_of_not_lt hk)]
    · rw [if_pos (by omega)]
      simp [h1]
@[simp] theorem sp_sigMay {n : Int} : S_sig_May n = some (decide (n = 1) || decide (n = 2), ()) := u_sig_May (N := 0) (by by_cases h : n = 1 <;> simp [M_sig_May, h])
/-- The kind of an instruction's number, and how great it may be. -/
def kindN (n : Int) : Int := if n = 1 then 1 else if n = 2 ∨ n = 3 then 2 else if n = 21 ∨ n = 22 then 3 else if n = 23 ∨ n = 24 then 4 else if n = 28 ∨ n = 29 then 5 else if n = 33 ∨ n = 34 then 6 else 0
def mostN (k : Int) : Int := if k = 2 then 255 else if k = 3 then 1999 else if k = 4 then 39 else if k = 5 then 3 else if k = 6 then 119 else 0
def rightN (n a : Int) : Bool := decide (0 ≤ n ∧ n < 35 ∧ (kindN n = 1 ∨ 0 ≤ a ∧ a ≤ mostN (kindN n)))
@[simp] theorem sp_opsIs {n : Int} : S_ops_is n = some (decide (0 ≤ n ∧ n < 35), ()) := by
  refine u_ops_is (N := 0) ?_
  by_cases h : 0 ≤ n <;> simp [M_ops_is, h]
theorem sp_Operand {n : Int} : S_ops_Operand n = some (kindN n, ()) := by
  refine u_ops_Operand (N := 0) ?_
  by_cases h : 0 ≤ n ∧ n < 35
  · have : n = 0 ∨ n = 1 ∨ n = 2 ∨ n = 3 ∨ n = 4 ∨ n = 5 ∨ n = 6 ∨ n = 7 ∨ n = 8 ∨ n = 9 ∨ n = 10 ∨ n = 11 ∨ n = 12 ∨ n = 13 ∨ n = 14 ∨ n = 15 ∨ n = 16 ∨ n = 17 ∨ n = 18 ∨ n = 19 ∨ n = 20 ∨ n = 21 ∨ n = 22 ∨ n = 23 ∨ n = 24 ∨ n = 25 ∨ n = 26 ∨ n = 27 ∨ n = 28 ∨ n = 29 ∨ n = 30 ∨ n = 31 ∨ n = 32 ∨ n = 33 ∨ n = 34 := by omega
    rcases this with rfl | rfl | rfl | rfl | rfl | rfl | rfl | rfl | rfl | rfl | rfl | rfl | rfl | rfl | rfl | rfl | rfl | rfl | rfl | rfl | rfl | rfl | rfl | rfl | rfl | rfl | rfl | rfl | rfl | rfl | rfl | rfl | rfl | rfl | rfl <;> simp [M_ops_Operand, kindN]
  · have h2 : kindN n = 0 := by
      unfold kindN
      repeat' split
      all_goals first | rfl | (exfalso; omega)
    by_cases h3 : 0 ≤ n
    · have h4 : ¬n < 35 := fun h4 => h ⟨h3, h4⟩
      simp [M_ops_Operand, h2, h3, h4]
    · simp [M_ops_Operand, h2, h3]
theorem sp_most {n : Int} : S__instr_operand_most n = some (mostN n, ()) := by
  refine u__instr_operand_most (N := 0) ?_
  simp [M__instr_operand_most]
  unfold mostN
  repeat' split
  all_goals first | rfl | (exfalso; omega)
theorem sp_imay {n a : Int} : S__instr_operand_may n a = some (decide (n = 1 ∨ 0 ≤ a ∧ a ≤ mostN n), ()) := by
  refine u__instr_operand_may (N := 0) ?_
  by_cases h1 : n = 1 <;> by_cases h2 : 0 ≤ a <;> simp [M__instr_operand_may, sp_most, h1, h2]
theorem sp_iRight {n a : Int} : S_instr_Right n a = some (rightN n a, ()) := by
  refine u_instr_Right (N := 0) ?_
  unfold rightN
  by_cases h1 : 0 ≤ n <;> by_cases h2 : n < 35 <;> simp [M_instr_Right, sp_Operand, sp_imay, h1, h2]
def nodeB (p : Nd) (i tz : Int) : Bool := decide (0 ≤ p.2.1 ∧ p.2.1 ≤ 39 ∧ 0 ≤ p.2.2.1 ∧ p.2.2.1 ≤ 65535 ∧ 0 ≤ p.2.2.2.2.1 ∧ p.2.2.2.2.1 ≤ 8 ∧ tz ≤ p.2.2.2.1 ∧ p.2.2.2.1 ≤ 256 ∧ p.2.2.2.1 + p.2.2.2.2.1 ≤ p.2.2.2.2.2.1 ∧ p.2.2.2.2.2.1 ≤ 256 ∧
  (if i = 0 then p.1 = -1 ∧ p.2.2.1 = 0 ∧ p.2.2.2.1 = 0 ∧ p.2.2.2.2.2.2 = 0 else 0 ≤ p.1 ∧ p.1 < i ∧ 1 ≤ p.2.2.2.2.2.2 ∧ p.2.2.2.2.2.2 ≤ 1999))
def treeB : Int → Int → List Nd → Bool
  | _, _, [] => true
  | i, tz, p :: l => nodeB p i tz && treeB (i + 1) p.2.2.2.2.2.1 l
def rightT (l : List Nd) : Bool := decide (1 ≤ l.length ∧ l.length ≤ 120) && treeB 0 0 l
@[simp] theorem sp_within {a b c : Int} : S_tree_within a b c = some (decide (b ≤ a) && decide (a ≤ c), ()) := by
  refine u_tree_within (N := 0) ?_
  by_cases h : b ≤ a <;> simp [M_tree_within, h]
section
variable {α : Type} {p q : Prop} [Decidable p] [Decidable q] {F X : α}
end
/-- The words of the set of all slots below n. -/
def mw (n j : Nat) : Int := ((2 ^ (min (n - 64 * j) 64) - 1 : Nat) : Int)
def insideBQ (s t : St) : Bool := decide (bitI .andNot .u64 s.1 t.1 = 0 ∧ bitI .andNot .u64 s.2.1 t.2.1 = 0 ∧ bitI .andNot .u64 s.2.2.1 t.2.2.1 = 0 ∧ bitI .andNot .u64 s.2.2.2 t.2.2.2 = 0)
def belowB (s : St) (n : Nat) : Bool := insideBQ s (mw n 0, (mw n 1, (mw n 2, mw n 3)))
@[simp] theorem sp_sub1 {a b : Int} : S_slots_Sub_1 a b = some (bitI .andNot .u64 a b, ()) := u_slots_Sub_1 (N := 0) (by simp [M_slots_Sub_1])
@[simp] theorem sp_sub {a b c d e f g h : Int} : S_slots_Sub a b c d e f g h = some (bitI .andNot .u64 a e, (bitI .andNot .u64 b f, (bitI .andNot .u64 c g, (bitI .andNot .u64 d h, ())))) := u_slots_Sub (N := 0) (by simp [M_slots_Sub])
@[simp] theorem sp_rsub {a b c d e f g h : Int} : S_ref03_Sub a b c d e f g h = some (bitI .andNot .u64 a e, (bitI .andNot .u64 b f, (bitI .andNot .u64 c g, (bitI .andNot .u64 d h, ())))) := u_ref03_Sub (N := 0) (by simp [M_ref03_Sub])
@[simp] theorem sp_many {a : List UInt8} {b : Bool} {c d e f : List Int} {g : List (Int × Int)} {h : List Int} {i : List Nd} {j : List Int} {k : List St} (hd : d.length ≤ 1000000) (he : e.length ≤ 1000000) (hf : f.length ≤ 1000000) : S_fnc_many a b c d e f g h i j k = some ((d.length : Int) + e.length + f.length, ()) := by
  refine u_fnc_many (N := 0) ?_
  simp [M_fnc_many, wi64 (n := (d.length : Int) + e.length) (by omega) (by omega), wi64 (n := (d.length : Int) + e.length + f.length) (by omega) (by omega)]
section
variable {name : List UInt8} {inner : Bool} {outer params results locals : List Int} {fl : UInt8}
end
open Classical in
/-- Are they the same? -/
noncomputable def eqD {α : Type} (a b : α) : Bool := decide (a = b)
@[simp] theorem eqD_s {α : Type} {a : α} : eqD a a = true := by simp [eqD]
theorem eqD_f {α : Type} {a b : α} (h : a ≠ b) : eqD a b = false := by simp [eqD, h]
theorem eqD_cons {α : Type} {a b : α} {l m : List α} : eqD (a :: l) (b :: m) = (eqD a b && eqD l m) := by
  by_cases h1 : a = b <;> by_cases h2 : l = m <;> simp [eqD, h1, h2]
theorem eqD_d {α : Type} {a b : α} [Decidable (a = b)] : eqD a b = decide (a = b) := by
  by_cases h : a = b <;> simp [eqD, h]
theorem iter_same {α : Type} {l m : List α} {f : α → α → Bool} (hf : ∀ x y, f x y = eqD x y) (hl : l.length ≤ 1000000000000000000) (hm : l.length = m.length) :
    iter (fun (d : Int × Unit) again => if d.1 < (l.length : Int) then if 0 ≤ d.1 then bnd l[d.1.toNat]? fun x => if 0 ≤ d.1 then bnd m[d.1.toNat]? fun y => cnd (f x y) (again (wrp .i64 (d.1 + 1), ())) (some (false, ())) else none else none else some (true, ())) (l.length + 1) (0, ()) = some (eqD l m, ()) := by
  refine iter_to (fun d => l.length - d.1.toNat) (fun d => ∃ k : Nat, d = ((k : Int), ()) ∧ k ≤ l.length ∧ eqD l m = eqD (l.drop k) (m.drop k)) ?_ _ _ ⟨0, rfl, Nat.zero_le _, rfl⟩ (by simp)
  rintro _ again ⟨k, rfl, hk, hr⟩ ih
  by_cases h : k < l.length
  · have h2 : k < m.length := by omega
    have hw : wrp .i64 ((k : Int) + 1) = (k : Int) + 1 := wi64 (by omega) (by omega)
    rw [List.drop_eq_getElem_cons h, List.drop_eq_getElem_cons h2, eqD_cons] at hr
    simp [h, bnd_get h, bnd_get h2, hw, hf]
    cases he : eqD l[k] m[k] with
    | true =>
      rw [he] at hr
      exact ih _ ⟨k + 1, rfl, h, by simpa using hr⟩ (by simp; omega)
    | false =>
      rw [he] at hr
      simp [hr]
  · have : k = l.length := by omega
    subst this
    rw [hr, List.drop_eq_nil_of_le (Nat.le_refl _), List.drop_eq_nil_of_le (show m.length ≤ l.length by omega)]
    simp
theorem len_ne {α : Type} {l m : List α} (h : ¬l.length = m.length) : eqD l m = false := eqD_f fun e => h (by rw [e])
theorem sp_Same11 {l m : List Int} (hl : l.length ≤ 1000000000000000000) : S_ref11_Same l m = some (eqD l m, ()) := by
  refine u_ref11_Same (N := l.length + 1) ?_
  simp [M_ref11_Same]
  by_cases h : l.length = m.length
  · have := iter_same (f := fun x y => decide (x = y)) (fun x y => (eqD_d (a := x) (b := y)).symm) hl h
    simpa [h] using this
  · simp [len_ne h, show ¬(l.length : Int) = m.length by omega]
theorem sp_Ints {l m : List Int} (hl : l.length ≤ 1000000000000000000) : S_ref04_Ints l m = some (eqD l m, ()) := by
  refine u_ref04_Ints (N := l.length + 1) ?_
  simp [M_ref04_Ints]
  by_cases h : l.length = m.length
  · have := iter_same (f := fun x y => decide (x = y)) (fun x y => (eqD_d (a := x) (b := y)).symm) hl h
    simpa [h] using this
  · simp [len_ne h, show ¬(l.length : Int) = m.length by omega]
theorem sp_Same13 {l m : List Nd} (hl : l.length ≤ 1000000000000000000) : S_ref13_Same l m = some (eqD l m, ()) := by
  refine u_ref13_Same (N := l.length + 1) ?_
  simp [M_ref13_Same]
  by_cases h : l.length = m.length
  · have := iter_same (f := fun (p q : Nd) => eqL [p.1, p.2.1, p.2.2.1, p.2.2.2.1, p.2.2.2.2.1, p.2.2.2.2.2.1, p.2.2.2.2.2.2] [q.1, q.2.1, q.2.2.1, q.2.2.2.1, q.2.2.2.2.1, q.2.2.2.2.2.1, q.2.2.2.2.2.2]) (fun p q => by
      obtain ⟨a, b, c, d, e, f, g⟩ := p
      obtain ⟨a', b', c', d', e', f', g'⟩ := q
      simp [eqL, eqD]) hl h
    simpa [h] using this
  · simp [len_ne h, show ¬(l.length : Int) = m.length by omega]
theorem sp_Same14 {l m : List St} (hl : l.length ≤ 1000000000000000000) : S_ref14_Same l m = some (eqD l m, ()) := by
  refine u_ref14_Same (N := l.length + 1) ?_
  simp [M_ref14_Same]
  by_cases h : l.length = m.length
  · have := iter_same (f := fun (p q : St) => eqL [p.1, p.2.1, p.2.2.1, p.2.2.2] [q.1, q.2.1, q.2.2.1, q.2.2.2]) (fun p q => by
      obtain ⟨a, b, c, d⟩ := p
      obtain ⟨a', b', c', d'⟩ := q
      simp [eqL, eqD]) hl h
    simpa [h] using this
  · simp [len_ne h, show ¬(l.length : Int) = m.length by omega]
theorem sp_Code {l m : List (Int × Int)} (hl : l.length ≤ 1000000000000000000) : S_ref15_Code l m = some (eqD l m, ()) := by
  refine u_ref15_Code (N := l.length + 1) ?_
  simp [M_ref15_Code]
  by_cases h : l.length = m.length
  · have := iter_same (f := fun (p q : Int × Int) => eqL [p.1, p.2] [q.1, q.2]) (fun p q => by
      obtain ⟨a, b⟩ := p
      obtain ⟨a', b'⟩ := q
      simp [eqL, eqD]) hl h
    simpa [h] using this
  · simp [len_ne h, show ¬(l.length : Int) = m.length by omega]
/-- A function is the same as itself. -/
theorem sp_Same15 {name : List UInt8} {inner : Bool} {outer params results locals lines at' : List Int} {code : List (Int × Int)} {nodes : List Nd} {live : List St}
    (h1 : outer.length ≤ 1000000000) (h2 : params.length ≤ 1000000000) (h3 : results.length ≤ 1000000000) (h4 : locals.length ≤ 1000000000) (h5 : code.length ≤ 1000000000) (h6 : lines.length ≤ 1000000000) (h7 : nodes.length ≤ 1000000000) (h8 : at'.length ≤ 1000000000) (h9 : live.length ≤ 1000000000) :
    S_ref15_Same name inner outer params results locals code lines nodes at' live name inner outer params results locals code lines nodes at' live = some (true, ()) := by
  refine u_ref15_Same (N := 0) ?_
  simp [M_ref15_Same, sp_Same11 (l := outer) (by omega), sp_Same11 (l := params) (by omega), sp_Same11 (l := results) (by omega), sp_Same11 (l := locals) (by omega), sp_Code (l := code) (by omega), sp_Ints (l := lines) (by omega), sp_Ints (l := at') (by omega), sp_Same13 (l := nodes) (by omega), sp_Same14 (l := live) (by omega)]
/-- A loop that goes on while all is well. -/
theorem iter_all {α β : Type} {l : List α} {p : α → Bool} {bad fin : Option β} {f : Int × Unit → (Int × Unit → Option β) → Option β} {N : Nat} (hN : l.length < N) (hl : l.length ≤ 1000000000000000000)
    (hf : ∀ (k : Nat) again, (hk : k < l.length) → f ((k : Int), ()) again = if p l[k] = true then again (wrp .i64 ((k : Int) + 1), ()) else bad) (he : ∀ again, f ((l.length : Int), ()) again = fin) : iter f N (0, ()) = if l.all p = true then fin else bad := by
  refine iter_to (fun d => l.length - d.1.toNat) (fun d => ∃ k : Nat, d = ((k : Int), ()) ∧ k ≤ l.length ∧ l.all p = (l.drop k).all p) ?_ _ _ ⟨0, rfl, Nat.zero_le _, rfl⟩ (by simpa using hN)
  rintro _ again ⟨k, rfl, hk, hr⟩ ih
  by_cases h : k < l.length
  · have hw : wrp .i64 ((k : Int) + 1) = (k : Int) + 1 := wi64 (by omega) (by omega)
    rw [hf k again h, hw]
    rw [List.drop_eq_getElem_cons h, List.all_cons] at hr
    cases hp : p l[k] with
    | true =>
      rw [hp] at hr
      exact (if_pos rfl).trans (ih _ ⟨k + 1, rfl, h, by simpa using hr⟩ (by simp; omega))
    | false =>
      rw [hp] at hr
      simp [hr]
  · have : k = l.length := by omega
    subst this
    rw [he, hr, List.drop_eq_nil_of_le (Nat.le_refl _)]
    simp
def typeBQ (t : Int) : Bool := decide (t = 1) || decide (t = 2)
@[simp] theorem sp_sigR1 {n : Int} : S_sig_Right_1 n = some (!typeBQ n, ()) := u_sig_Right_1 (N := 0) (by simp [M_sig_Right_1, typeBQ])
@[simp] theorem sp_rMay11 {n : Int} : S_ref11_May n = some (typeBQ n, ()) := u_ref11_May (N := 0) (by by_cases h : n = 1 <;> simp [M_ref11_May, typeBQ, h])
def sigBQ (l : List Int) (m : Int) : Bool := decide ((l.length : Int) ≤ m) && l.all typeBQ
theorem sp_sigRight {l : List Int} {m : Int} (hl : l.length ≤ 1000000000000000000) : S_sig_Right l m = some (sigBQ l m, ()) := by
  refine u_sig_Right (N := l.length + 1) ?_
  simp [M_sig_Right]
  by_cases h : (l.length : Int) ≤ m
  · rw [if_pos h]
    refine (iter_all (p := typeBQ) (bad := some (false, ())) (fin := some (true, ())) (by omega) hl ?_ ?_).trans ?_
    · intro k again hk
      simp [hk, bnd_get hk, cnd_b]
    · intro again
      simp
    · cases ha : l.all typeBQ <;> simp [sigBQ, h, ha]
  · simp [sigBQ, h]
def lineBQ (v : Int) : Bool := decide (0 ≤ v ∧ v ≤ 65535)
@[simp] theorem sp_linesR1 {n : Int} : S_lines_Right_1 n = some (!lineBQ n, ()) := u_lines_Right_1 (N := 0) (by
  by_cases h : n < 0
  · simp [M_lines_Right_1, lineBQ, h, show ¬0 ≤ n by omega]
  · by_cases h2 : 65535 < n
    · simp [M_lines_Right_1, lineBQ, h, h2, show ¬n ≤ 65535 by omega]
    · simp [M_lines_Right_1, lineBQ, h, h2, show 0 ≤ n by omega, show n ≤ 65535 by omega])
def linesB (l : List Int) : Bool := decide (l.length ≤ 2000) && l.all lineBQ
theorem sp_linesRight {l : List Int} (hl : l.length ≤ 1000000000000000000) : S_lines_Right l = some (linesB l, ()) := by
  refine u_lines_Right (N := l.length + 1) ?_
  simp [M_lines_Right]
  by_cases h : (l.length : Int) ≤ 2000
  · rw [if_pos h]
    refine (iter_all (p := lineBQ) (bad := some (false, ())) (fin := some (true, ())) (by omega) hl ?_ ?_).trans ?_
    · intro k again hk
      simp [hk, bnd_get hk, cnd_b]
    · intro again
      simp
    · cases ha : l.all lineBQ <;> simp [linesB, show l.length ≤ 2000 by omega, ha]
  · simp [linesB, h, show ¬l.length ≤ 2000 by omega]
def mapsB (l : List St) (n : Nat) : Bool := decide (l.length ≤ 2000) && l.all fun s => belowB s n
def bareB (nodes : List Nd) (at' : List Int) (live : List St) : Bool := decide (nodes.length = 0 ∧ at'.length = 0 ∧ live.length = 0)
section
variable {name : List UInt8} {inner : Bool} {outer params results locals lines at' : List Int} {code : List (Int × Int)} {nodes : List Nd} {live : List St}
@[simp] theorem sp_Bare : S_fnc_Bare name inner outer params results locals code lines nodes at' live = some (bareB nodes at' live, ()) := u_fnc_Bare (N := 0) (by
  by_cases h1 : nodes.length = 0 <;> by_cases h2 : at'.length = 0 <;> simp [M_fnc_Bare, bareB, h1, h2, show ∀ n : Nat, (n : Int) = 0 ↔ n = 0 from fun n => by omega])
/-- A place's node. -/
def atB (n : Nat) (v : Int) : Bool := decide (0 ≤ v ∧ v < n)
def tablesB (code : List (Int × Int)) (nodes : List Nd) (at' : List Int) (live : List St) (k : Nat) : Bool :=
  bareB nodes at' live || (rightT nodes && decide (at'.length = code.length) && decide (live.length = code.length) && at'.all (atB nodes.length) && mapsB live k)
@[simp] theorem sp_tables1 {n : Int} : S_fnc_tables_1 name inner outer params results locals code lines nodes at' live n = some (name, inner, outer, params, results, locals, code, lines, nodes, at', live, !atB nodes.length n, ()) := u_fnc_tables_1 (N := 0) (by
  by_cases h : n < 0
  · simp [M_fnc_tables_1, atB, h, show ¬0 ≤ n by omega]
  · by_cases h2 : (nodes.length : Int) ≤ n
    · simp [M_fnc_tables_1, atB, h, h2, show ¬n < nodes.length by omega]
    · simp [M_fnc_tables_1, atB, h, h2, show 0 ≤ n by omega, show n < nodes.length by omega])


/-- Lists are no longer than there is room for. -/
def LenF (outer params results locals : List Int) (code : List (Int × Int)) (lines : List Int) (nodes : List Nd) (at' : List Int) (live : List St) : Prop :=
  outer.length ≤ 1000000000 ∧ params.length ≤ 1000000000 ∧ results.length ≤ 1000000000 ∧ locals.length ≤ 1000000000 ∧ code.length ≤ 1000000000 ∧ lines.length ≤ 1000000000 ∧ nodes.length ≤ 1000000000 ∧ at'.length ≤ 1000000000 ∧ live.length ≤ 1000000000
theorem sp_tables (hbr : bareB nodes at' live = true) : S_fnc_tables name inner outer params results locals code lines nodes at' live = some (tablesB code nodes at' live (params.length + results.length + locals.length), ()) := by
  refine u_fnc_tables (N := 0) ?_
  simp [M_fnc_tables, tablesB, hbr]
def typesBQ (inner : Bool) (outer params results locals : List Int) : Bool := sigBQ params 8 && sigBQ results 4 && sigBQ locals 256 && sigBQ outer 4 && (inner || decide (outer.length = 0))
theorem typesB_len {inner : Bool} {outer params results locals : List Int} (h : typesBQ inner outer params results locals = true) : params.length ≤ 8 ∧ results.length ≤ 4 ∧ locals.length ≤ 256 ∧ outer.length ≤ 4 := by
  simp only [typesBQ, sigBQ, Bool.and_eq_true, decide_eq_true_eq] at h
  omega
theorem sp_types (h1 : outer.length ≤ 1000000000) (h2 : params.length ≤ 1000000000) (h3 : results.length ≤ 1000000000) (h4 : locals.length ≤ 1000000000) : S_fnc_types name inner outer params results locals code lines nodes at' live = some (typesBQ inner outer params results locals, ()) := by
  refine u_fnc_types (N := 0) ?_
  simp [M_fnc_types, typesBQ, sp_sigRight (l := outer) (by omega), sp_sigRight (l := params) (by omega), sp_sigRight (l := results) (by omega), sp_sigRight (l := locals) (by omega)]
  cases sigBQ params 8 <;> cases sigBQ results 4 <;> cases sigBQ locals 256 <;> cases sigBQ outer 4 <;> cases inner <;> simp [show ((outer.length : Int) = 0) ↔ outer.length = 0 by omega]
/-- Why a function can't be laid. -/
def canE (name : List UInt8) (inner : Bool) (outer params results locals : List Int) (code : List (Int × Int)) (lines : List Int) (nodes : List Nd) (at' : List Int) (live : List St) : Int :=
  if mayB name = false then 7 else if typesBQ inner outer params results locals = false then 9 else
  if 256 < params.length + results.length + locals.length ∨ code.length < 1 ∨ 2000 < code.length then 6 else
  if code.all (fun p => rightN p.1 p.2) = false then 8 else if lines.length ≠ code.length ∨ linesB lines = false then 19 else
  if tablesB code nodes at' live (params.length + results.length + locals.length) = false then 14 else 0
@[simp] theorem sp_Can1 {a b : Int} : S_fnc_Can_1 a b = some (!rightN a b, ()) := u_fnc_Can_1 (N := 0) (by simp [M_fnc_Can_1, sp_iRight])
theorem sp_Can (hbr : bareB nodes at' live = true) (hn : Len name) (h : LenF outer params results locals code lines nodes at' live) (h7 : nodes.length ≤ 1000000) : S_fnc_Can name inner outer params results locals code lines nodes at' live = some (canE name inner outer params results locals code lines nodes at' live, ()) := by
  obtain ⟨g1, g2, g3, g4, g5, g6, g7, g8, g9⟩ := h
  refine u_fnc_Can (N := code.length + 1) ?_
  unfold canE
  simp [M_fnc_Can, sp_May hn, sp_types g1 g2 g3 g4]
  cases h1 : mayB name with
  | false => simp
  | true =>
    cases h2 : typesBQ inner outer params results locals with
    | false => simp
    | true =>
      obtain ⟨b1, b2, b3, b4⟩ := typesB_len h2
      simp [sp_many (a := name) (b := inner) (c := outer) (d := params) (e := results) (f := locals) (g := code) (h := lines) (i := nodes) (j := at') (k := live) (by omega) (by omega) (by omega)]
      by_cases h3 : 256 < params.length + results.length + locals.length
      · simp [h3, show (256 : Int) < (params.length : Int) + results.length + locals.length by omega]
      · simp only [h3, show ¬(256 : Int) < (params.length : Int) + results.length + locals.length by omega, if_false, false_or]
        by_cases h4 : code.length < 1
        · simp [show code = [] from List.eq_nil_of_length_eq_zero (by omega)]
        · have hc : code ≠ [] := fun e => by subst e; simp at h4
          by_cases h5 : 2000 < code.length
          · simp [hc, h5, show ¬(code.length : Int) < 1 by omega, show (2000 : Int) < code.length by omega]
          · simp [hc, h5, show ¬(code.length : Int) < 1 by omega, show ¬(2000 : Int) < code.length by omega]
            refine (iter_all (l := code) (p := fun p => rightN p.1 p.2) (bad := some (8, ())) (fin := some (if ¬lines.length = code.length ∨ linesB lines = false then 19 else if tablesB code nodes at' live (params.length + results.length + locals.length) = false then 14 else 0, ())) (by omega) (by omega) ?_ ?_).trans ?_
            · intro k again hk
              simp [hk, bnd_get hk, cnd_b]
            · intro again
              have e6 : ((lines.length : Int) = code.length) ↔ lines.length = code.length := by omega
              simp [e6, sp_linesRight (l := lines) (by omega), sp_tables (name := name) (inner := inner) (outer := outer) (params := params) (results := results) (locals := locals) (lines := lines) (code := code) hbr]
              by_cases h6 : lines.length = code.length <;> cases h7 : linesB lines <;> cases h8 : tablesB code nodes at' live (params.length + results.length + locals.length) <;> simp [h6]
            · cases ha : code.all fun p => rightN p.1 p.2 <;> simp
end
section
variable {α : Type} [DecidableEq α]
end
@[simp] theorem vset_encQ {τ : Ty} {l : List (Data τ)} {i : Nat} {x : Data τ} : vset (encL τ l) i (enc τ x) = encL τ (l.set i x) := by simp only [vset, encL, mapE, List.map_set]
section
variable {name : List UInt8} {inner : Bool} {outer params results locals lines at' : List Int} {code : List (Int × Int)} {nodes : List Nd} {live : List St}
/-- What can be laid. -/
def CanF (name : List UInt8) (inner : Bool) (outer params results locals : List Int) (code : List (Int × Int)) (lines : List Int) (nodes : List Nd) (at' : List Int) (live : List St) : Prop :=
  mayB name = true ∧ typesBQ inner outer params results locals = true ∧ params.length + results.length + locals.length ≤ 256 ∧ 1 ≤ code.length ∧ code.length ≤ 2000 ∧ (code.all fun p => rightN p.1 p.2) = true ∧ lines.length = code.length ∧ linesB lines = true ∧ tablesB code nodes at' live (params.length + results.length + locals.length) = true
theorem canE_iff : canE name inner outer params results locals code lines nodes at' live = 0 ↔ CanF name inner outer params results locals code lines nodes at' live := by
  unfold canE CanF
  cases mayB name with
  | false => simp
  | true =>
    cases typesBQ inner outer params results locals with
    | false => simp
    | true =>
      by_cases h1 : 256 < params.length + results.length + locals.length ∨ code.length < 1 ∨ 2000 < code.length
      · simp only [Bool.true_eq_false, if_false, if_pos h1, true_and]
        constructor
        · intro h; cases h
        · intro h; omega
      · simp only [Bool.true_eq_false, if_false, if_neg h1, true_and]
        cases code.all fun p => rightN p.1 p.2 with
        | false => simp
        | true =>
          by_cases h2 : lines.length ≠ code.length ∨ linesB lines = false
          · simp only [Bool.true_eq_false, if_false, if_pos h2, true_and]
            constructor
            · intro h; cases h
            · intro h
              rcases h2 with h2 | h2
              · exact absurd h.2.2.2.1 h2
              · rw [h2] at h; simp at h
          · simp only [Bool.true_eq_false, if_false, if_neg h2, true_and]
            have h3 : lines.length = code.length := Decidable.byContradiction fun h => h2 (.inl h)
            have h4 : linesB lines = true := by
              cases hl : linesB lines with
              | true => rfl
              | false => exact absurd (.inr hl) h2
            cases tablesB code nodes at' live (params.length + results.length + locals.length) with
            | false => simp
            | true => simp [h3, h4]; omega
theorem CanF.len (h : CanF name inner outer params results locals code lines nodes at' live) : name.length ≤ 12 ∧ outer.length ≤ 4 ∧ params.length + results.length + locals.length ≤ 256 ∧ code.length ≤ 2000 ∧ lines.length ≤ 2000 ∧ nodes.length ≤ 120 ∧ at'.length ≤ 2000 ∧ live.length ≤ 2000 := by
  obtain ⟨h1, h2, h3, h4, h5, h6, h7, h8, h9⟩ := h
  obtain ⟨t1, t2, t3, t4⟩ := typesB_len h2
  have hn : name.length ≤ 12 := by
    cases name with
    | nil => simp
    | cons x l =>
      simp only [mayB, Bool.and_eq_true, decide_eq_true_eq] at h1
      simp
      omega
  refine ⟨hn, t4, h3, h5, by omega, ?_⟩
  simp only [tablesB, Bool.or_eq_true, Bool.and_eq_true, decide_eq_true_eq, bareB, rightT] at h9
  omega
end
theorem sp_called {fs : List Fn} (hl : fs.length ≤ 1000000) : S_file_called fs = some (fs.map (·.1), ()) := by
  refine u_file_called (N := fs.length + 1) ?_
  simp [M_file_called]
  refine iter_to (fun d => fs.length - d.2.2.1.toNat) (fun d => ∃ k : Nat, d = ((fs.take k).map (·.1), fs, (k : Int), ()) ∧ k ≤ fs.length) ?_ _ _ ⟨0, by simp, Nat.zero_le _⟩ (by simp)
  rintro _ again ⟨k, rfl, hk⟩ ih
  by_cases h : k < fs.length
  · have hw : wrp .i64 ((k : Int) + 1) = (k : Int) + 1 := wi64 (by omega) (by omega)
    have hr := room_t (a := k) (b := 1) (c := 16) (by omega) (by omega)
    have hm : min k fs.length = k := by omega
    have := ih ((fs.take (k + 1)).map (·.1), fs, (k : Int) + 1, ()) ⟨k + 1, rfl, h⟩ (by simp; omega)
    have e : (fs.take k).map (·.1) ++ [fs[k].1] = (fs.take (k + 1)).map (·.1) := by rw [List.take_succ_eq_append_getElem h, List.map_append]; rfl
    rw [← e] at this
    simpa [h, bnd_get h, hw, hr, hm] using this
  · have : k = fs.length := by omega
    subst this
    simp
def canV (f : Fn) : Int := canE f.1 f.2.1 f.2.2.1 f.2.2.2.1 f.2.2.2.2.1 f.2.2.2.2.2.1 f.2.2.2.2.2.2.1 f.2.2.2.2.2.2.2.1 f.2.2.2.2.2.2.2.2.1 f.2.2.2.2.2.2.2.2.2.1 f.2.2.2.2.2.2.2.2.2.2
def CanV (f : Fn) : Prop := CanF f.1 f.2.1 f.2.2.1 f.2.2.2.1 f.2.2.2.2.1 f.2.2.2.2.2.1 f.2.2.2.2.2.2.1 f.2.2.2.2.2.2.2.1 f.2.2.2.2.2.2.2.2.1 f.2.2.2.2.2.2.2.2.2.1 f.2.2.2.2.2.2.2.2.2.2
def LenV (f : Fn) : Prop := Len f.1 ∧ LenF f.2.2.1 f.2.2.2.1 f.2.2.2.2.1 f.2.2.2.2.2.1 f.2.2.2.2.2.2.1 f.2.2.2.2.2.2.2.1 f.2.2.2.2.2.2.2.2.1 f.2.2.2.2.2.2.2.2.2.1 f.2.2.2.2.2.2.2.2.2.2 ∧ f.2.2.2.2.2.2.2.2.1.length ≤ 1000000
theorem canV_iff {f : Fn} : canV f = 0 ↔ CanV f := canE_iff
def firstE : List Fn → Int
  | [] => 0
  | f :: l => if canV f = 0 then firstE l else canV f
theorem firstE_zero : ∀ {fs : List Fn}, firstE fs = 0 ↔ ∀ f ∈ fs, CanV f
  | [] => by simp [firstE]
  | f :: l => by
    rw [firstE]
    by_cases h : canV f = 0
    · rw [if_pos h, firstE_zero]; simp [canV_iff.1 h]
    · rw [if_neg h]; simp only [h, List.mem_cons, forall_eq_or_imp, false_iff]; exact fun h2 => h (canV_iff.2 h2.1)
/-- What file.Can answers. -/
def canP (fs : List Fn) : Int :=
  if fs.length < 1 ∨ 40 < fs.length then 6 else if firstE fs = 0 then (if (fs.map (·.1)).Nodup then 0 else 7) else firstE fs
theorem sp_fileCan {fs : List Fn} (hbr : ∀ f ∈ fs, bareB f.2.2.2.2.2.2.2.2.1 f.2.2.2.2.2.2.2.2.2.1 f.2.2.2.2.2.2.2.2.2.2 = true) (hl : ∀ f ∈ fs, LenV f) (hn : fs.length ≤ 1000000) : S_file_Can fs = some (canP fs, ()) := by
  refine u_file_Can (N := fs.length + 1) ?_
  by_cases h1 : fs.length < 1
  · have h2 : (fs.length : Int) < 1 := by omega
    simp [M_file_Can, canP, h1, h2]
  have h2 : ¬(fs.length : Int) < 1 := by omega
  by_cases h3 : 40 < fs.length
  · have h4 : (40 : Int) < (fs.length : Int) := by omega
    simp [M_file_Can, canP, h1, h2, h3, h4]
  have h4 : ¬(40 : Int) < (fs.length : Int) := by omega
  simp [M_file_Can, canP, h1, h2, h3, h4]
  refine iter_to (fun d => fs.length - d.2.1.toNat) (fun d => ∃ k : Nat, d = (fs, (k : Int), ()) ∧ k ≤ fs.length ∧ firstE fs = firstE (fs.drop k)) ?_ _ _ ⟨0, by simp, Nat.zero_le _, rfl⟩ (by simp)
  rintro _ again ⟨k, rfl, hk, hf⟩ ih
  by_cases h : k < fs.length
  · have hw : wrp .i64 ((k : Int) + 1) = (k : Int) + 1 := wi64 (by omega) (by omega)
    obtain ⟨g1, g2, g3⟩ := hl fs[k] (List.getElem_mem h)
    have hC := sp_Can (inner := fs[k].2.1) (hbr fs[k] (List.getElem_mem h)) g1 g2 g3
    have hd : fs.drop k = fs[k] :: fs.drop (k + 1) := List.drop_eq_getElem_cons h
    rw [hd, firstE] at hf
    by_cases hz : canV fs[k] = 0
    · rw [if_pos hz] at hf
      have hz2 : canE fs[k].1 fs[k].2.1 fs[k].2.2.1 fs[k].2.2.2.1 fs[k].2.2.2.2.1 fs[k].2.2.2.2.2.1 fs[k].2.2.2.2.2.2.1 fs[k].2.2.2.2.2.2.2.1 fs[k].2.2.2.2.2.2.2.2.1 fs[k].2.2.2.2.2.2.2.2.2.1 fs[k].2.2.2.2.2.2.2.2.2.2 = 0 := hz
      rw [hz2] at hC
      have := ih (fs, (k : Int) + 1, ()) ⟨k + 1, rfl, h, hf⟩ (by simp; omega)
      simpa [h, bnd_get h, hw, hC] using this
    · rw [if_neg hz] at hf
      have hz2 : ¬canE fs[k].1 fs[k].2.1 fs[k].2.2.1 fs[k].2.2.2.1 fs[k].2.2.2.2.1 fs[k].2.2.2.2.2.1 fs[k].2.2.2.2.2.2.1 fs[k].2.2.2.2.2.2.2.1 fs[k].2.2.2.2.2.2.2.2.1 fs[k].2.2.2.2.2.2.2.2.2.1 fs[k].2.2.2.2.2.2.2.2.2.2 = 0 := hz
      have hf2 : ¬firstE fs = 0 := by rw [hf]; exact hz
      rw [if_neg hf2, hf]
      simp [h, bnd_get h, hC, hz2]
      rfl
  · have : k = fs.length := by omega
    subst this
    have hf0 : firstE fs = 0 := by rw [hf]; simp [firstE]
    have hcan := firstE_zero.1 hf0
    have hU : S_names_Unlike (fs.map (·.1)) = some (decide (fs.map (·.1)).Nodup, ()) := by
      unfold S_names_Unlike
      rw [show (leN (fs.map (·.1)).length 1000000 && (fs.map (·.1)).all fun s => decide (s.length ≤ 1000000)) = true from by
        rw [Bool.and_eq_true]
        refine ⟨decide_eq_true (by rw [List.length_map]; exact hn), List.all_eq_true.2 fun s h => decide_eq_true ?_⟩
        obtain ⟨f, hf1, rfl⟩ := List.mem_map.1 h
        have := (CanF.len (hcan f hf1)).1
        omega]
      rfl
    by_cases hnd : (fs.map (·.1)).Nodup <;> simp [sp_called hn, hU, hf0, hnd]
end Go.Proofs.YtkdnbnkbnegckaaGreatDoor
