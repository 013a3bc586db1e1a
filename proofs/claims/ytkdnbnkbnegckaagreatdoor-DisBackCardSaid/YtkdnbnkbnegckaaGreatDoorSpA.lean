/- Whether functions, and programs, can be laid: what the lifted functions come to. -/
import Derived.Test.YtkdnbnkbnegckaaGreatDoorAc
import Derived.Test.YtkdnbnkbnegckaaGreatDoorDaS
namespace Go.Proofs.YtkdnbnkbnegckaaGreatDoor
open Go.RowKit
set_option maxRecDepth 20000
set_option linter.unusedVariables false
abbrev Len (l : List UInt8) : Prop := l.length ≤ 140737488351232
def firstB (x : UInt8) : Bool := decide (97 ≤ u8I x ∧ u8I x ≤ 122)
def otherB (x : UInt8) : Bool := firstB x || decide (48 ≤ u8I x ∧ u8I x ≤ 57) || decide (u8I x = 95)
def mayB : List UInt8 → Bool
  | [] => false
  | x :: l => decide (l.length < 12) && firstB x && (x :: l).all otherB
@[simp] theorem sp_first {x : UInt8} : S_names_first x = some (firstB x, ()) := u_names_first (N := 0) (by
  by_cases h : 97 ≤ u8I x <;> simp [M_names_first, firstB, h])
@[simp] theorem sp_other {x : UInt8} : S_names_other x = some (otherB x, ()) := u_names_other (N := 0) (by
  cases h : firstB x <;> by_cases h1 : 48 ≤ u8I x <;> by_cases h2 : u8I x ≤ 57 <;> simp [M_names_other, otherB, cnd_b, h, h1, h2])
theorem all_drop {l : List UInt8} {p : UInt8 → Bool} {k : Nat} (h : k < l.length) : (l.drop k).all p = (p l[k] && (l.drop (k + 1)).all p) := by
  rw [List.drop_eq_getElem_cons h, List.all_cons]
theorem sp_May {l : List UInt8} (hl : Len l) : S_names_May l = some (mayB l, ()) := by
  refine u_names_May (N := l.length + 1) ?_
  cases l with
  | nil => simp [M_names_May, mayB]
  | cons x l =>
    simp [M_names_May, mayB]
    by_cases h1 : l.length < 12
    · rw [if_neg (by omega)]
      cases h2 : firstB x with
      | false => simp [cnd_b, h2]
      | true =>
        have hall : (otherB x && l.all otherB) = (x :: l).all otherB := rfl
        simp [cnd_b, h1]
        rw [hall]
        refine iter_to (fun d => (x :: l).length - d.1.toNat) (fun d => ∃ k : Nat, d = ((k : Int), ()) ∧ k ≤ (x :: l).length ∧ (x :: l).all otherB = ((x :: l).drop k).all otherB) ?_ _ _ ⟨0, rfl, Nat.zero_le _, rfl⟩ (by simp)
        rintro _ again ⟨k, rfl, h3, h4⟩ ih
        rw [h4] at ih ⊢
        by_cases hk : k < (x :: l).length
        · rw [all_drop hk]
          have hk2 : (k : Int) < l.length + 1 := by simp at hk; omega
          simp [hk2, bnd_get hk]
          cases h5 : otherB (x :: l)[k] with
          | false => simp
          | true =>
            rw [wi64 (by omega) (by unfold Len at hl; simp at hl; omega)]
            have := ih ((k : Int) + 1, ()) ⟨k + 1, rfl, hk, by rw [all_drop hk, h5]; rfl⟩ (by simp at hk ⊢; omega)
            rw [all_drop hk, h5] at this
            simpa using this
        · have hk2 : ¬(k : Int) < l.length + 1 := by simp at hk; omega
          simp [hk2, List.drop_eq_nil_of_le (Nat.le_of_not_lt hk)]
    · rw [if_pos (by omega)]
      simp [h1]
def headBQ : List UInt8 → Bool
  | [] => true
  | x :: l => firstB x && l.all otherB
theorem sp_rMay {l : List UInt8} (hl : Len l) : S_ref05_May l = some (mayB l, ()) := by
  refine u_ref05_May (N := l.length + 1) ?_
  simp [M_ref05_May]
  have h0 : mayB l = (decide (1 ≤ l.length ∧ l.length ≤ 12) && (if 0 = 0 then headBQ l else (l.drop 0).all otherB)) := by
    cases l with
    | nil => rfl
    | cons x l => cases h : firstB x <;> simp [mayB, headBQ, h, otherB, show l.length < 12 ↔ l.length + 1 ≤ 12 by omega]
  refine iter_to (fun d => l.length - d.1.toNat) (fun d => ∃ k : Nat, d = ((k : Int), ()) ∧ k ≤ l.length ∧ mayB l = (decide (1 ≤ l.length ∧ l.length ≤ 12) && (if k = 0 then headBQ l else (l.drop k).all otherB))) ?_ _ _ ⟨0, rfl, Nat.zero_le _, h0⟩ (by simp)
  rintro _ again ⟨k, rfl, h3, h4⟩ ih
  by_cases hk : k < l.length
  · simp [hk, bnd_get hk]
    rw [wi64 (by omega) (by unfold Len at hl; omega)]
    have hgood : (if k = 0 then firstB l[k] else otherB l[k]) = true → again ((k : Int) + 1, ()) = some (mayB l, ()) := fun hg => by
      refine ih _ ⟨k + 1, rfl, hk, ?_⟩ (by simp; omega)
      rw [h4]
      congr 1
      by_cases h0 : k = 0
      · subst h0
        cases l with
        | nil => simp at hk
        | cons x l =>
          simp at hg
          simp [headBQ, hg]
      · rw [if_neg h0] at hg ⊢
        rw [if_neg (by omega), all_drop hk, hg]; rfl
    have hbad : (if k = 0 then firstB l[k] else otherB l[k]) = false → mayB l = false := fun hg => by
      rw [h4]
      by_cases h0 : k = 0
      · subst h0
        cases l with
        | nil => simp at hk
        | cons x l =>
          simp at hg
          simp [headBQ, hg]
      · rw [if_neg h0] at hg ⊢
        rw [all_drop hk, hg]; simp
    have hP : (if k = 0 then firstB l[k] else otherB l[k]) = true ↔ (97 ≤ u8I l[k] ∧ u8I l[k] ≤ 122) ∨ (k ≠ 0 ∧ (48 ≤ u8I l[k] ∧ u8I l[k] ≤ 57 ∨ u8I l[k] = 95)) := by
      by_cases h0 : k = 0 <;> simp [h0, firstB, otherB]
      omega
    generalize (if k = 0 then firstB l[k] else otherB l[k]) = g at *
    generalize hu : u8I l[k] = u at *
    cases g with
    | true =>
      rw [hgood rfl]
      have := hP.1 rfl
      simp only [joinK_if, joinK_l, joinK_r]
      repeat' split
      all_goals first | rfl | (exfalso; omega)
    | false =>
      rw [hbad rfl]
      have : ¬_ := fun h => Bool.noConfusion (hP.2 h)
      simp only [joinK_if, joinK_l, joinK_r]
      repeat' split
      all_goals first | rfl | (exfalso; omega)
  · have : k = l.length := by omega
    subst this
    rw [h4]
    simp
    cases l with
    | nil => simp
    | cons x l => simp; rw [if_pos (by omega)]; simp; omega
@[simp] theorem sp_sigMay {n : Int} : S_sig_May n = some (decide (n = 1) || decide (n = 2), ()) := u_sig_May (N := 0) (by by_cases h : n = 1 <;> simp [M_sig_May, h])
/-- The kind of an instruction's number, and how great it may be. -/
def kindN (n : Int) : Int := if n = 1 then 1 else if n = 2 ∨ n = 3 then 2 else if n = 21 ∨ n = 22 then 3 else if n = 23 ∨ n = 24 then 4 else if n = 28 ∨ n = 29 then 5 else if n = 33 ∨ n = 34 then 6 else 0
def mostN (k : Int) : Int := if k = 2 then 255 else if k = 3 then 1999 else if k = 4 then 39 else if k = 5 then 3 else if k = 6 then 119 else 0
def rightN (n a : Int) : Bool := decide (0 ≤ n ∧ n < 35 ∧ (kindN n = 1 ∨ 0 ≤ a ∧ a ≤ mostN (kindN n)))
theorem kindN_le (n : Int) : 0 ≤ kindN n ∧ kindN n ≤ 6 := by
  unfold kindN
  repeat' split
  all_goals omega
theorem sp_rOperand {n : Int} : S_ref09_Operand n = some (kindN n, ()) := by
  refine u_ref09_Operand (N := 0) ?_
  simp [M_ref09_Operand]
  unfold kindN
  by_cases h1 : n = 1
  · simp [h1]
  · by_cases h2 : n = 2 ∨ n = 3
    · rcases h2 with rfl | rfl <;> simp
    · by_cases h3 : n = 21 ∨ n = 22
      · rcases h3 with rfl | rfl <;> simp
      · by_cases h4 : n = 23 ∨ n = 24
        · rcases h4 with rfl | rfl <;> simp
        · by_cases h5 : n = 28 ∨ n = 29
          · rcases h5 with rfl | rfl <;> simp
          · by_cases h6 : n = 33 ∨ n = 34
            · rcases h6 with rfl | rfl <;> simp
            · have : ¬n = 2 ∧ ¬n = 3 ∧ ¬n = 21 ∧ ¬n = 22 ∧ ¬n = 23 ∧ ¬n = 24 ∧ ¬n = 28 ∧ ¬n = 29 ∧ ¬n = 33 ∧ ¬n = 34 := by omega
              simp [h1, this]
@[simp] theorem sp_opsIs {n : Int} : S_ops_is n = some (decide (0 ≤ n ∧ n < 35), ()) := by
  refine u_ops_is (N := 0) ?_
  by_cases h : 0 ≤ n <;> simp [M_ops_is, h]
theorem sp_Operand {n : Int} : S_ops_Operand n = some (kindN n, ()) := by
  refine u_ops_Operand (N := 0) ?_
  by_cases h : 0 ≤ n ∧ n < 35
  · have : n = 0 ∨ n = 1 ∨ n = 2 ∨ n = 3 ∨ n = 4 ∨ n = 5 ∨ n = 6 ∨ n = 7 ∨ n = 8 ∨ n = 9 ∨ n = 10 ∨ n = 11 ∨ n = 12 ∨ n = 13 ∨ n = 14 ∨ n = 15 ∨ n = 16 ∨ n = 17 ∨ n = 18 ∨ n = 19 ∨ n = 20 ∨ n = 21 ∨ n = 22 ∨ n = 23 ∨ n = 24 ∨ n = 25 ∨ n = 26 ∨ n = 27 ∨ n = 28 ∨ n = 29 ∨ n = 30 ∨ n = 31 ∨ n = 32 ∨ n = 33 ∨ n = 34 := by omega
    rcases this with rfl | rfl | rfl | rfl | rfl | rfl | rfl | rfl | rfl | rfl | rfl | rfl | rfl | rfl | rfl | rfl | rfl | rfl | rfl | rfl | rfl | rfl | rfl | rfl | rfl | rfl | rfl | rfl | rfl | rfl | rfl | rfl | rfl | rfl | rfl <;> simp [M_ops_Operand, kindN]
  · have h2 : kindN n = 0 := by
      unfold kindN
      repeat' split
      all_goals first | rfl | (exfalso; omega)
    by_cases h3 : 0 ≤ n
    · have h4 : ¬n < 35 := fun h4 => h ⟨h3, h4⟩
      simp [M_ops_Operand, h2, h3, h4]
    · simp [M_ops_Operand, h2, h3]
theorem sp_most {n : Int} : S__instr_operand_most n = some (mostN n, ()) := by
  refine u__instr_operand_most (N := 0) ?_
  simp [M__instr_operand_most]
  unfold mostN
  repeat' split
  all_goals first | rfl | (exfalso; omega)
theorem sp_imay {n a : Int} : S__instr_operand_may n a = some (decide (n = 1 ∨ 0 ≤ a ∧ a ≤ mostN n), ()) := by
  refine u__instr_operand_may (N := 0) ?_
  by_cases h1 : n = 1 <;> by_cases h2 : 0 ≤ a <;> simp [M__instr_operand_may, sp_most, h1, h2]
theorem sp_iRight {n a : Int} : S_instr_Right n a = some (rightN n a, ()) := by
  refine u_instr_Right (N := 0) ?_
  unfold rightN
  by_cases h1 : 0 ≤ n <;> by_cases h2 : n < 35 <;> simp [M_instr_Right, sp_Operand, sp_imay, h1, h2]
theorem sp_rmost {n : Int} (h0 : 0 ≤ n) (h6 : n ≤ 6) : S_ref10_most n = some (mostN n, ()) := by
  refine u_ref10_most (N := 0) ?_
  have : n = 0 ∨ n = 1 ∨ n = 2 ∨ n = 3 ∨ n = 4 ∨ n = 5 ∨ n = 6 := by omega
  rcases this with rfl | rfl | rfl | rfl | rfl | rfl | rfl <;> simp [M_ref10_most, mostN]
theorem sp_rRight {n a : Int} : S_ref10_Right n a = some (rightN n a, ()) := by
  refine u_ref10_Right (N := 0) ?_
  obtain ⟨k1, k2⟩ := kindN_le n
  unfold rightN
  by_cases h1 : n < 0
  · simp [M_ref10_Right, h1]; omega
  · by_cases h2 : 35 ≤ n
    · simp [M_ref10_Right, h1, h2]; omega
    · have h3 : 0 ≤ n := by omega
      have h4 : n < 35 := by omega
      by_cases h5 : kindN n = 1
      · simp [M_ref10_Right, sp_rOperand, h1, h2, h3, h4, h5]
      · by_cases h6 : 0 ≤ a <;> simp [M_ref10_Right, sp_rOperand, sp_rmost k1 k2, h1, h2, h3, h4, h5, h6]
def nodeB (p : Nd) (i tz : Int) : Bool := decide (0 ≤ p.2.1 ∧ p.2.1 ≤ 39 ∧ 0 ≤ p.2.2.1 ∧ p.2.2.1 ≤ 65535 ∧ 0 ≤ p.2.2.2.2.1 ∧ p.2.2.2.2.1 ≤ 8 ∧ tz ≤ p.2.2.2.1 ∧ p.2.2.2.1 ≤ 256 ∧ p.2.2.2.1 + p.2.2.2.2.1 ≤ p.2.2.2.2.2.1 ∧ p.2.2.2.2.2.1 ≤ 256 ∧
  (if i = 0 then p.1 = -1 ∧ p.2.2.1 = 0 ∧ p.2.2.2.1 = 0 ∧ p.2.2.2.2.2.2 = 0 else 0 ≤ p.1 ∧ p.1 < i ∧ 1 ≤ p.2.2.2.2.2.2 ∧ p.2.2.2.2.2.2 ≤ 1999))
def treeB : Int → Int → List Nd → Bool
  | _, _, [] => true
  | i, tz, p :: l => nodeB p i tz && treeB (i + 1) p.2.2.2.2.2.1 l
def rightT (l : List Nd) : Bool := decide (1 ≤ l.length ∧ l.length ≤ 120) && treeB 0 0 l
@[simp] theorem sp_within {a b c : Int} : S_tree_within a b c = some (decide (b ≤ a) && decide (a ≤ c), ()) := by
  refine u_tree_within (N := 0) ?_
  by_cases h : b ≤ a <;> simp [M_tree_within, h]
section
variable {α : Type} {p q : Prop} [Decidable p] [Decidable q] {F X : α}
theorem ite_m1 : (if p then F else if q then F else X) = if p ∨ q then F else X := by by_cases h : p <;> by_cases h2 : q <;> simp [h, h2]
theorem ite_m2 : (if p then (if q then X else F) else F) = if p ∧ q then X else F := by by_cases h : p <;> by_cases h2 : q <;> simp [h, h2]
theorem ite_m3 : (if p then F else if q then X else F) = if ¬p ∧ q then X else F := by by_cases h : p <;> by_cases h2 : q <;> simp [h, h2]
end
theorem treeB_drop {l : List Nd} {k : Nat} {i tz : Int} (h : k < l.length) : treeB i tz (l.drop k) = (nodeB l[k] i tz && treeB (i + 1) l[k].2.2.2.2.2.1 (l.drop (k + 1))) := by
  rw [List.drop_eq_getElem_cons h]; rfl
theorem sp_rRight13 {l : List Nd} : S_ref13_Right l = some (rightT l, ()) := by
  refine u_ref13_Right (N := l.length + 1) ?_
  simp [M_ref13_Right]
  by_cases h1 : l.length < 1
  · have : l = [] := List.eq_nil_of_length_eq_zero (by omega)
    subst this
    simp [rightT]
  · by_cases h2 : 120 < l.length
    · simp [rightT, show ¬(l.length : Int) < 1 by omega, show (120 : Int) < l.length by omega, show ¬l.length ≤ 120 by omega]
    · simp [show ¬(l.length : Int) < 1 by omega, show ¬(120 : Int) < l.length by omega]
      refine iter_to (fun d => l.length - d.2.1.toNat) (fun d => ∃ (k : Nat) (tz : Int), d = (tz, ((k : Int), ())) ∧ k ≤ l.length ∧ 0 ≤ tz ∧ rightT l = treeB k tz (l.drop k)) ?_ _ _ ⟨0, 0, rfl, Nat.zero_le _, Int.le_refl _, by simp [rightT]; omega⟩ (by simp)
      rintro _ again ⟨k, tz, rfl, hk, ht, hr⟩ ih
      by_cases hlt : k < l.length
      · have hw : wrp .i64 ((k : Int) + 1) = (k : Int) + 1 := wi64 (by omega) (by omega)
        rw [treeB_drop hlt] at hr
        simp [hlt, bnd_get hlt, hw]
        generalize l[k] = p at *
        obtain ⟨a, b, c, d, e, f, g⟩ := p
        have hgood : nodeB (a, b, c, d, e, f, g) k tz = true → again (f, ((k : Int) + 1, ())) = some (rightT l, ()) := fun hg => by
          have := of_decide_eq_true hg
          simp only at this
          refine ih _ ⟨k + 1, f, rfl, hlt, by omega, by rw [hr, hg]; rfl⟩ (by simp; omega)
        have hbad : nodeB (a, b, c, d, e, f, g) k tz = false → rightT l = false := fun hg => by rw [hr, hg]; rfl
        have hW : tz ≤ d ∧ d ≤ 256 ∧ d ≤ f ∧ f ≤ 256 → wrp .i64 (f - d) = f - d := fun h => wi64 (by omega) (by omega)
        simp only [joinK_if, joinK_l, joinK_r]
        generalize wrp .i64 (f - d) = W at *
        by_cases h0 : k = 0
        · subst h0
          simp only [if_true, Nat.lt_irrefl, if_false, ite_m1, ite_m2, ite_m3]
          cases hg : nodeB (a, b, c, d, e, f, g) (0 : Nat) tz with
          | true =>
            have := of_decide_eq_true hg
            simp at this
            rw [if_pos (by omega)]
            exact hgood hg
          | false =>
            have := of_decide_eq_false hg
            simp only [Int.natCast_zero, if_true] at this
            rw [if_neg (by omega), hbad hg]
        · simp only [h0, show 0 < k by omega, if_true, if_false, ite_m1]
          cases hg : nodeB (a, b, c, d, e, f, g) k tz with
          | true =>
            have := of_decide_eq_true hg
            simp only [show ¬((k : Int) = 0) by omega, if_false] at this
            rw [if_neg (by omega)]
            exact hgood hg
          | false =>
            have := of_decide_eq_false hg
            simp only [show ¬((k : Int) = 0) by omega, if_false] at this
            rw [if_pos (by omega), hbad hg]
      · have : k = l.length := by omega
        subst this
        rw [hr]
        simp [treeB]
/-- The words of the set of all slots below n. -/
def mw (n j : Nat) : Int := ((2 ^ (min (n - 64 * j) 64) - 1 : Nat) : Int)
def insideBQ (s t : St) : Bool := decide (bitI .andNot .u64 s.1 t.1 = 0 ∧ bitI .andNot .u64 s.2.1 t.2.1 = 0 ∧ bitI .andNot .u64 s.2.2.1 t.2.2.1 = 0 ∧ bitI .andNot .u64 s.2.2.2 t.2.2.2 = 0)
def belowB (s : St) (n : Nat) : Bool := insideBQ s (mw n 0, (mw n 1, (mw n 2, mw n 3)))
theorem add_step : ∀ r : Nat, r < 64 → wrp .u64 (((2 ^ r - 1 : Nat) : Int) + wrp .u64 (shlI .u64 1 (r : Int))) = ((2 ^ (r + 1) - 1 : Nat) : Int) := by decide +kernel
theorem mw_at {n j r : Nat} (h : n = 64 * j + r) (hr : r < 64) : mw n j = ((2 ^ r - 1 : Nat) : Int) ∧ mw (n + 1) j = ((2 ^ (r + 1) - 1 : Nat) : Int) := by
  subst h
  refine ⟨?_, ?_⟩
  · rw [mw, show min (64 * j + r - 64 * j) 64 = r by omega]
  · rw [mw, show min (64 * j + r + 1 - 64 * j) 64 = r + 1 by omega]
theorem mw_ne {n i j r : Nat} (h : n = 64 * j + r) (hr : r < 64) (hi : i ≠ j) : mw (n + 1) i = mw n i := by
  subst h
  rw [mw, mw]
  rcases Nat.lt_or_gt_of_ne hi with h | h
  · rw [show min (64 * j + r + 1 - 64 * i) 64 = 64 by omega, show min (64 * j + r - 64 * i) 64 = 64 by omega]
  · rw [show min (64 * j + r + 1 - 64 * i) 64 = 0 by omega, show min (64 * j + r - 64 * i) 64 = 0 by omega]
theorem sp_rrange {n : Nat} (hn : n ≤ 256) : S_ref03_Range 0 n = some (mw n 0, (mw n 1, (mw n 2, (mw n 3, ())))) := by
  refine u_ref03_Range (N := n + 1) ?_
  simp [M_ref03_Range, show maxI 0 0 = 0 from rfl, show minI (n : Int) 256 = n by simp [minI]; omega]
  refine iter_to (fun d => n - d.2.2.2.2.2.2.2.2.1.toNat) (fun d => ∃ k : Nat, d = (0, (0, (0, (0, (mw k 0, (mw k 1, (mw k 2, (mw k 3, ((k : Int), ()))))))))) ∧ k ≤ n) ?_ _ _ ⟨0, rfl, Nat.zero_le _⟩ (by simp)
  rintro _ again ⟨k, rfl, hk⟩ ih
  by_cases h : k < n
  · have hw : wrp .i64 ((k : Int) + 1) = (k : Int) + 1 := wi64 (by omega) (by omega)
    obtain ⟨j, r, hj, hr⟩ : ∃ j r, k = 64 * j + r ∧ r < 64 := ⟨k / 64, k % 64, by omega, by omega⟩
    obtain ⟨e1, e2⟩ := mw_at hj hr
    have e3 := add_step r hr
    have d1 : wrp .i64 ((k : Int) / 64) = j := by rw [show (k : Int) / 64 = j by omega]; exact wi64 (by omega) (by omega)
    have d2 : (k : Int).tmod 64 = r := by rw [Int.tmod_eq_emod_of_nonneg (by omega)]; omega
    have d3 : wrp .u64 (r : Int) = r := wu64 (by omega) (by omega)
    rw [← e1, ← e2] at e3
    have := ih (0, (0, (0, (0, (mw (k + 1) 0, (mw (k + 1) 1, (mw (k + 1) 2, (mw (k + 1) 3, ((k : Int) + 1, ()))))))))) ⟨k + 1, rfl, h⟩ (by simp; omega)
    have h4 : j = 0 ∨ j = 1 ∨ j = 2 ∨ j = 3 := by omega
    rcases h4 with rfl | rfl | rfl | rfl
    · rw [mw_ne hj hr (i := 1) (by omega), mw_ne hj hr (i := 2) (by omega), mw_ne hj hr (i := 3) (by omega)] at this
      simpa [h, d1, d2, d3, e3, hw] using this
    · rw [mw_ne hj hr (i := 0) (by omega), mw_ne hj hr (i := 2) (by omega), mw_ne hj hr (i := 3) (by omega)] at this
      simpa [h, d1, d2, d3, e3, hw] using this
    · rw [mw_ne hj hr (i := 1) (by omega), mw_ne hj hr (i := 0) (by omega), mw_ne hj hr (i := 3) (by omega)] at this
      simpa [h, d1, d2, d3, e3, hw] using this
    · rw [mw_ne hj hr (i := 1) (by omega), mw_ne hj hr (i := 2) (by omega), mw_ne hj hr (i := 0) (by omega)] at this
      simpa [h, d1, d2, d3, e3, hw] using this
  · have : k = n := by omega
    subst this
    simp
@[simp] theorem sp_sub1 {a b : Int} : S_slots_Sub_1 a b = some (bitI .andNot .u64 a b, ()) := u_slots_Sub_1 (N := 0) (by simp [M_slots_Sub_1])
@[simp] theorem sp_sub {a b c d e f g h : Int} : S_slots_Sub a b c d e f g h = some (bitI .andNot .u64 a e, (bitI .andNot .u64 b f, (bitI .andNot .u64 c g, (bitI .andNot .u64 d h, ())))) := u_slots_Sub (N := 0) (by simp [M_slots_Sub])
@[simp] theorem sp_rsub {a b c d e f g h : Int} : S_ref03_Sub a b c d e f g h = some (bitI .andNot .u64 a e, (bitI .andNot .u64 b f, (bitI .andNot .u64 c g, (bitI .andNot .u64 d h, ())))) := u_ref03_Sub (N := 0) (by simp [M_ref03_Sub])
theorem sp_rinside {a b c d e f g h : Int} : S_ref03_Inside a b c d e f g h = some (insideBQ (a, (b, (c, d))) (e, (f, (g, h))), ()) := by
  refine u_ref03_Inside (N := 0) ?_
  simp [M_ref03_Inside, eqL, insideBQ]
@[simp] theorem sp_many {a : List UInt8} {b : Bool} {c d e f : List Int} {g : List (Int × Int)} {h : List Int} {i : List Nd} {j : List Int} {k : List St} (hd : d.length ≤ 1000000) (he : e.length ≤ 1000000) (hf : f.length ≤ 1000000) : S_fnc_many a b c d e f g h i j k = some ((d.length : Int) + e.length + f.length, ()) := by
  refine u_fnc_many (N := 0) ?_
  simp [M_fnc_many, wi64 (n := (d.length : Int) + e.length) (by omega) (by omega), wi64 (n := (d.length : Int) + e.length + f.length) (by omega) (by omega)]
section
variable {name : List UInt8} {inner : Bool} {outer params results locals : List Int} {fl : UInt8}
end
open Classical in
/-- Are they the same? -/
noncomputable def eqD {α : Type} (a b : α) : Bool := decide (a = b)
@[simp] theorem eqD_s {α : Type} {a : α} : eqD a a = true := by simp [eqD]
theorem eqD_f {α : Type} {a b : α} (h : a ≠ b) : eqD a b = false := by simp [eqD, h]
theorem eqD_cons {α : Type} {a b : α} {l m : List α} : eqD (a :: l) (b :: m) = (eqD a b && eqD l m) := by
  by_cases h1 : a = b <;> by_cases h2 : l = m <;> simp [eqD, h1, h2]
theorem eqD_d {α : Type} {a b : α} [Decidable (a = b)] : eqD a b = decide (a = b) := by
  by_cases h : a = b <;> simp [eqD, h]
theorem iter_same {α : Type} {l m : List α} {f : α → α → Bool} (hf : ∀ x y, f x y = eqD x y) (hl : l.length ≤ 1000000000000000000) (hm : l.length = m.length) :
    iter (fun (d : Int × Unit) again => if d.1 < (l.length : Int) then if 0 ≤ d.1 then bnd l[d.1.toNat]? fun x => if 0 ≤ d.1 then bnd m[d.1.toNat]? fun y => cnd (f x y) (again (wrp .i64 (d.1 + 1), ())) (some (false, ())) else none else none else some (true, ())) (l.length + 1) (0, ()) = some (eqD l m, ()) := by
  refine iter_to (fun d => l.length - d.1.toNat) (fun d => ∃ k : Nat, d = ((k : Int), ()) ∧ k ≤ l.length ∧ eqD l m = eqD (l.drop k) (m.drop k)) ?_ _ _ ⟨0, rfl, Nat.zero_le _, rfl⟩ (by simp)
  rintro _ again ⟨k, rfl, hk, hr⟩ ih
  by_cases h : k < l.length
  · have h2 : k < m.length := by omega
    have hw : wrp .i64 ((k : Int) + 1) = (k : Int) + 1 := wi64 (by omega) (by omega)
    rw [List.drop_eq_getElem_cons h, List.drop_eq_getElem_cons h2, eqD_cons] at hr
    simp [h, bnd_get h, bnd_get h2, hw, hf]
    cases he : eqD l[k] m[k] with
    | true =>
      rw [he] at hr
      exact ih _ ⟨k + 1, rfl, h, by simpa using hr⟩ (by simp; omega)
    | false =>
      rw [he] at hr
      simp [hr]
  · have : k = l.length := by omega
    subst this
    rw [hr, List.drop_eq_nil_of_le (Nat.le_refl _), List.drop_eq_nil_of_le (show m.length ≤ l.length by omega)]
    simp
theorem len_ne {α : Type} {l m : List α} (h : ¬l.length = m.length) : eqD l m = false := eqD_f fun e => h (by rw [e])
theorem sp_Same11 {l m : List Int} (hl : l.length ≤ 1000000000000000000) : S_ref11_Same l m = some (eqD l m, ()) := by
  refine u_ref11_Same (N := l.length + 1) ?_
  simp [M_ref11_Same]
  by_cases h : l.length = m.length
  · have := iter_same (f := fun x y => decide (x = y)) (fun x y => (eqD_d (a := x) (b := y)).symm) hl h
    simpa [h] using this
  · simp [len_ne h, show ¬(l.length : Int) = m.length by omega]
theorem sp_Ints {l m : List Int} (hl : l.length ≤ 1000000000000000000) : S_ref04_Ints l m = some (eqD l m, ()) := by
  refine u_ref04_Ints (N := l.length + 1) ?_
  simp [M_ref04_Ints]
  by_cases h : l.length = m.length
  · have := iter_same (f := fun x y => decide (x = y)) (fun x y => (eqD_d (a := x) (b := y)).symm) hl h
    simpa [h] using this
  · simp [len_ne h, show ¬(l.length : Int) = m.length by omega]
theorem sp_Same13 {l m : List Nd} (hl : l.length ≤ 1000000000000000000) : S_ref13_Same l m = some (eqD l m, ()) := by
  refine u_ref13_Same (N := l.length + 1) ?_
  simp [M_ref13_Same]
  by_cases h : l.length = m.length
  · have := iter_same (f := fun (p q : Nd) => eqL [p.1, p.2.1, p.2.2.1, p.2.2.2.1, p.2.2.2.2.1, p.2.2.2.2.2.1, p.2.2.2.2.2.2] [q.1, q.2.1, q.2.2.1, q.2.2.2.1, q.2.2.2.2.1, q.2.2.2.2.2.1, q.2.2.2.2.2.2]) (fun p q => by
      obtain ⟨a, b, c, d, e, f, g⟩ := p
      obtain ⟨a', b', c', d', e', f', g'⟩ := q
      simp [eqL, eqD]) hl h
    simpa [h] using this
  · simp [len_ne h, show ¬(l.length : Int) = m.length by omega]
theorem sp_Same14 {l m : List St} (hl : l.length ≤ 1000000000000000000) : S_ref14_Same l m = some (eqD l m, ()) := by
  refine u_ref14_Same (N := l.length + 1) ?_
  simp [M_ref14_Same]
  by_cases h : l.length = m.length
  · have := iter_same (f := fun (p q : St) => eqL [p.1, p.2.1, p.2.2.1, p.2.2.2] [q.1, q.2.1, q.2.2.1, q.2.2.2]) (fun p q => by
      obtain ⟨a, b, c, d⟩ := p
      obtain ⟨a', b', c', d'⟩ := q
      simp [eqL, eqD]) hl h
    simpa [h] using this
  · simp [len_ne h, show ¬(l.length : Int) = m.length by omega]
theorem sp_Code {l m : List (Int × Int)} (hl : l.length ≤ 1000000000000000000) : S_ref15_Code l m = some (eqD l m, ()) := by
  refine u_ref15_Code (N := l.length + 1) ?_
  simp [M_ref15_Code]
  by_cases h : l.length = m.length
  · have := iter_same (f := fun (p q : Int × Int) => eqL [p.1, p.2] [q.1, q.2]) (fun p q => by
      obtain ⟨a, b⟩ := p
      obtain ⟨a', b'⟩ := q
      simp [eqL, eqD]) hl h
    simpa [h] using this
  · simp [len_ne h, show ¬(l.length : Int) = m.length by omega]
/-- A loop that goes on while all is well. -/
theorem iter_all {α β : Type} {l : List α} {p : α → Bool} {bad fin : Option β} {f : Int × Unit → (Int × Unit → Option β) → Option β} {N : Nat} (hN : l.length < N) (hl : l.length ≤ 1000000000000000000)
    (hf : ∀ (k : Nat) again, (hk : k < l.length) → f ((k : Int), ()) again = if p l[k] = true then again (wrp .i64 ((k : Int) + 1), ()) else bad) (he : ∀ again, f ((l.length : Int), ()) again = fin) : iter f N (0, ()) = if l.all p = true then fin else bad := by
  refine iter_to (fun d => l.length - d.1.toNat) (fun d => ∃ k : Nat, d = ((k : Int), ()) ∧ k ≤ l.length ∧ l.all p = (l.drop k).all p) ?_ _ _ ⟨0, rfl, Nat.zero_le _, rfl⟩ (by simpa using hN)
  rintro _ again ⟨k, rfl, hk, hr⟩ ih
  by_cases h : k < l.length
  · have hw : wrp .i64 ((k : Int) + 1) = (k : Int) + 1 := wi64 (by omega) (by omega)
    rw [hf k again h, hw]
    rw [List.drop_eq_getElem_cons h, List.all_cons] at hr
    cases hp : p l[k] with
    | true =>
      rw [hp] at hr
      exact (if_pos rfl).trans (ih _ ⟨k + 1, rfl, h, by simpa using hr⟩ (by simp; omega))
    | false =>
      rw [hp] at hr
      simp [hr]
  · have : k = l.length := by omega
    subst this
    rw [he, hr, List.drop_eq_nil_of_le (Nat.le_refl _)]
    simp
def typeBQ (t : Int) : Bool := decide (t = 1) || decide (t = 2)
@[simp] theorem sp_sigR1 {n : Int} : S_sig_Right_1 n = some (!typeBQ n, ()) := u_sig_Right_1 (N := 0) (by simp [M_sig_Right_1, typeBQ])
@[simp] theorem sp_rMay11 {n : Int} : S_ref11_May n = some (typeBQ n, ()) := u_ref11_May (N := 0) (by by_cases h : n = 1 <;> simp [M_ref11_May, typeBQ, h])
def sigBQ (l : List Int) (m : Int) : Bool := decide ((l.length : Int) ≤ m) && l.all typeBQ
theorem sp_sigRight {l : List Int} {m : Int} (hl : l.length ≤ 1000000000000000000) : S_sig_Right l m = some (sigBQ l m, ()) := by
  refine u_sig_Right (N := l.length + 1) ?_
  simp [M_sig_Right]
  by_cases h : (l.length : Int) ≤ m
  · rw [if_pos h]
    refine (iter_all (p := typeBQ) (bad := some (false, ())) (fin := some (true, ())) (by omega) hl ?_ ?_).trans ?_
    · intro k again hk
      simp [hk, bnd_get hk, cnd_b]
    · intro again
      simp
    · cases ha : l.all typeBQ <;> simp [sigBQ, h, ha]
  · simp [sigBQ, h]
theorem sp_rRight11 {l : List Int} {m : Int} (hl : l.length ≤ 1000000000000000000) : S_ref11_Right l m = some (sigBQ l m, ()) := by
  refine u_ref11_Right (N := l.length + 1) ?_
  simp [M_ref11_Right]
  refine (iter_all (p := typeBQ) (bad := some (false, ())) (fin := some (decide ((l.length : Int) ≤ m), ())) (by omega) hl ?_ ?_).trans ?_
  · intro k again hk
    simp [hk, bnd_get hk, cnd_b]
  · intro again
    simp
  · cases ha : l.all typeBQ <;> simp [sigBQ, ha]
def lineBQ (v : Int) : Bool := decide (0 ≤ v ∧ v ≤ 65535)
@[simp] theorem sp_linesR1 {n : Int} : S_lines_Right_1 n = some (!lineBQ n, ()) := u_lines_Right_1 (N := 0) (by
  by_cases h : n < 0
  · simp [M_lines_Right_1, lineBQ, h, show ¬0 ≤ n by omega]
  · by_cases h2 : 65535 < n
    · simp [M_lines_Right_1, lineBQ, h, h2, show ¬n ≤ 65535 by omega]
    · simp [M_lines_Right_1, lineBQ, h, h2, show 0 ≤ n by omega, show n ≤ 65535 by omega])
def linesB (l : List Int) : Bool := decide (l.length ≤ 2000) && l.all lineBQ
theorem sp_linesRight {l : List Int} (hl : l.length ≤ 1000000000000000000) : S_lines_Right l = some (linesB l, ()) := by
  refine u_lines_Right (N := l.length + 1) ?_
  simp [M_lines_Right]
  by_cases h : (l.length : Int) ≤ 2000
  · rw [if_pos h]
    refine (iter_all (p := lineBQ) (bad := some (false, ())) (fin := some (true, ())) (by omega) hl ?_ ?_).trans ?_
    · intro k again hk
      simp [hk, bnd_get hk, cnd_b]
    · intro again
      simp
    · cases ha : l.all lineBQ <;> simp [linesB, show l.length ≤ 2000 by omega, ha]
  · simp [linesB, h, show ¬l.length ≤ 2000 by omega]
theorem sp_rRight12 {l : List Int} (hl : l.length ≤ 1000000000000000000) : S_ref12_Right l = some (linesB l, ()) := by
  refine u_ref12_Right (N := l.length + 1) ?_
  simp [M_ref12_Right]
  refine (iter_all (p := lineBQ) (bad := some (false, ())) (fin := some (decide ((l.length : Int) ≤ 2000), ())) (by omega) hl ?_ ?_).trans ?_
  · intro k again hk
    by_cases h1 : l[k] < 0
    · simp [hk, bnd_get hk, lineBQ, h1, show ¬0 ≤ l[k] by omega]
    · by_cases h2 : 65535 < l[k]
      · simp [hk, bnd_get hk, lineBQ, h1, h2, show ¬l[k] ≤ 65535 by omega]
      · simp [hk, bnd_get hk, lineBQ, h1, h2, show 0 ≤ l[k] by omega, show l[k] ≤ 65535 by omega]
  · intro again
    simp
  · cases ha : l.all lineBQ <;> simp [linesB, show (l.length : Int) ≤ 2000 ↔ l.length ≤ 2000 by omega, ha]
def mapsB (l : List St) (n : Nat) : Bool := decide (l.length ≤ 2000) && l.all fun s => belowB s n
theorem sp_rRight14 {l : List St} {n : Nat} (hl : l.length ≤ 1000000000000000000) (hn : n ≤ 256) : S_ref14_Right l n = some (mapsB l n, ()) := by
  refine u_ref14_Right (N := l.length + 1) ?_
  simp [M_ref14_Right]
  refine (iter_all (p := fun s => belowB s n) (bad := some (false, ())) (fin := some (decide ((l.length : Int) ≤ 2000), ())) (by omega) hl ?_ ?_).trans ?_
  · intro k again hk
    obtain ⟨a, b, c, d, e⟩ : ∃ a b c d, l[k] = (a, (b, (c, d))) := ⟨_, _, _, _, rfl⟩
    simp [hk, bnd_get hk, cnd_b, sp_rrange hn, sp_rinside, belowB, e]
  · intro again
    simp
  · cases ha : l.all fun s => belowB s n <;> simp [mapsB, show (l.length : Int) ≤ 2000 ↔ l.length ≤ 2000 by omega, ha]
def bareB (nodes : List Nd) (at' : List Int) (live : List St) : Bool := decide (nodes.length = 0 ∧ at'.length = 0 ∧ live.length = 0)
section
variable {name : List UInt8} {inner : Bool} {outer params results locals lines at' : List Int} {code : List (Int × Int)} {nodes : List Nd} {live : List St}
@[simp] theorem sp_Bare : S_fnc_Bare name inner outer params results locals code lines nodes at' live = some (bareB nodes at' live, ()) := u_fnc_Bare (N := 0) (by
  by_cases h1 : nodes.length = 0 <;> by_cases h2 : at'.length = 0 <;> simp [M_fnc_Bare, bareB, h1, h2, show ∀ n : Nat, (n : Int) = 0 ↔ n = 0 from fun n => by omega])
theorem sp_rBare (h1 : nodes.length ≤ 1000000000000) (h2 : at'.length ≤ 1000000000000) (h3 : live.length ≤ 1000000000000) : S_ref15_Bare name inner outer params results locals code lines nodes at' live = some (bareB nodes at' live, ()) := u_ref15_Bare (N := 0) (by
  simp [M_ref15_Bare]
  rw [wi64 (n := (nodes.length : Int) + at'.length) (by omega) (by omega), wi64 (n := (nodes.length : Int) + at'.length + live.length) (by omega) (by omega), Bool.eq_iff_iff]
  unfold bareB
  simp only [decide_eq_true_eq]
  omega)
/-- A place's node. -/
def atB (n : Nat) (v : Int) : Bool := decide (0 ≤ v ∧ v < n)
def tablesB (code : List (Int × Int)) (nodes : List Nd) (at' : List Int) (live : List St) (k : Nat) : Bool :=
  bareB nodes at' live || (rightT nodes && decide (at'.length = code.length) && decide (live.length = code.length) && at'.all (atB nodes.length) && mapsB live k)
@[simp] theorem sp_tables1 {n : Int} : S_fnc_tables_1 name inner outer params results locals code lines nodes at' live n = some (name, inner, outer, params, results, locals, code, lines, nodes, at', live, !atB nodes.length n, ()) := u_fnc_tables_1 (N := 0) (by
  by_cases h : n < 0
  · simp [M_fnc_tables_1, atB, h, show ¬0 ≤ n by omega]
  · by_cases h2 : (nodes.length : Int) ≤ n
    · simp [M_fnc_tables_1, atB, h, h2, show ¬n < nodes.length by omega]
    · simp [M_fnc_tables_1, atB, h, h2, show 0 ≤ n by omega, show n < nodes.length by omega])


/-- Lists are no longer than there is room for. -/
def LenF (outer params results locals : List Int) (code : List (Int × Int)) (lines : List Int) (nodes : List Nd) (at' : List Int) (live : List St) : Prop :=
  outer.length ≤ 1000000000 ∧ params.length ≤ 1000000000 ∧ results.length ≤ 1000000000 ∧ locals.length ≤ 1000000000 ∧ code.length ≤ 1000000000 ∧ lines.length ≤ 1000000000 ∧ nodes.length ≤ 1000000000 ∧ at'.length ≤ 1000000000 ∧ live.length ≤ 1000000000
theorem sp_tables (hbr : bareB nodes at' live = true) : S_fnc_tables name inner outer params results locals code lines nodes at' live = some (tablesB code nodes at' live (params.length + results.length + locals.length), ()) := by
  refine u_fnc_tables (N := 0) ?_
  simp [M_fnc_tables, tablesB, hbr]
theorem sp_rtables (hp : params.length + results.length + locals.length ≤ 256) (h7 : nodes.length ≤ 1000000000) (h8 : at'.length ≤ 1000000000) (h9 : live.length ≤ 1000000000) :
    S_ref15_tables name inner outer params results locals code lines nodes at' live (params.length + results.length + locals.length) = some (tablesB code nodes at' live (params.length + results.length + locals.length), ()) := by
  refine u_ref15_tables (N := at'.length + 1) ?_
  have hM := sp_rRight14 (l := live) (n := params.length + results.length + locals.length) (by omega) hp
  have hc : ((params.length + results.length + locals.length : Nat) : Int) = (params.length : Int) + results.length + locals.length := by omega
  rw [hc] at hM
  simp [M_ref15_tables, tablesB, sp_rRight13, sp_rBare (nodes := nodes) (at' := at') (live := live) (by omega) (by omega) (by omega), hM, show ∀ a b : Nat, (a : Int) = b ↔ a = b from fun a b => by omega]
  cases hb : bareB nodes at' live with
  | true => simp [cnd_b]
  | false =>
    cases hr : rightT nodes with
    | false => simp [cnd_b]
    | true =>
      by_cases e1 : at'.length = code.length
      · by_cases e2 : live.length = code.length
        · cases hm : mapsB live (params.length + results.length + locals.length) with
          | false => simp [cnd_b, e1, e2]
          | true =>
            simp [cnd_b, e1, e2]
            refine (iter_all (l := at') (p := atB nodes.length) (bad := some (false, ())) (fin := some (true, ())) (by omega) (by omega) ?_ ?_).trans ?_
            · intro k again hk
              have hk2 : k < code.length := by omega
              by_cases h1 : at'[k] < 0
              · simp [hk2, bnd_get hk, atB, h1, show ¬0 ≤ at'[k] by omega]
              · by_cases h2 : (nodes.length : Int) ≤ at'[k]
                · simp [hk2, bnd_get hk, atB, h1, h2, show ¬at'[k] < nodes.length by omega]
                · simp [hk2, bnd_get hk, atB, h1, h2, show 0 ≤ at'[k] by omega, show at'[k] < nodes.length by omega]
            · intro again
              simp [e1]
            · cases ha : at'.all (atB nodes.length) <;> simp [ha]
        · simp [cnd_b, e1, e2]
      · simp [cnd_b, e1]
def typesBQ (inner : Bool) (outer params results locals : List Int) : Bool := sigBQ params 8 && sigBQ results 4 && sigBQ locals 256 && sigBQ outer 4 && (inner || decide (outer.length = 0))
theorem typesB_len {inner : Bool} {outer params results locals : List Int} (h : typesBQ inner outer params results locals = true) : params.length ≤ 8 ∧ results.length ≤ 4 ∧ locals.length ≤ 256 ∧ outer.length ≤ 4 := by
  simp only [typesBQ, sigBQ, Bool.and_eq_true, decide_eq_true_eq] at h
  omega
theorem sp_types (h1 : outer.length ≤ 1000000000) (h2 : params.length ≤ 1000000000) (h3 : results.length ≤ 1000000000) (h4 : locals.length ≤ 1000000000) : S_fnc_types name inner outer params results locals code lines nodes at' live = some (typesBQ inner outer params results locals, ()) := by
  refine u_fnc_types (N := 0) ?_
  simp [M_fnc_types, typesBQ, sp_sigRight (l := outer) (by omega), sp_sigRight (l := params) (by omega), sp_sigRight (l := results) (by omega), sp_sigRight (l := locals) (by omega)]
  cases sigBQ params 8 <;> cases sigBQ results 4 <;> cases sigBQ locals 256 <;> cases sigBQ outer 4 <;> cases inner <;> simp [show ((outer.length : Int) = 0) ↔ outer.length = 0 by omega]
/-- Why a function can't be laid. -/
def canE (name : List UInt8) (inner : Bool) (outer params results locals : List Int) (code : List (Int × Int)) (lines : List Int) (nodes : List Nd) (at' : List Int) (live : List St) : Int :=
  if mayB name = false then 7 else if typesBQ inner outer params results locals = false then 9 else
  if 256 < params.length + results.length + locals.length ∨ code.length < 1 ∨ 2000 < code.length then 6 else
  if code.all (fun p => rightN p.1 p.2) = false then 8 else if lines.length ≠ code.length ∨ linesB lines = false then 19 else
  if tablesB code nodes at' live (params.length + results.length + locals.length) = false then 14 else 0
@[simp] theorem sp_Can1 {a b : Int} : S_fnc_Can_1 a b = some (!rightN a b, ()) := u_fnc_Can_1 (N := 0) (by simp [M_fnc_Can_1, sp_iRight])
theorem sp_Can (hbr : bareB nodes at' live = true) (hn : Len name) (h : LenF outer params results locals code lines nodes at' live) (h7 : nodes.length ≤ 1000000) : S_fnc_Can name inner outer params results locals code lines nodes at' live = some (canE name inner outer params results locals code lines nodes at' live, ()) := by
  obtain ⟨g1, g2, g3, g4, g5, g6, g7, g8, g9⟩ := h
  refine u_fnc_Can (N := code.length + 1) ?_
  unfold canE
  simp [M_fnc_Can, sp_May hn, sp_types g1 g2 g3 g4]
  cases h1 : mayB name with
  | false => simp
  | true =>
    cases h2 : typesBQ inner outer params results locals with
    | false => simp
    | true =>
      obtain ⟨b1, b2, b3, b4⟩ := typesB_len h2
      simp [sp_many (a := name) (b := inner) (c := outer) (d := params) (e := results) (f := locals) (g := code) (h := lines) (i := nodes) (j := at') (k := live) (by omega) (by omega) (by omega)]
      by_cases h3 : 256 < params.length + results.length + locals.length
      · simp [h3, show (256 : Int) < (params.length : Int) + results.length + locals.length by omega]
      · simp only [h3, show ¬(256 : Int) < (params.length : Int) + results.length + locals.length by omega, if_false, false_or]
        by_cases h4 : code.length < 1
        · simp [show code = [] from List.eq_nil_of_length_eq_zero (by omega)]
        · have hc : code ≠ [] := fun e => by subst e; simp at h4
          by_cases h5 : 2000 < code.length
          · simp [hc, h5, show ¬(code.length : Int) < 1 by omega, show (2000 : Int) < code.length by omega]
          · simp [hc, h5, show ¬(code.length : Int) < 1 by omega, show ¬(2000 : Int) < code.length by omega]
            refine (iter_all (l := code) (p := fun p => rightN p.1 p.2) (bad := some (8, ())) (fin := some (if ¬lines.length = code.length ∨ linesB lines = false then 19 else if tablesB code nodes at' live (params.length + results.length + locals.length) = false then 14 else 0, ())) (by omega) (by omega) ?_ ?_).trans ?_
            · intro k again hk
              simp [hk, bnd_get hk, cnd_b]
            · intro again
              have e6 : ((lines.length : Int) = code.length) ↔ lines.length = code.length := by omega
              simp [e6, sp_linesRight (l := lines) (by omega), sp_tables (name := name) (inner := inner) (outer := outer) (params := params) (results := results) (locals := locals) (lines := lines) (code := code) hbr]
              by_cases h6 : lines.length = code.length <;> cases h7 : linesB lines <;> cases h8 : tablesB code nodes at' live (params.length + results.length + locals.length) <;> simp [h6]
            · cases ha : code.all fun p => rightN p.1 p.2 <;> simp
theorem sp_rCan (hn : Len name) (h : LenF outer params results locals code lines nodes at' live) : S_ref15_Can name inner outer params results locals code lines nodes at' live = some (canE name inner outer params results locals code lines nodes at' live, ()) := by
  obtain ⟨g1, g2, g3, g4, g5, g6, g7, g8, g9⟩ := h
  refine u_ref15_Can (N := code.length + 1) ?_
  unfold canE
  have w1 : wrp .i64 ((params.length : Int) + results.length) = (params.length : Int) + results.length := wi64 (by omega) (by omega)
  have w2 : wrp .i64 ((params.length : Int) + results.length + locals.length) = (params.length : Int) + results.length + locals.length := wi64 (by omega) (by omega)
  simp [M_ref15_Can, sp_rMay hn, sp_rRight11 (l := outer) (by omega), sp_rRight11 (l := params) (by omega), sp_rRight11 (l := results) (by omega), sp_rRight11 (l := locals) (by omega), w1, w2]
  cases h1 : mayB name with
  | false => simp
  | true =>
    have hJ : ∀ {β : Type}, (cnd (sigBQ outer 4) (cnd (sigBQ params 8) (cnd (sigBQ results 4) (cnd (sigBQ locals 256) (if 0 < outer.length then leftK (!inner, ()) else leftK (false, ())) (leftK (true, ()))) (leftK (true, ()))) (leftK (true, ()))) (leftK (true, ())) : Option ((Bool × Unit) ⊕ β)) = leftK (!typesBQ inner outer params results locals, ()) := by
      intro β
      unfold typesBQ
      cases sigBQ outer 4 <;> cases sigBQ params 8 <;> cases sigBQ results 4 <;> cases sigBQ locals 256 <;> simp
      by_cases h0 : 0 < outer.length
      · have : outer ≠ [] := fun e => by subst e; simp at h0
        cases inner <;> simp [h0, this]
      · have : outer = [] := List.eq_nil_of_length_eq_zero (by omega)
        simp [this]
    rw [hJ]
    cases h2 : typesBQ inner outer params results locals with
    | false => simp
    | true =>
      obtain ⟨b1, b2, b3, b4⟩ := typesB_len h2
      by_cases h3 : 256 < params.length + results.length + locals.length
      · simp [h3, show (256 : Int) < (params.length : Int) + results.length + locals.length by omega]
      · simp only [h3, show ¬(256 : Int) < (params.length : Int) + results.length + locals.length by omega, if_false, false_or]
        by_cases h4 : code.length < 1
        · simp [show code = [] from List.eq_nil_of_length_eq_zero (by omega)]
        · have hc : code ≠ [] := fun e => by subst e; simp at h4
          by_cases h5 : 2000 < code.length
          · simp [hc, h5, show ¬(code.length : Int) < 1 by omega, show (2000 : Int) < code.length by omega]
          · simp [hc, h5, show ¬(code.length : Int) < 1 by omega, show ¬(2000 : Int) < code.length by omega]
            refine (iter_all (l := code) (p := fun p => rightN p.1 p.2) (bad := some (8, ())) (fin := some (if ¬lines.length = code.length ∨ linesB lines = false then 19 else if tablesB code nodes at' live (params.length + results.length + locals.length) = false then 14 else 0, ())) (by omega) (by omega) ?_ ?_).trans ?_
            · intro k again hk
              simp [hk, bnd_get hk, cnd_b, sp_rRight]
            · intro again
              have e6 : ((lines.length : Int) = code.length) ↔ lines.length = code.length := by omega
              have hT := sp_rtables (name := name) (inner := inner) (outer := outer) (lines := lines) (code := code) (show params.length + results.length + locals.length ≤ 256 by omega) g7 g8 g9
              simp [e6, sp_rRight12 (l := lines) (by omega), hT]
              by_cases h6 : lines.length = code.length <;> cases h7 : linesB lines <;> cases h8 : tablesB code nodes at' live (params.length + results.length + locals.length) <;> simp [h6]
            · cases ha : code.all fun p => rightN p.1 p.2 <;> simp
end
section
variable {α : Type} [DecidableEq α]
end
@[simp] theorem vset_encQ {τ : Ty} {l : List (Data τ)} {i : Nat} {x : Data τ} : vset (encL τ l) i (enc τ x) = encL τ (l.set i x) := by simp only [vset, encL, mapE, List.map_set]
section
variable {name : List UInt8} {inner : Bool} {outer params results locals lines at' : List Int} {code : List (Int × Int)} {nodes : List Nd} {live : List St}
/-- What can be laid. -/
def CanF (name : List UInt8) (inner : Bool) (outer params results locals : List Int) (code : List (Int × Int)) (lines : List Int) (nodes : List Nd) (at' : List Int) (live : List St) : Prop :=
  mayB name = true ∧ typesBQ inner outer params results locals = true ∧ params.length + results.length + locals.length ≤ 256 ∧ 1 ≤ code.length ∧ code.length ≤ 2000 ∧ (code.all fun p => rightN p.1 p.2) = true ∧ lines.length = code.length ∧ linesB lines = true ∧ tablesB code nodes at' live (params.length + results.length + locals.length) = true
theorem canE_iff : canE name inner outer params results locals code lines nodes at' live = 0 ↔ CanF name inner outer params results locals code lines nodes at' live := by
  unfold canE CanF
  cases mayB name with
  | false => simp
  | true =>
    cases typesBQ inner outer params results locals with
    | false => simp
    | true =>
      by_cases h1 : 256 < params.length + results.length + locals.length ∨ code.length < 1 ∨ 2000 < code.length
      · simp only [Bool.true_eq_false, if_false, if_pos h1, true_and]
        constructor
        · intro h; cases h
        · intro h; omega
      · simp only [Bool.true_eq_false, if_false, if_neg h1, true_and]
        cases code.all fun p => rightN p.1 p.2 with
        | false => simp
        | true =>
          by_cases h2 : lines.length ≠ code.length ∨ linesB lines = false
          · simp only [Bool.true_eq_false, if_false, if_pos h2, true_and]
            constructor
            · intro h; cases h
            · intro h
              rcases h2 with h2 | h2
              · exact absurd h.2.2.2.1 h2
              · rw [h2] at h; simp at h
          · simp only [Bool.true_eq_false, if_false, if_neg h2, true_and]
            have h3 : lines.length = code.length := Decidable.byContradiction fun h => h2 (.inl h)
            have h4 : linesB lines = true := by
              cases hl : linesB lines with
              | true => rfl
              | false => exact absurd (.inr hl) h2
            cases tablesB code nodes at' live (params.length + results.length + locals.length) with
            | false => simp
            | true => simp [h3, h4]; omega
theorem CanF.len (h : CanF name inner outer params results locals code lines nodes at' live) : name.length ≤ 12 ∧ outer.length ≤ 4 ∧ params.length + results.length + locals.length ≤ 256 ∧ code.length ≤ 2000 ∧ lines.length ≤ 2000 ∧ nodes.length ≤ 120 ∧ at'.length ≤ 2000 ∧ live.length ≤ 2000 := by
  obtain ⟨h1, h2, h3, h4, h5, h6, h7, h8, h9⟩ := h
  obtain ⟨t1, t2, t3, t4⟩ := typesB_len h2
  have hn : name.length ≤ 12 := by
    cases name with
    | nil => simp
    | cons x l =>
      simp only [mayB, Bool.and_eq_true, decide_eq_true_eq] at h1
      simp
      omega
  refine ⟨hn, t4, h3, h5, by omega, ?_⟩
  simp only [tablesB, Bool.or_eq_true, Bool.and_eq_true, decide_eq_true_eq, bareB, rightT] at h9
  omega
end
theorem sp_called {fs : List Fn} (hl : fs.length ≤ 1000000) : S_file_called fs = some (fs.map (·.1), ()) := by
  refine u_file_called (N := fs.length + 1) ?_
  simp [M_file_called]
  refine iter_to (fun d => fs.length - d.2.2.1.toNat) (fun d => ∃ k : Nat, d = ((fs.take k).map (·.1), fs, (k : Int), ()) ∧ k ≤ fs.length) ?_ _ _ ⟨0, by simp, Nat.zero_le _⟩ (by simp)
  rintro _ again ⟨k, rfl, hk⟩ ih
  by_cases h : k < fs.length
  · have hw : wrp .i64 ((k : Int) + 1) = (k : Int) + 1 := wi64 (by omega) (by omega)
    have hr := room_t (a := k) (b := 1) (c := 16) (by omega) (by omega)
    have hm : min k fs.length = k := by omega
    have := ih ((fs.take (k + 1)).map (·.1), fs, (k : Int) + 1, ()) ⟨k + 1, rfl, h⟩ (by simp; omega)
    have e : (fs.take k).map (·.1) ++ [fs[k].1] = (fs.take (k + 1)).map (·.1) := by rw [List.take_succ_eq_append_getElem h, List.map_append]; rfl
    rw [← e] at this
    simpa [h, bnd_get h, hw, hr, hm] using this
  · have : k = fs.length := by omega
    subst this
    simp
def canV (f : Fn) : Int := canE f.1 f.2.1 f.2.2.1 f.2.2.2.1 f.2.2.2.2.1 f.2.2.2.2.2.1 f.2.2.2.2.2.2.1 f.2.2.2.2.2.2.2.1 f.2.2.2.2.2.2.2.2.1 f.2.2.2.2.2.2.2.2.2.1 f.2.2.2.2.2.2.2.2.2.2
def CanV (f : Fn) : Prop := CanF f.1 f.2.1 f.2.2.1 f.2.2.2.1 f.2.2.2.2.1 f.2.2.2.2.2.1 f.2.2.2.2.2.2.1 f.2.2.2.2.2.2.2.1 f.2.2.2.2.2.2.2.2.1 f.2.2.2.2.2.2.2.2.2.1 f.2.2.2.2.2.2.2.2.2.2
def LenV (f : Fn) : Prop := Len f.1 ∧ LenF f.2.2.1 f.2.2.2.1 f.2.2.2.2.1 f.2.2.2.2.2.1 f.2.2.2.2.2.2.1 f.2.2.2.2.2.2.2.1 f.2.2.2.2.2.2.2.2.1 f.2.2.2.2.2.2.2.2.2.1 f.2.2.2.2.2.2.2.2.2.2 ∧ f.2.2.2.2.2.2.2.2.1.length ≤ 1000000
theorem canV_iff {f : Fn} : canV f = 0 ↔ CanV f := canE_iff
def firstE : List Fn → Int
  | [] => 0
  | f :: l => if canV f = 0 then firstE l else canV f
theorem firstE_zero : ∀ {fs : List Fn}, firstE fs = 0 ↔ ∀ f ∈ fs, CanV f
  | [] => by simp [firstE]
  | f :: l => by
    rw [firstE]
    by_cases h : canV f = 0
    · rw [if_pos h, firstE_zero]; simp [canV_iff.1 h]
    · rw [if_neg h]; simp only [h, List.mem_cons, forall_eq_or_imp, false_iff]; exact fun h2 => h (canV_iff.2 h2.1)
/-- What file.Can answers. -/
def canP (fs : List Fn) : Int :=
  if fs.length < 1 ∨ 40 < fs.length then 6 else if firstE fs = 0 then (if (fs.map (·.1)).Nodup then 0 else 7) else firstE fs
theorem sp_fileCan {fs : List Fn} (hbr : ∀ f ∈ fs, bareB f.2.2.2.2.2.2.2.2.1 f.2.2.2.2.2.2.2.2.2.1 f.2.2.2.2.2.2.2.2.2.2 = true) (hl : ∀ f ∈ fs, LenV f) (hn : fs.length ≤ 1000000) : S_file_Can fs = some (canP fs, ()) := by
  refine u_file_Can (N := fs.length + 1) ?_
  by_cases h1 : fs.length < 1
  · have h2 : (fs.length : Int) < 1 := by omega
    simp [M_file_Can, canP, h1, h2]
  have h2 : ¬(fs.length : Int) < 1 := by omega
  by_cases h3 : 40 < fs.length
  · have h4 : (40 : Int) < (fs.length : Int) := by omega
    simp [M_file_Can, canP, h1, h2, h3, h4]
  have h4 : ¬(40 : Int) < (fs.length : Int) := by omega
  simp [M_file_Can, canP, h1, h2, h3, h4]
  refine iter_to (fun d => fs.length - d.2.1.toNat) (fun d => ∃ k : Nat, d = (fs, (k : Int), ()) ∧ k ≤ fs.length ∧ firstE fs = firstE (fs.drop k)) ?_ _ _ ⟨0, by simp, Nat.zero_le _, rfl⟩ (by simp)
  rintro _ again ⟨k, rfl, hk, hf⟩ ih
  by_cases h : k < fs.length
  · have hw : wrp .i64 ((k : Int) + 1) = (k : Int) + 1 := wi64 (by omega) (by omega)
    obtain ⟨g1, g2, g3⟩ := hl fs[k] (List.getElem_mem h)
    have hC := sp_Can (inner := fs[k].2.1) (hbr fs[k] (List.getElem_mem h)) g1 g2 g3
    have hd : fs.drop k = fs[k] :: fs.drop (k + 1) := List.drop_eq_getElem_cons h
    rw [hd, firstE] at hf
    by_cases hz : canV fs[k] = 0
    · rw [if_pos hz] at hf
      have hz2 : canE fs[k].1 fs[k].2.1 fs[k].2.2.1 fs[k].2.2.2.1 fs[k].2.2.2.2.1 fs[k].2.2.2.2.2.1 fs[k].2.2.2.2.2.2.1 fs[k].2.2.2.2.2.2.2.1 fs[k].2.2.2.2.2.2.2.2.1 fs[k].2.2.2.2.2.2.2.2.2.1 fs[k].2.2.2.2.2.2.2.2.2.2 = 0 := hz
      rw [hz2] at hC
      have := ih (fs, (k : Int) + 1, ()) ⟨k + 1, rfl, h, hf⟩ (by simp; omega)
      simpa [h, bnd_get h, hw, hC] using this
    · rw [if_neg hz] at hf
      have hz2 : ¬canE fs[k].1 fs[k].2.1 fs[k].2.2.1 fs[k].2.2.2.1 fs[k].2.2.2.2.1 fs[k].2.2.2.2.2.1 fs[k].2.2.2.2.2.2.1 fs[k].2.2.2.2.2.2.2.1 fs[k].2.2.2.2.2.2.2.2.1 fs[k].2.2.2.2.2.2.2.2.2.1 fs[k].2.2.2.2.2.2.2.2.2.2 = 0 := hz
      have hf2 : ¬firstE fs = 0 := by rw [hf]; exact hz
      rw [if_neg hf2, hf]
      simp [h, bnd_get h, hC, hz2]
      rfl
  · have : k = fs.length := by omega
    subst this
    have hf0 : firstE fs = 0 := by rw [hf]; simp [firstE]
    have hcan := firstE_zero.1 hf0
    have hU : S_names_Unlike (fs.map (·.1)) = some (decide (fs.map (·.1)).Nodup, ()) := by
      unfold S_names_Unlike
      rw [show (leN (fs.map (·.1)).length 1000000 && (fs.map (·.1)).all fun s => decide (s.length ≤ 1000000)) = true from by
        rw [Bool.and_eq_true]
        refine ⟨decide_eq_true (by rw [List.length_map]; exact hn), List.all_eq_true.2 fun s h => decide_eq_true ?_⟩
        obtain ⟨f, hf1, rfl⟩ := List.mem_map.1 h
        have := (CanF.len (hcan f hf1)).1
        omega]
      rfl
    by_cases hnd : (fs.map (·.1)).Nodup <;> simp [sp_called hn, hU, hf0, hnd]
theorem sp_Names {fs : List Fn} (hl : fs.length ≤ 1000000) : S_ref16_Names fs = some (fs.map (·.1), ()) := by
  refine u_ref16_Names (N := fs.length + 1) ?_
  simp [M_ref16_Names]
  refine iter_to (fun d => fs.length - d.2.1.toNat) (fun d => ∃ k : Nat, d = ((fs.take k).map (·.1), (k : Int), ()) ∧ k ≤ fs.length) ?_ _ _ ⟨0, by simp, Nat.zero_le _⟩ (by simp)
  rintro _ again ⟨k, rfl, hk⟩ ih
  by_cases h : k < fs.length
  · have hw : wrp .i64 ((k : Int) + 1) = (k : Int) + 1 := wi64 (by omega) (by omega)
    have hr := room_t (a := k) (b := 1) (c := 16) (by omega) (by omega)
    have hm : min k fs.length = k := by omega
    have := ih ((fs.take (k + 1)).map (·.1), (k : Int) + 1, ()) ⟨k + 1, rfl, h⟩ (by simp; omega)
    have e : (fs.take k).map (·.1) ++ [fs[k].1] = (fs.take (k + 1)).map (·.1) := by rw [List.take_succ_eq_append_getElem h, List.map_append]; rfl
    rw [← e] at this
    simpa [h, bnd_get h, hw, hr, hm] using this
  · have : k = fs.length := by omega
    subst this
    simp
/-- Where a text comes first. -/
def findIQ : List (List UInt8) → List UInt8 → Nat → Int
  | [], _, _ => -1
  | x :: l, y, i => if x = y then i else findIQ l y (i + 1)
theorem sp_Find5 {l : List (List UInt8)} {y : List UInt8} (hl : l.length ≤ 1000000) : S_ref05_Find l y = some (findIQ l y 0, ()) := by
  refine u_ref05_Find (N := l.length + 1) ?_
  simp [M_ref05_Find]
  refine iter_to (fun d => l.length - d.1.toNat) (fun d => ∃ k : Nat, d = ((k : Int), ()) ∧ k ≤ l.length ∧ findIQ l y 0 = findIQ (l.drop k) y k) ?_ _ _ ⟨0, rfl, Nat.zero_le _, rfl⟩ (by simp)
  rintro _ again ⟨k, rfl, hk, hf⟩ ih
  by_cases h : k < l.length
  · have hw : wrp .i64 ((k : Int) + 1) = (k : Int) + 1 := wi64 (by omega) (by omega)
    rw [List.drop_eq_getElem_cons h, findIQ] at hf
    by_cases he : l[k] = y
    · rw [if_pos he] at hf
      rw [hf]
      simp [h, bnd_get h, he]
    · rw [if_neg he] at hf
      have := ih ((k : Int) + 1, ()) ⟨k + 1, rfl, h, hf⟩ (by simp; omega)
      simpa [h, bnd_get h, hw, he] using this
  · have : k = l.length := by omega
    subst this
    rw [hf]
    simp [findIQ]
theorem findI_at : ∀ {l : List (List UInt8)} {i k : Nat} (h : k < l.length), (∀ j (hj : j < k), l[j] ≠ l[k]) → findIQ l l[k] i = ((i + k : Nat) : Int)
  | x :: l, i, 0, h, _ => by simp [findIQ]
  | x :: l, i, k + 1, h, hh => by
    have h1 : x ≠ l[k]'(by simpa using h) := by simpa using hh 0 (by omega)
    show (if x = l[k]'(by simpa using h) then _ else findIQ l (l[k]'(by simpa using h)) (i + 1)) = _
    rw [if_neg h1, findI_at (by simpa using h) fun j hj => by simpa using hh (j + 1) (by omega)]
    omega
theorem findI_before : ∀ {l : List (List UInt8)} {i j k : Nat} (h : k < l.length) (hj : j < k), l[j]'(by omega) = l[k] → findIQ l l[k] i < ((i + k : Nat) : Int)
  | x :: l, i, j, 0, h, hj, _ => by omega
  | x :: l, i, j, k + 1, h, hj, he => by
    show (if x = l[k]'(by simpa using h) then (i : Int) else findIQ l (l[k]'(by simpa using h)) (i + 1)) < _
    by_cases hx : x = l[k]'(by simpa using h)
    · rw [if_pos hx]; omega
    · rw [if_neg hx]
      cases j with
      | zero => exact absurd (by simpa using he) hx
      | succ j =>
        have := findI_before (i := i + 1) (j := j) (k := k) (l := l) (by simpa using h) (by omega) (by simpa using he)
        omega
theorem sp_Unlike5 {l : List (List UInt8)} (hl : l.length ≤ 1000000) : S_ref05_Unlike l = some (decide l.Nodup, ()) := by
  refine u_ref05_Unlike (N := l.length + 1) ?_
  simp [M_ref05_Unlike]
  refine iter_to (fun d => l.length - d.1.toNat) (fun d => ∃ k : Nat, d = ((k : Int), ()) ∧ k ≤ l.length ∧ ∀ i j (hi : i < k) (hj : j < i) (hk : i < l.length), l[j] ≠ l[i]) ?_ _ _ ⟨0, rfl, Nat.zero_le _, fun i j hi => by omega⟩ (by simp)
  rintro _ again ⟨k, rfl, hk, hf⟩ ih
  by_cases h : k < l.length
  · have hw : wrp .i64 ((k : Int) + 1) = (k : Int) + 1 := wi64 (by omega) (by omega)
    by_cases hd : ∃ j, ∃ hj : j < k, l[j] = l[k]
    · obtain ⟨j, hj, he⟩ := hd
      have h1 := findI_before (i := 0) h hj he
      have hn : ¬l.Nodup := fun hn => by
        have := (List.nodup_iff_pairwise_ne.1 hn)
        exact (List.pairwise_iff_getElem.1 this j k (by omega) h hj) he
      have h2 : ¬findIQ l l[k] 0 = (k : Int) := by omega
      simp [h, bnd_get h, sp_Find5 hl, h2, hn]
    · have h1 := findI_at (i := 0) h fun j hj he => hd ⟨j, hj, he⟩
      have h2 : findIQ l l[k] 0 = (k : Int) := by rw [h1, Nat.zero_add]
      have := ih ((k : Int) + 1, ()) ⟨k + 1, rfl, h, fun i j hi hj hk2 he => by
        by_cases e : i = k
        · subst e; exact hd ⟨j, hj, he⟩
        · exact hf i j (by omega) hj hk2 he⟩ (by simp; omega)
      simpa [h, bnd_get h, hw, sp_Find5 hl, h2] using this
  · have : k = l.length := by omega
    subst this
    have hn : l.Nodup := List.nodup_iff_pairwise_ne.2 (List.pairwise_iff_getElem.2 fun i j hi hj hij => hf j i hj hij hj)
    simp [hn]
theorem sp_rfileCan {fs : List Fn} (hl : ∀ f ∈ fs, LenV f) (hn : fs.length ≤ 1000000) : S_ref16_Can fs = some (canP fs, ()) := by
  refine u_ref16_Can (N := fs.length + 1) ?_
  by_cases h1 : fs.length < 1
  · have h2 : (fs.length : Int) < 1 := by omega
    simp [M_ref16_Can, canP, h1, h2]
  have h2 : ¬(fs.length : Int) < 1 := by omega
  by_cases h3 : 40 < fs.length
  · have h4 : (40 : Int) < (fs.length : Int) := by omega
    simp [M_ref16_Can, canP, h1, h2, h3, h4]
  have h4 : ¬(40 : Int) < (fs.length : Int) := by omega
  simp [M_ref16_Can, canP, h1, h2, h3, h4]
  refine iter_to (fun d => fs.length - d.1.toNat) (fun d => ∃ k : Nat, d = ((k : Int), ()) ∧ k ≤ fs.length ∧ firstE fs = firstE (fs.drop k)) ?_ _ _ ⟨0, rfl, Nat.zero_le _, rfl⟩ (by simp)
  rintro _ again ⟨k, rfl, hk, hf⟩ ih
  by_cases h : k < fs.length
  · have hw : wrp .i64 ((k : Int) + 1) = (k : Int) + 1 := wi64 (by omega) (by omega)
    obtain ⟨g1, g2, g3⟩ := hl fs[k] (List.getElem_mem h)
    have hC : S_ref15_Can fs[k].1 fs[k].2.1 fs[k].2.2.1 fs[k].2.2.2.1 fs[k].2.2.2.2.1 fs[k].2.2.2.2.2.1 fs[k].2.2.2.2.2.2.1 fs[k].2.2.2.2.2.2.2.1 fs[k].2.2.2.2.2.2.2.2.1 fs[k].2.2.2.2.2.2.2.2.2.1 fs[k].2.2.2.2.2.2.2.2.2.2 = some (canV fs[k], ()) := sp_rCan (inner := fs[k].2.1) g1 g2
    have hd : fs.drop k = fs[k] :: fs.drop (k + 1) := List.drop_eq_getElem_cons h
    rw [hd, firstE] at hf
    by_cases hz : canV fs[k] = 0
    · rw [if_pos hz] at hf
      rw [hz] at hC
      have := ih ((k : Int) + 1, ()) ⟨k + 1, rfl, h, hf⟩ (by simp; omega)
      simpa [h, bnd_get h, hw, hC] using this
    · rw [if_neg hz] at hf
      have hf2 : ¬firstE fs = 0 := by rw [hf]; exact hz
      rw [if_neg hf2, hf]
      simp [h, bnd_get h, hC, hz]
  · have : k = fs.length := by omega
    subst this
    have hf0 : firstE fs = 0 := by rw [hf]; simp [firstE]
    by_cases hnd : (fs.map (·.1)).Nodup <;> simp [sp_Names hn, sp_Unlike5 (l := fs.map (·.1)) (by rw [List.length_map]; exact hn), hf0, hnd]
theorem sp_Dref15 {name name2 : List UInt8} {inner inner2 : Bool} {outer params results locals lines at' outer2 params2 results2 locals2 lines2 at2 : List Int} {code code2 : List (Int × Int)} {nodes nodes2 : List Nd} {live live2 : List St}
    (h2 : outer.length ≤ 1000000000) (h3 : params.length ≤ 1000000000) (h4 : results.length ≤ 1000000000) (h5 : locals.length ≤ 1000000000) (h6 : code.length ≤ 1000000000) (h7 : lines.length ≤ 1000000000) (h8 : nodes.length ≤ 1000000000) (h9 : at'.length ≤ 1000000000) (h10 : live.length ≤ 1000000000) :
    S_ref15_Same name inner outer params results locals code lines nodes at' live name2 inner2 outer2 params2 results2 locals2 code2 lines2 nodes2 at2 live2 = some (eqD ((name, inner, outer, params, results, locals, code, lines, nodes, at', live) : Fn) (name2, inner2, outer2, params2, results2, locals2, code2, lines2, nodes2, at2, live2), ()) := by
  refine u_ref15_Same (N := 0) ?_
  have hF : eqD ((name, inner, outer, params, results, locals, code, lines, nodes, at', live) : Fn) (name2, inner2, outer2, params2, results2, locals2, code2, lines2, nodes2, at2, live2) = (decide (name = name2) && (decide (inner = inner2) && (eqD outer outer2 && (eqD params params2 && (eqD results results2 && (eqD locals locals2 && (eqD code code2 && (eqD lines lines2 && (eqD nodes nodes2 && (eqD at' at2 && (eqD live live2))))))))))) := by
    rw [Bool.eq_iff_iff]
    simp only [eqD, decide_eq_true_eq, Bool.and_eq_true, Prod.mk.injEq]
  rw [hF]
  by_cases h0 : name = name2
  case neg =>
    simp [M_ref15_Same, h0, sp_Same11 (l := outer) (m := outer2) (by omega), sp_Same11 (l := params) (m := params2) (by omega), sp_Same11 (l := results) (m := results2) (by omega), sp_Same11 (l := locals) (m := locals2) (by omega), sp_Code (l := code) (m := code2) (by omega), sp_Ints (l := lines) (m := lines2) (by omega), sp_Same13 (l := nodes) (m := nodes2) (by omega), sp_Ints (l := at') (m := at2) (by omega), sp_Same14 (l := live) (m := live2) (by omega)]
  simp [M_ref15_Same, h0, sp_Same11 (l := outer) (m := outer2) (by omega), sp_Same11 (l := params) (m := params2) (by omega), sp_Same11 (l := results) (m := results2) (by omega), sp_Same11 (l := locals) (m := locals2) (by omega), sp_Code (l := code) (m := code2) (by omega), sp_Ints (l := lines) (m := lines2) (by omega), sp_Same13 (l := nodes) (m := nodes2) (by omega), sp_Ints (l := at') (m := at2) (by omega), sp_Same14 (l := live) (m := live2) (by omega)]
  clear hF
  generalize eqD outer outer2 = b2; generalize eqD params params2 = b3; generalize eqD results results2 = b4; generalize eqD locals locals2 = b5; generalize eqD code code2 = b6; generalize eqD lines lines2 = b7; generalize eqD nodes nodes2 = b8; generalize eqD at' at2 = b9; generalize eqD live live2 = b10
  revert inner inner2 b2 b3 b4 b5 b6 b7 b8 b9 b10
  decide
theorem sp_ref16Same {l m : List Fn} (hl : ∀ f ∈ l, LenV f) (hn : l.length ≤ 1000000) : S_ref16_Same l m = some (eqD l m, ()) := by
  refine u_ref16_Same (N := l.length + 1) ?_
  by_cases hlen : l.length = m.length
  case neg => simp [M_ref16_Same, len_ne hlen, show ¬(l.length : Int) = m.length by omega]
  simp [M_ref16_Same, show (l.length : Int) = m.length by omega]
  refine iter_to (fun d => l.length - d.1.toNat) (fun d => ∃ k : Nat, d = ((k : Int), ()) ∧ k ≤ l.length ∧ eqD l m = eqD (l.drop k) (m.drop k)) ?_ _ _ ⟨0, by simp, Nat.zero_le _, rfl⟩ (by simp)
  rintro _ again ⟨k, rfl, hk, hr⟩ ih
  by_cases h : k < l.length
  · have h2 : k < m.length := by omega
    have hw : wrp .i64 ((k : Int) + 1) = (k : Int) + 1 := wi64 (by omega) (by omega)
    obtain ⟨g1, ⟨p1, p2, p3, p4, p5, p6, p7, p8, p9⟩, g3⟩ := hl l[k] (List.getElem_mem h)
    have hS : S_ref15_Same l[k].1 l[k].2.1 l[k].2.2.1 l[k].2.2.2.1 l[k].2.2.2.2.1 l[k].2.2.2.2.2.1 l[k].2.2.2.2.2.2.1 l[k].2.2.2.2.2.2.2.1 l[k].2.2.2.2.2.2.2.2.1 l[k].2.2.2.2.2.2.2.2.2.1 l[k].2.2.2.2.2.2.2.2.2.2 m[k].1 m[k].2.1 m[k].2.2.1 m[k].2.2.2.1 m[k].2.2.2.2.1 m[k].2.2.2.2.2.1 m[k].2.2.2.2.2.2.1 m[k].2.2.2.2.2.2.2.1 m[k].2.2.2.2.2.2.2.2.1 m[k].2.2.2.2.2.2.2.2.2.1 m[k].2.2.2.2.2.2.2.2.2.2 = some (eqD l[k] m[k], ()) :=
      sp_Dref15 (name := l[k].1) (inner := l[k].2.1) (name2 := m[k].1) (inner2 := m[k].2.1) (outer2 := m[k].2.2.1) (params2 := m[k].2.2.2.1) (results2 := m[k].2.2.2.2.1) (locals2 := m[k].2.2.2.2.2.1) (code2 := m[k].2.2.2.2.2.2.1) (lines2 := m[k].2.2.2.2.2.2.2.1) (nodes2 := m[k].2.2.2.2.2.2.2.2.1) (at2 := m[k].2.2.2.2.2.2.2.2.2.1) (live2 := m[k].2.2.2.2.2.2.2.2.2.2) p1 p2 p3 p4 p5 p6 p7 p8 p9
    rw [List.drop_eq_getElem_cons h, List.drop_eq_getElem_cons h2, eqD_cons] at hr
    simp [h, h2, bnd_get h, bnd_get h2, hw, hS]
    cases he : eqD l[k] m[k] with
    | true =>
      rw [he] at hr
      have := ih ((k : Int) + 1, ()) ⟨k + 1, rfl, h, by simpa using hr⟩ (by simp; omega)
      simpa [← hlen] using this
    | false =>
      rw [he] at hr
      simp [hr]
  · have : k = l.length := by omega
    subst this
    rw [hr, List.drop_eq_nil_of_le (Nat.le_refl _), List.drop_eq_nil_of_le (show m.length ≤ l.length by omega)]
    simp [hlen]
end Go.Proofs.YtkdnbnkbnegckaaGreatDoor
