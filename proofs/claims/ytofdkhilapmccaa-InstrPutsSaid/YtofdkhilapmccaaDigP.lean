/- Decimal digits. -/
import Derived.Test.YtofdkhilapmccaaBase
import Derived.Test.YtofdkhilapmccaaUvarP
namespace Go.Proofs.Ytofdkhilapmccaa
open Go.RowKit

def dig8 (m : Nat) : UInt8 := UInt8.ofNat (48 + m)
theorem dig8_nat {m : Nat} (h : m < 10) : (dig8 m).toNat = 48 + m := by
  simp only [dig8, UInt8.toNat_ofNat']; omega
/-- The digits of a number, the last one first. -/
def revDig (m : Nat) : List UInt8 := if m < 10 then [dig8 m] else dig8 (m % 10) :: revDig (m / 10)
termination_by m
decreasing_by omega
theorem revDig_lt {m : Nat} (h : m < 10) : revDig m = [dig8 m] := by rw [revDig, if_pos h]
theorem revDig_ge {m : Nat} (h : 10 ≤ m) : revDig m = dig8 (m % 10) :: revDig (m / 10) := by rw [revDig, if_neg (by omega)]
theorem revDig_ne (m : Nat) : revDig m ≠ [] := by rw [revDig]; split <;> simp
theorem revDig_len : ∀ (k m : Nat), 1 ≤ k → m < 10 ^ k → (revDig m).length ≤ k := by
  intro k
  induction k with
  | zero => intro m h; omega
  | succ k ih =>
    intro m _ h
    by_cases hm : m < 10
    · rw [revDig_lt hm]; simp
    · rw [revDig_ge (by omega), List.length_cons]
      have hk : 1 ≤ k := by
        rcases Nat.eq_zero_or_pos k with rfl | h2
        · simp at h; omega
        · exact h2
      have := ih (m / 10) hk (by rw [Nat.div_lt_iff_lt_mul (by decide)]; rw [Nat.pow_succ] at h; exact h)
      omega
/-- The digits of a number, with a sign. -/
def digN (m : Nat) : List UInt8 := (revDig m).reverse
def decB (n : Int) : List UInt8 := if n < 0 then 45 :: digN n.natAbs else digN n.natAbs
def decS (n : Int) : ByteArray := ⟨(decB n).toArray⟩
theorem digN_lt {m : Nat} (h : m < 10) : digN m = [dig8 m] := by rw [digN, revDig_lt h]; rfl
theorem digN_ge {m : Nat} (h : 10 ≤ m) : digN m = digN (m / 10) ++ digN (m % 10) := by
  rw [digN, revDig_ge h, List.reverse_cons, digN_lt (show m % 10 < 10 by omega)]; rfl
theorem decB_neg {n : Int} (h : n < 0) : decB n = 45 :: digN n.natAbs := by rw [decB, if_pos h]
theorem decB_nn {n : Int} (h : ¬ n < 0) : decB n = digN n.natAbs := by rw [decB, if_neg h]
theorem digN_len {m : Nat} (h : m ≤ 9223372036854775808) : (digN m).length ≤ 19 := by
  rw [digN, List.length_reverse]; exact revDig_len 19 m (by decide) (by omega)
theorem decB_len {n : Int} (h1 : -9223372036854775808 ≤ n) (h2 : n ≤ 9223372036854775807) : (decB n).length ≤ 20 := by
  have := digN_len (m := n.natAbs) (by omega)
  unfold decB; split <;> simp <;> omega
/-- What is left to lay. -/
def restD (m : Nat) (done : List UInt8) : List UInt8 := if m = 0 ∧ done ≠ [] then [] else revDig m
theorem restD_step {m : Nat} {done : List UInt8} (h : ¬ (m = 0 ∧ done ≠ [])) : restD m done = dig8 (m % 10) :: restD (m / 10) (done ++ [dig8 (m % 10)]) := by
  rw [restD, if_neg h]
  by_cases hm : m < 10
  · rw [revDig_lt hm, restD, if_pos ⟨by omega, by simp⟩, show m % 10 = m by omega]
  · rw [revDig_ge (by omega), restD, if_neg]
    rintro ⟨h1, -⟩; omega
theorem restD_end {m : Nat} {done : List UInt8} (h : m = 0 ∧ done ≠ []) : restD m done = [] := by rw [restD, if_pos h]
/-- A measure. -/
def measD (m : Nat) (done : List UInt8) : Nat := 2 * m + (if done = [] then 1 else 0)
theorem measD_step {m : Nat} {done : List UInt8} (h : ¬ (m = 0 ∧ done ≠ [])) (c : UInt8) : measD (m / 10) (done ++ [c]) < measD m done := by
  unfold measD
  rw [if_neg (by simp)]
  by_cases hd : done = []
  · rw [if_pos hd]; omega
  · rw [if_neg hd]
    have : m ≠ 0 := fun e => h ⟨e, hd⟩
    omega
end Go.Proofs.Ytofdkhilapmccaa
