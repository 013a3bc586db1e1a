/- What was put is taken again, in plain Lean. -/
import Derived.Test.YtfeddkfpkdjbeaaCurX
namespace Go.Proofs.Ytfeddkfpkdjbeaa
open Go.RowKit

theorem getG_put (rest : List UInt8) : ∀ (f i n m : Nat), i + f = 9 → m < 2 ^ (7 * f + 1) → (0 < i → 0 < m) → getG i n (putF f m ++ rest) = (n + m * 2 ^ (7 * i), i + (putF f m).length, 0) := by
  intro f
  induction f with
  | zero =>
    intro i n m hi hm h0
    obtain rfl : i = 9 := by omega
    have hm2 : m < 2 := by simpa using hm
    have hp := h0 (by omega)
    obtain rfl : m = 1 := by omega
    simp [putF, getG]
  | succ f ih =>
    intro i n m hi hm h0
    by_cases h : m < 128
    · rw [putF_lt _ h]
      have e : (UInt8.ofNat m).toNat = m := by simp only [UInt8.toNat_ofNat']; omega
      simp only [List.cons_append, List.nil_append, getG, e, List.length_singleton]
      rw [if_neg (by omega), if_neg (by omega), if_neg (by omega)]
    · rw [putF_ge _ (by omega)]
      have e : (UInt8.ofNat (m % 128 + 128)).toNat = m % 128 + 128 := by simp only [UInt8.toNat_ofNat']; omega
      simp only [List.cons_append, getG, e, List.length_cons]
      have hm3 : m / 128 < 2 ^ (7 * f + 1) := by
        have : 2 ^ (7 * (f + 1) + 1) = 2 ^ (7 * f + 1) * 128 := by rw [show 7 * (f + 1) + 1 = (7 * f + 1) + 7 by omega, Nat.pow_add]
        omega
      rw [if_neg (by omega), if_pos (by omega), ih (i + 1) _ (m / 128) (by omega) hm3 (by omega)]
      have h2 : 2 ^ (7 * (i + 1)) = 128 * 2 ^ (7 * i) := by rw [Nat.mul_add, Nat.pow_add, Nat.mul_comm]
      have h3 : (m % 128 + 128 - 128) * 2 ^ (7 * i) + m / 128 * 2 ^ (7 * (i + 1)) = m * 2 ^ (7 * i) := by
        rw [h2, ← Nat.mul_assoc, ← Nat.add_mul, show m % 128 + 128 - 128 + m / 128 * 128 = m by omega]
      simp only [Prod.mk.injEq, and_true]
      exact ⟨by omega, by omega⟩
theorem getG_put9 {m : Nat} (f : Nat) (hf : f = 9) (hm : m < 2 ^ (7 * f + 1)) (rest : List UInt8) : getG 0 0 (putF f m ++ rest) = (m, (putF f m).length, 0) := by
  rw [getG_put rest f 0 0 m (by omega) hm (fun h => absurd h (Nat.lt_irrefl 0)), Nat.mul_zero, Nat.pow_zero, Nat.mul_one, Nat.zero_add, Nat.zero_add]
theorem getB_put {m : Nat} (hm : m < 2 ^ 64) (rest : List UInt8) : getB (putB m ++ rest) = (m, (putB m).length, 0) := by
  exact getG_put9 9 rfl hm rest
theorem bitsS_put {m : Nat} (hm : m < 2 ^ 64) (rest : List UInt8) : bitsS (putB m ++ rest) 0 = (m, rest, 0) := by
  rw [bitsS, if_pos rfl, getB_put hm]
  simp
theorem unfold_fold (n : Int) : unfoldI (foldN n) = n := by
  unfold unfoldI
  by_cases h : n < 0
  · have := foldN_neg h
    rw [if_pos (by omega)]; omega
  · have := foldN_nn h
    rw [if_neg (by omega)]; omega
theorem numS_put {m : Nat} (hm : m < 2 ^ 64) {most : Int} (h : (m : Int) ≤ most) (rest : List UInt8) : numS (putB m ++ rest) 0 most = (m, rest, 0) := by
  rw [numS, bitsS_put hm, if_pos rfl, if_neg (by simp only []; omega)]
theorem curT_put {t : List UInt8} (hm : t.length < 2 ^ 64) (rest : List UInt8) : curT (putB t.length ++ (t ++ rest)) 0 t.length = (t, rest, 0) := by
  rw [curT, numS_put hm (Int.le_refl _), if_pos rfl]
  simp only []
  rw [if_neg (by simp), List.take_left, List.drop_left]

/-- Numbers one behind the other. -/
def numsB (l : List Int) : List UInt8 := l.flatMap fun n => putB (foldN n)
/-- Texts one behind the other. -/
def strsB (s : List ByteArray) : List UInt8 := s.flatMap fun t => putB t.size ++ t.data.toList

theorem numsB_take {l : List Int} {k : Nat} (h : k < l.length) : numsB (l.take (k + 1)) = numsB (l.take k) ++ putB (foldN l[k]) := by
  unfold numsB; rw [List.take_succ_eq_append_getElem h, List.flatMap_append]; simp only [List.flatMap_cons, List.flatMap_nil, List.append_nil]
theorem strsB_take {s : List ByteArray} {k : Nat} (h : k < s.length) : strsB (s.take (k + 1)) = strsB (s.take k) ++ (putB s[k].size ++ s[k].data.toList) := by
  unfold strsB; rw [List.take_succ_eq_append_getElem h, List.flatMap_append]; simp only [List.flatMap_cons, List.flatMap_nil, List.append_nil]
theorem numsB_drop {l : List Int} {k : Nat} (h : k < l.length) : numsB (l.drop k) = putB (foldN l[k]) ++ numsB (l.drop (k + 1)) := by
  unfold numsB; rw [List.drop_eq_getElem_cons h, List.flatMap_cons]
theorem strsB_drop {s : List ByteArray} {k : Nat} (h : k < s.length) : strsB (s.drop k) = putB s[k].size ++ (s[k].data.toList ++ strsB (s.drop (k + 1))) := by
  unfold strsB; rw [List.drop_eq_getElem_cons h, List.flatMap_cons, List.append_assoc]
theorem numsB_len (l : List Int) : (numsB l).length ≤ l.length * 10 := by
  induction l with
  | nil => simp [numsB]
  | cons n l ih => have := putB_le (foldN n); simp only [numsB, List.flatMap_cons, List.length_append, List.length_cons] at *; omega
/-- The letters of texts. -/
def letters (s : List ByteArray) : Nat := (s.map fun t => t.size).sum
theorem strsB_len (s : List ByteArray) : (strsB s).length ≤ s.length * 10 + letters s := by
  induction s with
  | nil => simp [strsB]
  | cons t s ih =>
    have := putB_le t.size
    have e : t.data.toList.length = t.size := by rw [Array.length_toList]; rfl
    simp only [strsB, letters, List.flatMap_cons, List.map_cons, List.sum_cons, List.length_append, List.length_cons] at *
    omega
theorem letters_take (s : List ByteArray) (k : Nat) : letters (s.take k) ≤ letters s := by
  induction s generalizing k with
  | nil => simp
  | cons t s ih =>
    cases k with
    | zero => simp [letters]
    | succ k => have := ih k; simp only [letters, List.take_succ_cons, List.map_cons, List.sum_cons] at *; omega
theorem letters_drop (s : List ByteArray) (k : Nat) : letters (s.drop k) ≤ letters s := by
  induction s generalizing k with
  | nil => simp
  | cons t s ih =>
    cases k with
    | zero => simp
    | succ k => have := ih k; simp only [letters, List.drop_succ_cons, List.map_cons, List.sum_cons] at *; omega
theorem letters_at {s : List ByteArray} {t : ByteArray} (h : t ∈ s) : t.size ≤ letters s := by
  induction s with
  | nil => simp at h
  | cons u s ih =>
    rcases List.mem_cons.1 h with rfl | h
    · simp only [letters, List.map_cons, List.sum_cons]; omega
    · have := ih h; simp only [letters, List.map_cons, List.sum_cons] at *; omega
end Go.Proofs.Ytfeddkfpkdjbeaa
