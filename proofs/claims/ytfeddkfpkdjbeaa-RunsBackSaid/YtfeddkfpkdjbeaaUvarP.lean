/- Numbers as bytes, in plain Lean. -/
import Derived.Lib.Zigzag
import Derived.Lib.VarintBits
import Derived.Laws.BitsAllLaws
namespace Go.Proofs.Ytfeddkfpkdjbeaa

/-- A byte as a cell. -/
def byteC (b : UInt8) : Value := .int .u8 (b.toNat : Int)

/-- The bytes of a number below 2^(7*fuel + 7). -/
def putF : Nat → Nat → List UInt8
  | 0, n => [UInt8.ofNat n]
  | f + 1, n => if n < 128 then [UInt8.ofNat n] else UInt8.ofNat (n % 128 + 128) :: putF f (n / 128)
def putB (n : Nat) : List UInt8 := putF 9 n

theorem putF_lt (f : Nat) {n : Nat} (h : n < 128) : putF f n = [UInt8.ofNat n] := by
  cases f with
  | zero => rfl
  | succ f => simp [putF, h]
theorem putF_ge (f : Nat) {n : Nat} (h : 128 ≤ n) : putF (f + 1) n = UInt8.ofNat (n % 128 + 128) :: putF f (n / 128) := by
  simp [putF, show ¬ n < 128 by omega]
theorem putF_le (f : Nat) : ∀ n, (putF f n).length ≤ f + 1 := by
  induction f with
  | zero => intro n; simp [putF]
  | succ f ih => intro n; unfold putF; split; · simp
                 · have := ih (n / 128); simp; omega
theorem putB_le (n : Nat) : (putB n).length ≤ 10 := putF_le 9 n
theorem putF_pos (f n : Nat) : 1 ≤ (putF f n).length := by
  cases f with
  | zero => simp [putF]
  | succ f => unfold putF; split <;> simp

/-- A number with its sign at the lowest bit. -/
def foldN (n : Int) : Nat := (if n < 0 then 2 * -(n + 1) + 1 else 2 * n).toNat
theorem foldN_neg {n : Int} (h : n < 0) : ((foldN n : Nat) : Int) = 2 * -(n + 1) + 1 := by unfold foldN; rw [if_pos h]; omega
theorem foldN_nn {n : Int} (h : ¬ n < 0) : ((foldN n : Nat) : Int) = 2 * n := by unfold foldN; rw [if_neg h]; omega
theorem foldN_lt {n : Int} (h1 : -9223372036854775808 ≤ n) (h2 : n ≤ 9223372036854775807) : foldN n ≤ 18446744073709551615 := by unfold foldN; split <;> omega

theorem fold_bits {n : Int} (h1 : -9223372036854775808 ≤ n) (h2 : n ≤ 9223372036854775807) :
    bits .xor .u64 (IntKind.u64.wrap (IntKind.u64.wrap n * 2)) (IntKind.u64.wrap (n / 9223372036854775808)) = (foldN n : Nat) := by
  by_cases h : n < 0
  · have e1 : IntKind.u64.wrap (IntKind.u64.wrap n * 2) = (((2 * n + 18446744073709551616).toNat : Nat) : Int) := by
      rw [IntKind.wrap_u64, IntKind.wrap_u64]; omega
    have e2 : IntKind.u64.wrap (n / 9223372036854775808) = ((2 ^ 64 - 1 : Nat) : Int) := by
      rw [IntKind.wrap_u64]; omega
    rw [e1, e2, bits_xor_u64_nat _ _ (by omega) (by decide), Nat.xor_comm, Lib.xor_ones64 _ (by omega)]
    have := foldN_neg h
    omega
  · have e1 : IntKind.u64.wrap (IntKind.u64.wrap n * 2) = (((2 * n).toNat : Nat) : Int) := by
      rw [IntKind.wrap_u64, IntKind.wrap_u64]; omega
    have e2 : IntKind.u64.wrap (n / 9223372036854775808) = ((0 : Nat) : Int) := by
      rw [IntKind.wrap_u64]; omega
    rw [e1, e2, bits_xor_u64_nat _ _ (by omega) (by decide), Nat.xor_zero]
    have := foldN_nn h
    omega

theorem or_128 : ∀ a : Nat, a < 256 → a ||| 128 = a % 128 + 128 := by decide +kernel

theorem or128 {n : Nat} : bits .or .u8 ((n : Int) % 256) 128 = ((UInt8.ofNat (n % 128 + 128)).toNat : Int) := by
  have e1 : (n : Int) % 256 = ((n % 256 : Nat) : Int) := by omega
  have e2 : (128 : Int) = ((128 : Nat) : Int) := rfl
  rw [e1, e2, u8_or_nat _ _ (by omega) (by decide), or_128 _ (by omega)]
  simp only [UInt8.toNat_ofNat']
  omega
theorem add128 {n : Nat} : ((n : Int) % 128 + 128) = ((UInt8.ofNat (n % 128 + 128)).toNat : Int) := by
  simp only [UInt8.toNat_ofNat']
  omega
theorem ofNat_lt {n : Nat} (h : n < 256) : (n : Int) = ((UInt8.ofNat n).toNat : Int) := by
  simp only [UInt8.toNat_ofNat']
  omega
end Go.Proofs.Ytfeddkfpkdjbeaa
