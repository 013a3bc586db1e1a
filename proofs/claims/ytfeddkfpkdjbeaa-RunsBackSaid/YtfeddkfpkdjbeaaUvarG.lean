/- The number that bytes begin with: the walks of uvar.Get, Unfold, and of their references. -/
import Derived.Test.YtfeddkfpkdjbeaaUvarW
import Derived.OwnWalk
import Derived.WalkMore
import Derived.Laws.Bits64b
import Derived.Laws.BitsAllLaws
namespace Go.Proofs.Ytfeddkfpkdjbeaa
open Go.RowKit

/-- The number that bytes begin with, i of them read, which came to n; how many they are; what is wrong. -/
def getG : Nat → Nat → List UInt8 → Nat × Nat × Int
  | _, _, [] => (0, 0, 3)
  | i, n, c :: cs => if i = 9 ∧ 1 < c.toNat then (0, 0, 5) else if 128 ≤ c.toNat then getG (i + 1) (n + (c.toNat - 128) * 2 ^ (7 * i)) cs
    else if c.toNat = 0 ∧ 0 < i then (0, 0, 4) else (n + c.toNat * 2 ^ (7 * i), i + 1, 0)
def getB (bs : List UInt8) : Nat × Nat × Int := getG 0 0 bs

theorem getG_nil {i n : Nat} {l : List UInt8} (h : l = []) : getG i n l = (0, 0, 3) := by subst h; rfl
theorem getG_form {i n : Nat} {l : List UInt8} (h : l ≠ []) (hi : i = 9) (hc : 1 < (l.head h).toNat) : getG i n l = (0, 0, 5) := by
  cases l with
  | nil => exact absurd rfl h
  | cons c cs => simp only [List.head_cons] at hc; simp [getG, hi, hc]

/-- One byte: what its reading comes to. -/
theorem getB_step {bs : List UInt8} {k n : Nat} (hk : k < bs.length) (h : getB bs = getG k n (bs.drop k)) :
    (k = 9 → 1 < bs[k].toNat → getB bs = (0, 0, 5)) ∧ ((k = 9 → bs[k].toNat ≤ 1) → 128 ≤ bs[k].toNat → getB bs = getG (k + 1) (n + (bs[k].toNat - 128) * 2 ^ (7 * k)) (bs.drop (k + 1))) ∧
    ((k = 9 → bs[k].toNat ≤ 1) → bs[k].toNat < 128 → bs[k].toNat = 0 → 0 < k → getB bs = (0, 0, 4)) ∧
    ((k = 9 → bs[k].toNat ≤ 1) → bs[k].toNat < 128 → (bs[k].toNat = 0 → k = 0) → getB bs = (n + bs[k].toNat * 2 ^ (7 * k), k + 1, 0)) := by
  rw [List.drop_eq_getElem_cons hk] at h
  unfold getG at h
  refine ⟨fun h1 h2 => ?_, fun h1 h2 => ?_, fun h1 h2 h3 h4 => ?_, fun h1 h2 h3 => ?_⟩
  · rw [h, if_pos ⟨h1, h2⟩]
  · rw [h, if_neg (by omega), if_pos h2]
  · rw [h, if_neg (by omega), if_neg (by omega), if_pos ⟨h3, h4⟩]
  · rw [h, if_neg (by omega), if_neg (by omega), if_neg (by omega)]

/-- What a reading hands back is in bounds. -/
theorem getG_ok : ∀ (bs : List UInt8) (i n : Nat), i ≤ 9 → n < 2 ^ (7 * i) → (getG i n bs).1 < 18446744073709551616 ∧ (getG i n bs).2.1 ≤ i + bs.length ∧ ((getG i n bs).2.2 = 0 ∨ (getG i n bs).2.2 = 3 ∨ (getG i n bs).2.2 = 4 ∨ (getG i n bs).2.2 = 5) ∧ ((getG i n bs).2.2 ≠ 0 → (getG i n bs).1 = 0 ∧ (getG i n bs).2.1 = 0) := by
  intro bs
  induction bs with
  | nil => intro i n _ _; simp [getG]
  | cons c cs ih =>
    intro i n hi hn
    have hc : c.toNat < 256 := c.toNat_lt
    have h2 : 2 ^ (7 * (i + 1)) = 2 ^ (7 * i) * 128 := by rw [Nat.mul_add, Nat.pow_add]
    unfold getG
    by_cases h1 : i = 9 ∧ 1 < c.toNat
    · rw [if_pos h1]; simp
    · rw [if_neg h1]
      by_cases h128 : 128 ≤ c.toNat
      · rw [if_pos h128]
        obtain ⟨a1, a2, a3, a4⟩ := ih (i + 1) (n + (c.toNat - 128) * 2 ^ (7 * i)) (by omega) (by
          have : (c.toNat - 128) * 2 ^ (7 * i) ≤ 127 * 2 ^ (7 * i) := Nat.mul_le_mul_right _ (by omega)
          rw [h2]; omega)
        exact ⟨a1, by simp only [List.length_cons]; omega, a3, a4⟩
      · rw [if_neg h128]
        by_cases h0 : c.toNat = 0 ∧ 0 < i
        · rw [if_pos h0]; simp
        · rw [if_neg h0]
          refine ⟨?_, by simp only [List.length_cons]; omega, .inl rfl, fun h => absurd rfl h⟩
          show n + c.toNat * 2 ^ (7 * i) < _
          by_cases h9 : i = 9
          · subst h9
            have : c.toNat * 2 ^ (7 * 9) ≤ 1 * 2 ^ (7 * 9) := Nat.mul_le_mul_right _ (by omega)
            omega
          · have h3 : c.toNat * 2 ^ (7 * i) ≤ 127 * 2 ^ (7 * i) := Nat.mul_le_mul_right _ (by omega)
            have h4 : 2 ^ (7 * i) ≤ 2 ^ (7 * 8) := Nat.pow_le_pow_right (by decide) (by omega)
            have h5 : (2 : Nat) ^ (7 * 8) = 72057594037927936 := by decide
            omega
theorem getB_ok (bs : List UInt8) : (getB bs).1 < 18446744073709551616 ∧ (getB bs).2.1 ≤ bs.length ∧ ((getB bs).2.2 = 0 ∨ (getB bs).2.2 = 3 ∨ (getB bs).2.2 = 4 ∨ (getB bs).2.2 = 5) ∧ ((getB bs).2.2 ≠ 0 → (getB bs).1 = 0 ∧ (getB bs).2.1 = 0) := by
  have := getG_ok bs 0 0 (by decide) (by decide)
  simpa [getB] using this

set_option maxHeartbeats 2000000 in
set_option maxRecDepth 20000 in
theorem uvarref_Get (ao : Option Addr) (cap : Nat) (bs : List UInt8) (w : World) (hc : Cells w ao (bs.map byteC)) (hl : bs.length ≤ 140737488354328) :
    Calls Try.prog 102 #[.slice ao bs.length cap] w fun e w' => e = .returned (.tuple #[.int .u64 (getB bs).1, .int .i64 (getB bs).2.1, .int .i64 (getB bs).2.2]) ∧ Ext w w' := by
  go_enter Try.func102, Try.ntmps102
  go_wp2
  go_loopw [5, 6, 7] (fun nv sv i wr => ∃ k n : Nat, k ≤ bs.length ∧ k ≤ 9 ∧ i = .int .i64 k ∧ nv = .int .u64 n ∧ sv = .int .u64 (2 ^ (7 * k) : Nat) ∧ n < 2 ^ (7 * k) ∧ Ext w wr ∧ Hid (getB bs = getG k n (bs.drop k)))
    (fun _ _ i _ => bs.length - (intOf i).toNat)
  case atStart => exact ⟨0, 0, Nat.zero_le _, by decide, rfl, rfl, rfl, by decide, Ext.rf w, rfl⟩
  case round =>
    obtain ⟨k, n, hk, h9, rfl, rfl, rfl, hn, hext, hg⟩ := hrel
    by_cases hlt : k < bs.length
    · obtain ⟨b, off, rfl, c1⟩ := (hc.ext hext).at (k := k) (by simpa using hlt)
      simp only [List.getElem_map, byteC] at c1
      have i1 : (0 : Int) ≤ k := by omega
      have i2 : (k : Int) < bs.length := by omega
      have HS := Lib.hid (getB_step hlt hg.out)
      have hc256 : bs[k].toNat < 256 := bs[k].toNat_lt
      have h2 : 2 ^ (7 * (k + 1)) = 2 ^ (7 * k) * 128 := by rw [Nat.mul_add, Nat.pow_add]
      have hp9 : 2 ^ (7 * k) ≤ 9223372036854775808 := Nat.le_trans (Nat.pow_le_pow_right (by decide) (show 7 * k ≤ 63 by omega)) (by decide)
      have hp8 : k ≠ 9 → 2 ^ (7 * k) ≤ 72057594037927936 := fun h => Nat.le_trans (Nat.pow_le_pow_right (by decide) (show 7 * k ≤ 56 by omega)) (by decide)
      generalize bs[k].toNat = c at *
      generalize hP : 2 ^ (7 * k) = P at *
      have HP := Lib.hid hP
      have H2 := Lib.hid h2
      clear hP h2 hg
      by_cases hA : k = 9 ∧ 1 < c
      · obtain ⟨rfl, hA2⟩ := hA
        have HR := Lib.hid (HS.out.1 rfl hA2)
        have t1 : decide ((1 : Int) < c) = true := decide_eq_true (by omega)
        clear HS
        go_wp2
        go_ret3
        exact ⟨by rw [HR.out] <;> rfl, hext⟩
      · have hA' : k = 9 → c ≤ 1 := by omega
        by_cases hB : 128 ≤ c
        · have hk9 : k ≠ 9 := by omega
          have HR := Lib.hid (HS.out.2.1 hA' hB)
          have hp8' := hp8 hk9
          have hle : (c - 128) * P ≤ 127 * P := Nat.mul_le_mul_right _ (by omega)
          have t1 : ((k : Int) == 9) = false := by simp; omega
          have t2 : decide ((c : Int) < 128) = false := decide_eq_false (by omega)
          have hk8 : k < 9 := by omega
          clear HS hA hA' hp8 hp9 hk9
          have hw : IntKind.u64.wrap ((n : Int) + IntKind.u64.wrap ((c : Int) % 128 * P)) = ((n + (c - 128) * P : Nat) : Int) := by
            have e1 : (c : Int) % 128 * P = (((c - 128) * P : Nat) : Int) := by rw [Int.natCast_mul]; congr 1; omega
            rw [e1, IntKind.wrap_u64, IntKind.wrap_u64]; omega
          have hlt2 : n + (c - 128) * P < P * 128 := by omega
          go_wp2
          go_roundw
          case rel => exact ⟨k + 1, n + (c - 128) * P, by omega, by omega, by go_num, by simp, by rw [H2.out]; simp, by rw [H2.out]; exact hlt2, hext, HR⟩
          case measure => simp [intOf]; omega
        · by_cases hC : c = 0 ∧ 0 < k
          · have HR := Lib.hid (HS.out.2.2.1 hA' (by omega) hC.1 hC.2)
            obtain ⟨rfl, hC2⟩ := hC
            by_cases h9' : k = 9
            · subst h9'
              clear HS hA hA' hp8 hp9
              go_wp2
              go_ret3
              exact ⟨by rw [HR.out] <;> rfl, hext⟩
            · have t1 : ((k : Int) == 9) = false := by simp; omega
              clear HS hA hA' hp8 hp9 h9'
              go_wp2
              go_ret3
              exact ⟨by rw [HR.out] <;> rfl, hext⟩
          · have HR := Lib.hid (HS.out.2.2.2 hA' (by omega) (by omega))
            have hle : n + c * P < 18446744073709551616 := by
              by_cases h : k = 9
              · have : c * P ≤ 1 * P := Nat.mul_le_mul_right _ (hA' h)
                omega
              · have := hp8 h
                have : c * P ≤ 127 * P := Nat.mul_le_mul_right _ (by omega)
                omega
            have hw : IntKind.u64.wrap ((n : Int) + IntKind.u64.wrap ((c : Int) % 128 * P)) = ((n + c * P : Nat) : Int) := by
              have e1 : (c : Int) % 128 * P = ((c * P : Nat) : Int) := by rw [Int.natCast_mul]; congr 1; omega
              rw [e1, IntKind.wrap_u64, IntKind.wrap_u64]; omega
            have tl : decide ((c : Int) < 128) = true := decide_eq_true (by omega)
            have h0' : c ≠ 0 ∨ k = 0 := by omega
            by_cases h9' : k = 9
            · have hA1 := hA' h9'
              subst h9'
              have t1 : decide ((1 : Int) < c) = false := decide_eq_false (by omega)
              have t3 : ((c : Int) == 0) = false := by simp; omega
              clear HS hA hA' hp8 hp9
              go_wp2
              go_ret3
              exact ⟨by rw [HR.out]; simp, hext⟩
            · have t1 : ((k : Int) == 9) = false := by simp; omega
              clear HS hA hA' hp8 hp9 h9'
              by_cases hk0 : k = 0
              · subst hk0
                simp only [Nat.add_zero] at c1
                by_cases hc0 : c = 0
                · subst hc0
                  go_wp2
                  go_ret3
                  exact ⟨by rw [HR.out]; simp, hext⟩
                · have t3 : ((c : Int) == 0) = false := by simp; omega
                  go_wp2
                  go_ret3
                  exact ⟨by rw [HR.out]; simp, hext⟩
              · have t3 : ((c : Int) == 0) = false := by simp; omega
                go_wp2
                go_ret3
                exact ⟨by rw [HR.out]; simp, hext⟩
    · obtain rfl : k = bs.length := by omega
      have HR : Hid (getB bs = (0, 0, 3)) := by rw [Hid, hg.out, List.drop_length]; rfl
      clear hg
      go_wp2
      go_ret3
      exact ⟨by rw [HR.out] <;> rfl, hext⟩

theorem or_hi {n m k : Nat} (hn : n < 2 ^ k) : n ||| (m * 2 ^ k) = n + m * 2 ^ k := by
  rw [Nat.or_comm, Nat.mul_comm, ← Nat.two_pow_add_eq_or_of_lt hn, Nat.add_comm]
theorem getOr {n m k : Nat} (hn : n < 2 ^ (7 * k)) (h : n + m * 2 ^ (7 * k) < 18446744073709551616) : bits .or .u64 (n : Int) (IntKind.u64.wrap ((m : Int) * 2 ^ (7 * k))) = ((n + m * 2 ^ (7 * k) : Nat) : Int) := by
  have e : (m : Int) * 2 ^ (7 * k) = ((m * 2 ^ (7 * k) : Nat) : Int) := by simp
  have e2 : IntKind.u64.wrap ((m : Int) * 2 ^ (7 * k)) = ((m * 2 ^ (7 * k) : Nat) : Int) := by rw [e, IntKind.wrap_u64]; omega
  rw [e2, bits_or_u64_nat _ _ (by omega) (by omega), or_hi hn]
theorem and_127 : ∀ a : Nat, a < 256 → 128 ≤ a → a &&& (255 - 128) = a - 128 := by decide +kernel
theorem andNot128 {c : Nat} (h1 : 128 ≤ c) (h2 : c < 256) : IntKind.u64.wrap (bits .andNot .u8 (c : Int) 128) = ((c - 128 : Nat) : Int) := by
  have e2 : (128 : Int) = ((128 : Nat) : Int) := rfl
  rw [e2, u8_andNot_nat _ _ h2 (by decide), and_127 _ h2 h1, IntKind.wrap_u64]; omega

set_option maxHeartbeats 2000000 in
set_option maxRecDepth 20000 in
theorem uvar_Get (ao : Option Addr) (cap : Nat) (bs : List UInt8) (w : World) (hc : Cells w ao (bs.map byteC)) (hl : bs.length ≤ 140737488354328) :
    Calls Try.prog 103 #[.slice ao bs.length cap] w fun e w' => e = .returned (.tuple #[.int .u64 (getB bs).1, .int .i64 (getB bs).2.1, .int .i64 (getB bs).2.2]) ∧ Ext w w' := by
  go_enter Try.func103, Try.ntmps103
  go_wp2
  go_step3
  go_wp2
  go_step3
  go_wp2
  go_loopw [5, 6, 7, 12] (fun nv ev av i wr => ∃ k n : Nat, k ≤ bs.length ∧ k ≤ 9 ∧ i = .int .i64 k ∧ nv = .int .u64 n ∧ ev = .int .i64 3 ∧ av = .int .i64 0 ∧ n < 2 ^ (7 * k) ∧ Ext w wr ∧ Hid (getB bs = getG k n (bs.drop k)))
    (fun _ _ _ i _ => bs.length - (intOf i).toNat)
  case atStart => exact ⟨0, 0, Nat.zero_le _, by decide, rfl, rfl, rfl, rfl, by decide, Ext.rf w, rfl⟩
  case round =>
    obtain ⟨k, n, hk, h9, rfl, rfl, rfl, rfl, hn, hext, hg⟩ := hrel
    by_cases hlt : k < bs.length
    · obtain ⟨b, off, rfl, c1⟩ := (hc.ext hext).at (k := k) (by simpa using hlt)
      simp only [List.getElem_map, byteC] at c1
      have i1 : (0 : Int) ≤ k := by omega
      have i2 : (k : Int) < bs.length := by omega
      have HS := Lib.hid (getB_step hlt hg.out)
      have hc256 : bs[k].toNat < 256 := bs[k].toNat_lt
      have h2 : 2 ^ (7 * (k + 1)) = 2 ^ (7 * k) * 128 := by rw [Nat.mul_add, Nat.pow_add]
      have hp9 : 2 ^ (7 * k) ≤ 9223372036854775808 := Nat.le_trans (Nat.pow_le_pow_right (by decide) (show 7 * k ≤ 63 by omega)) (by decide)
      have hp8 : k ≠ 9 → 2 ^ (7 * k) ≤ 72057594037927936 := fun h => Nat.le_trans (Nat.pow_le_pow_right (by decide) (show 7 * k ≤ 56 by omega)) (by decide)
      generalize bs[k].toNat = c at *
      generalize hP : 2 ^ (7 * k) = P at *
      have HP := Lib.hid hP
      have H2 := Lib.hid h2
      clear hP h2 hg
      by_cases hA : k = 9 ∧ 1 < c
      · obtain ⟨rfl, hA2⟩ := hA
        have HR := Lib.hid (HS.out.1 rfl hA2)
        have t1 : decide ((1 : Int) < c) = true := decide_eq_true (by omega)
        clear HS
        go_wp2
        (try rw [Exit.noGoto_ret]); go_ret3
        exact ⟨by rw [HR.out] <;> rfl, hext⟩
      · have hA' : k = 9 → c ≤ 1 := by omega
        by_cases hB : 128 ≤ c
        · have hk9 : k ≠ 9 := by omega
          have HR := Lib.hid (HS.out.2.1 hA' hB)
          have hp8' := hp8 hk9
          have hle : (c - 128) * P ≤ 127 * P := Nat.mul_le_mul_right _ (by omega)
          have t1 : ((k : Int) == 9) = false := by simp; omega
          have t2 : decide ((128 : Int) ≤ c) = true := decide_eq_true (by omega)
          have hk8 : k < 9 := by omega
          have hlt2 : n + (c - 128) * P < P * 128 := by omega
          have HW : Hid (bits .or .u64 (n : Int) (IntKind.u64.wrap (IntKind.u64.wrap (bits .andNot .u8 (c : Int) 128) * 2 ^ (7 * k))) = ((n + (c - 128) * P : Nat) : Int)) := by
            rw [Hid, andNot128 hB hc256, getOr (by rw [HP.out]; exact hn) (by rw [HP.out]; omega), HP.out]
          clear HS hA hA' hp8 hp9 hk9
          go_wp2
          go_roundw
          case rel => exact ⟨k + 1, n + (c - 128) * P, by omega, by omega, by go_num, by rw [HW.out], rfl, rfl, by rw [H2.out]; exact hlt2, hext, HR⟩
          case measure => simp [intOf]; omega
        · have t2 : decide ((128 : Int) ≤ c) = false := decide_eq_false (by omega)
          by_cases hC : c = 0 ∧ 0 < k
          · have HR := Lib.hid (HS.out.2.2.1 hA' (by omega) hC.1 hC.2)
            obtain ⟨rfl, hC2⟩ := hC
            by_cases h9' : k = 9
            · subst h9'
              clear HS hA hA' hp8 hp9
              go_wp2
              (try rw [Exit.noGoto_ret]); go_ret3
              exact ⟨by rw [HR.out] <;> rfl, hext⟩
            · have t1 : ((k : Int) == 9) = false := by simp; omega
              clear HS hA hA' hp8 hp9 h9'
              go_wp2
              (try rw [Exit.noGoto_ret]); go_ret3
              exact ⟨by rw [HR.out] <;> rfl, hext⟩
          · have HR := Lib.hid (HS.out.2.2.2 hA' (by omega) (by omega))
            have hle : n + c * P < 18446744073709551616 := by
              by_cases h : k = 9
              · have : c * P ≤ 1 * P := Nat.mul_le_mul_right _ (hA' h)
                omega
              · have := hp8 h
                have : c * P ≤ 127 * P := Nat.mul_le_mul_right _ (by omega)
                omega
            have HW : Hid (bits .or .u64 (n : Int) (IntKind.u64.wrap ((c : Int) * 2 ^ (7 * k))) = ((n + c * P : Nat) : Int)) := by
              rw [Hid, getOr (by rw [HP.out]; exact hn) (by rw [HP.out]; omega), HP.out]
            by_cases h9' : k = 9
            · have hA1 := hA' h9'
              subst h9'
              have t1 : decide ((1 : Int) < c) = false := decide_eq_false (by omega)
              have t3 : ((c : Int) == 0) = false := by simp; omega
              have HW9 : Hid (bits .or .u64 (n : Int) ((c : Int) * 9223372036854775808) = ((n + c * P : Nat) : Int)) := by
                have h := HW.out
                rw [show (2 : Int) ^ (7 * 9) = 9223372036854775808 by decide, show IntKind.u64.wrap ((c : Int) * 9223372036854775808) = (c : Int) * 9223372036854775808 by rw [IntKind.wrap_u64]; omega] at h
                exact h
              clear HS hA hA' hp8 hp9 HW
              go_wp2
              (try rw [Exit.noGoto_ret]); go_ret3
              exact ⟨by rw [HR.out, ← HW9.out] <;> rfl, hext⟩
            · have t1 : ((k : Int) == 9) = false := by simp; omega
              clear HS hA hA' hp8 hp9 h9'
              by_cases hk0 : k = 0
              · subst hk0
                simp only [Nat.add_zero] at c1
                have HW0 : Hid (bits .or .u64 (n : Int) (c : Int) = ((n + c * P : Nat) : Int)) := by
                  have h := HW.out
                  rw [show (2 : Int) ^ (7 * 0) = 1 by decide, Int.mul_one, show IntKind.u64.wrap (c : Int) = (c : Int) by rw [IntKind.wrap_u64]; omega] at h
                  exact h
                clear HW
                by_cases hc0 : c = 0
                · subst hc0
                  go_wp2
                  (try rw [Exit.noGoto_ret]); go_ret3
                  exact ⟨by rw [HR.out, ← HW0.out] <;> rfl, hext⟩
                · have t3 : ((c : Int) == 0) = false := by simp; omega
                  go_wp2
                  (try rw [Exit.noGoto_ret]); go_ret3
                  exact ⟨by rw [HR.out, ← HW0.out] <;> rfl, hext⟩
              · have t3 : ((c : Int) == 0) = false := by simp; omega
                go_wp2
                (try rw [Exit.noGoto_ret]); go_ret3
                exact ⟨by rw [HR.out, ← HW.out] <;> rfl, hext⟩
    · obtain rfl : k = bs.length := by omega
      have HR : Hid (getB bs = (0, 0, 3)) := by rw [Hid, hg.out, List.drop_length]; rfl
      clear hg
      go_wp2
      (try rw [Exit.noGoto_ret]); go_ret3
      exact ⟨by rw [HR.out] <;> rfl, hext⟩
end Go.Proofs.Ytfeddkfpkdjbeaa
