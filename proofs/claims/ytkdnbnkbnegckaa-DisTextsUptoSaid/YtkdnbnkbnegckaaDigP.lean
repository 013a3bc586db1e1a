/- Lists of types: may they be; whether two are the same; their bytes. Decimal digits. -/
import Derived.Test.YtkdnbnkbnegckaaUvarW
import Derived.Test.YtkdnbnkbnegckaaBase
import Derived.Test.YtkdnbnkbnegckaaStrA
namespace Go.Proofs.Ytkdnbnkbnegckaa
open Go.RowKit

theorem letterB_1 : letterB 1 = 105 := rfl
theorem letterB_2 : letterB 2 = 99 := rfl
theorem letterB_other {a : Int} (h1 : (a == 1) = false) (h2 : (a == 2) = false) : letterB a = 63 := by simp at h1 h2; simp [letterB, h1, h2]
theorem app_letter (xs : List UInt8) (c : UInt8) : (⟨xs.toArray⟩ : ByteArray) ++ ⟨#[c]⟩ = ⟨(xs ++ [c]).toArray⟩ := by
  apply ByteArray.ext; simp [ByteArray.data_append]

set_option maxHeartbeats 1000000 in
set_option maxRecDepth 20000 in
theorem sigref_Text (ao : Option Addr) (cap : Nat) (l : List Int) (w : World) (hc : Cells w ao (l.map (.int .i64))) (hl : l.length ≤ 17592186044416) :
    Calls Try.prog 31 #[.slice ao l.length cap] w fun e w' => e = .returned (.string (textS l)) ∧ Ext w w' := by
  go_enter Try.func31, Try.ntmps31
  go_wp2
  go_loopw [3, 4] (fun s i wr => ∃ k : Nat, k ≤ l.length ∧ i = .int .i64 k ∧ s = .string ⟨((l.take k).map letterB).toArray⟩ ∧ Ext w wr)
    (fun _ i _ => l.length - (intOf i).toNat)
  case atStart => exact ⟨0, Nat.zero_le _, rfl, rfl, Ext.rf w⟩
  case round =>
    obtain ⟨k, hk, rfl, rfl, hext⟩ := hrel
    by_cases hlt : k < l.length
    · obtain ⟨b, off, rfl, c1⟩ := (hc.ext hext).at (k := k) (by simpa using hlt)
      simp only [List.getElem_map] at c1
      have HS : Hid ((l.take (k + 1)).map letterB = (l.take k).map letterB ++ [letterB l[k]]) := by rw [Hid, List.take_succ_eq_append_getElem hlt, List.map_append]; rfl
      have hsz : ((l.take k).map letterB).length = k := by simp; omega
      generalize (l.take k).map letterB = D at *
      subst hsz
      generalize l[D.length] = a at *
      by_cases h1 : a = 1
      · subst h1
        rw [letterB_1] at HS
        have HA := Lib.hid (app_letter D 105)
        go_wp2
        go_roundw
        case rel => exact ⟨D.length + 1, by omega, by go_num, by rw [HA.out, HS.out], hext⟩
        case measure => simp [intOf]; omega
      · have t1 : (a == 1) = false := by simpa using h1
        clear h1
        by_cases h2 : a = 2
        · subst h2
          rw [letterB_2] at HS
          have HA := Lib.hid (app_letter D 99)
          go_wp2
          go_roundw
          case rel => exact ⟨D.length + 1, by omega, by go_num, by rw [HA.out, HS.out], hext⟩
          case measure => simp [intOf]; omega
        · have t2 : (a == 2) = false := by simpa using h2
          clear h2
          rw [letterB_other t1 t2] at HS
          have HA := Lib.hid (app_letter D 63)
          go_wp2
          go_roundw
          case rel => exact ⟨D.length + 1, by omega, by go_num, by rw [HA.out, HS.out], hext⟩
          case measure => simp [intOf]; omega
    · obtain rfl : k = l.length := by omega
      rw [List.take_of_length_le (Nat.le_refl _)]
      clear hlt
      by_cases h0 : l = []
      · subst h0
        go_wp2
        go_ret
        exact ⟨rfl, hext⟩
      · have t1 : (l.map letterB).isEmpty = false := by simpa using h0
        have HR : Hid (textS l = ⟨(l.map letterB).toArray⟩) := by simp [Hid, textS, textB, h0]
        clear h0
        generalize l.map letterB = D at *
        go_wp2
        go_ret
        exact ⟨by rw [HR.out] <;> rfl, hext⟩

end Go.Proofs.Ytkdnbnkbnegckaa
namespace Go.Proofs.Ytkdnbnkbnegckaa
open Go.RowKit

def dig8 (m : Nat) : UInt8 := UInt8.ofNat (48 + m)
theorem dig8_nat {m : Nat} (h : m < 10) : (dig8 m).toNat = 48 + m := by
  simp only [dig8, UInt8.toNat_ofNat']; omega
/-- The digits of a number, the last one first. -/
def revDig (m : Nat) : List UInt8 := if m < 10 then [dig8 m] else dig8 (m % 10) :: revDig (m / 10)
termination_by m
decreasing_by omega
theorem revDig_lt {m : Nat} (h : m < 10) : revDig m = [dig8 m] := by rw [revDig, if_pos h]
theorem revDig_ge {m : Nat} (h : 10 ≤ m) : revDig m = dig8 (m % 10) :: revDig (m / 10) := by rw [revDig, if_neg (by omega)]
theorem revDig_len : ∀ (k m : Nat), 1 ≤ k → m < 10 ^ k → (revDig m).length ≤ k := by
  intro k
  induction k with
  | zero => intro m h; omega
  | succ k ih =>
    intro m _ h
    by_cases hm : m < 10
    · rw [revDig_lt hm]; simp
    · rw [revDig_ge (by omega), List.length_cons]
      have hk : 1 ≤ k := by
        rcases Nat.eq_zero_or_pos k with rfl | h2
        · simp at h; omega
        · exact h2
      have := ih (m / 10) hk (by rw [Nat.div_lt_iff_lt_mul (by decide)]; rw [Nat.pow_succ] at h; exact h)
      omega
/-- The digits of a number, with a sign. -/
def digN (m : Nat) : List UInt8 := (revDig m).reverse
def decB (n : Int) : List UInt8 := if n < 0 then 45 :: digN n.natAbs else digN n.natAbs
theorem digN_lt {m : Nat} (h : m < 10) : digN m = [dig8 m] := by rw [digN, revDig_lt h]; rfl
theorem digN_ge {m : Nat} (h : 10 ≤ m) : digN m = digN (m / 10) ++ digN (m % 10) := by
  rw [digN, revDig_ge h, List.reverse_cons, digN_lt (show m % 10 < 10 by omega)]; rfl
theorem decB_neg {n : Int} (h : n < 0) : decB n = 45 :: digN n.natAbs := by rw [decB, if_pos h]
theorem decB_nn {n : Int} (h : ¬ n < 0) : decB n = digN n.natAbs := by rw [decB, if_neg h]
theorem digN_len {m : Nat} (h : m ≤ 9223372036854775808) : (digN m).length ≤ 19 := by
  rw [digN, List.length_reverse]; exact revDig_len 19 m (by decide) (by omega)
theorem decB_len {n : Int} (h1 : -9223372036854775808 ≤ n) (h2 : n ≤ 9223372036854775807) : (decB n).length ≤ 20 := by
  have := digN_len (m := n.natAbs) (by omega)
  unfold decB; split <;> simp <;> omega
/-- What is left to lay. -/
def restD (m : Nat) (done : List UInt8) : List UInt8 := if m = 0 ∧ done ≠ [] then [] else revDig m
theorem restD_step {m : Nat} {done : List UInt8} (h : ¬ (m = 0 ∧ done ≠ [])) : restD m done = dig8 (m % 10) :: restD (m / 10) (done ++ [dig8 (m % 10)]) := by
  rw [restD, if_neg h]
  by_cases hm : m < 10
  · rw [revDig_lt hm, restD, if_pos ⟨by omega, by simp⟩, show m % 10 = m by omega]
  · rw [revDig_ge (by omega), restD, if_neg]
    rintro ⟨h1, -⟩; omega
theorem restD_end {m : Nat} {done : List UInt8} (h : m = 0 ∧ done ≠ []) : restD m done = [] := by rw [restD, if_pos h]
/-- A measure. -/
def measD (m : Nat) (done : List UInt8) : Nat := 2 * m + (if done = [] then 1 else 0)
theorem measD_step {m : Nat} {done : List UInt8} (h : ¬ (m = 0 ∧ done ≠ [])) (c : UInt8) : measD (m / 10) (done ++ [c]) < measD m done := by
  unfold measD
  rw [if_neg (by simp)]
  by_cases hd : done = []
  · rw [if_pos hd]; omega
  · rw [if_neg hd]
    have : m ≠ 0 := fun e => h ⟨e, hd⟩
    omega
end Go.Proofs.Ytkdnbnkbnegckaa
