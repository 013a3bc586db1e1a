/- Inline trees: whether a node stands under another one; how deep it stands; whose parent one is. Decimal digits. Decimal digits: the reference's. -/
import Derived.Test.YtkdnbnkbnegckaaDoorTreeU
import Derived.Test.YtkdnbnkbnegckaaDoorInstr
import Derived.Test.YtkdnbnkbnegckaaDoorBase
import Derived.Test.YtkdnbnkbnegckaaDoorStrA
import Derived.Outline
namespace Go.Proofs.YtkdnbnkbnegckaaDoor
open Go.RowKit

def depthN (l : List NodeT) (n : Int) : Nat := (upF l l.length n).length
set_option maxRecDepth 20000 in
theorem tree_Depth (ao : Option Addr) (cap : Nat) (l : List NodeT) (n : Int) (w : World) (hc : Cells w ao (l.flatMap nodeC)) (hl : l.length ≤ 17592186044416) :
    Calls Tryd.prog 49 #[.slice ao l.length cap, .int .i64 n] w fun e w' => e = .returned (.int .i64 (depthN l n)) ∧ Ext w w' := by
  have hle := upF_len l l.length n
  have HD : Hid (depthN l n = (upF l l.length n).length) := rfl
  go_enter Tryd.func49, Tryd.ntmps49
  go_wp2_with fail
  refine (tree_Up ao cap l n w hc hl).mono ?_
  rintro e w1 ⟨a, c, rfl, hc1, hx1, -⟩
  generalize upF l l.length n = U at *
  go_wp2_with fail
  go_ret
  exact ⟨by rw [HD.out] <;> rfl, hx1⟩
end Go.Proofs.YtkdnbnkbnegckaaDoor
namespace Go.Proofs.YtkdnbnkbnegckaaDoor
open Go.RowKit

def dig8 (m : Nat) : UInt8 := UInt8.ofNat (48 + m)
theorem dig8_nat {m : Nat} (h : m < 10) : (dig8 m).toNat = 48 + m := by
  simp only [dig8, UInt8.toNat_ofNat']; omega
/-- The digits of a number, the last one first. -/
def revDig (m : Nat) : List UInt8 := if m < 10 then [dig8 m] else dig8 (m % 10) :: revDig (m / 10)
termination_by m
decreasing_by omega
theorem revDig_lt {m : Nat} (h : m < 10) : revDig m = [dig8 m] := by rw [revDig, if_pos h]
theorem revDig_ge {m : Nat} (h : 10 ≤ m) : revDig m = dig8 (m % 10) :: revDig (m / 10) := by rw [revDig, if_neg (by omega)]
theorem revDig_len : ∀ (k m : Nat), 1 ≤ k → m < 10 ^ k → (revDig m).length ≤ k := by
  intro k
  induction k with
  | zero => intro m h; omega
  | succ k ih =>
    intro m _ h
    by_cases hm : m < 10
    · rw [revDig_lt hm]; simp
    · rw [revDig_ge (by omega), List.length_cons]
      have hk : 1 ≤ k := by
        rcases Nat.eq_zero_or_pos k with rfl | h2
        · simp at h; omega
        · exact h2
      have := ih (m / 10) hk (by rw [Nat.div_lt_iff_lt_mul (by decide)]; rw [Nat.pow_succ] at h; exact h)
      omega
/-- The digits of a number, with a sign. -/
def digN (m : Nat) : List UInt8 := (revDig m).reverse
def decB (n : Int) : List UInt8 := if n < 0 then 45 :: digN n.natAbs else digN n.natAbs
theorem digN_lt {m : Nat} (h : m < 10) : digN m = [dig8 m] := by rw [digN, revDig_lt h]; rfl
theorem digN_ge {m : Nat} (h : 10 ≤ m) : digN m = digN (m / 10) ++ digN (m % 10) := by
  rw [digN, revDig_ge h, List.reverse_cons, digN_lt (show m % 10 < 10 by omega)]; rfl
theorem decB_neg {n : Int} (h : n < 0) : decB n = 45 :: digN n.natAbs := by rw [decB, if_pos h]
theorem decB_nn {n : Int} (h : ¬ n < 0) : decB n = digN n.natAbs := by rw [decB, if_neg h]
theorem digN_len {m : Nat} (h : m ≤ 9223372036854775808) : (digN m).length ≤ 19 := by
  rw [digN, List.length_reverse]; exact revDig_len 19 m (by decide) (by omega)
theorem decB_len {n : Int} (h1 : -9223372036854775808 ≤ n) (h2 : n ≤ 9223372036854775807) : (decB n).length ≤ 20 := by
  have := digN_len (m := n.natAbs) (by omega)
  unfold decB; split <;> simp <;> omega
/-- What is left to lay. -/
def restD (m : Nat) (done : List UInt8) : List UInt8 := if m = 0 ∧ done ≠ [] then [] else revDig m
theorem restD_step {m : Nat} {done : List UInt8} (h : ¬ (m = 0 ∧ done ≠ [])) : restD m done = dig8 (m % 10) :: restD (m / 10) (done ++ [dig8 (m % 10)]) := by
  rw [restD, if_neg h]
  by_cases hm : m < 10
  · rw [revDig_lt hm, restD, if_pos ⟨by omega, by simp⟩, show m % 10 = m by omega]
  · rw [revDig_ge (by omega), restD, if_neg]
    rintro ⟨h1, -⟩; omega
theorem restD_end {m : Nat} {done : List UInt8} (h : m = 0 ∧ done ≠ []) : restD m done = [] := by rw [restD, if_pos h]
/-- A measure. -/
def measD (m : Nat) (done : List UInt8) : Nat := 2 * m + (if done = [] then 1 else 0)
theorem measD_step {m : Nat} {done : List UInt8} (h : ¬ (m = 0 ∧ done ≠ [])) (c : UInt8) : measD (m / 10) (done ++ [c]) < measD m done := by
  unfold measD
  rw [if_neg (by simp)]
  by_cases hd : done = []
  · rw [if_pos hd]; omega
  · rw [if_neg hd]
    have : m ≠ 0 := fun e => h ⟨e, hd⟩
    omega
end Go.Proofs.YtkdnbnkbnegckaaDoor
namespace Go.Proofs.YtkdnbnkbnegckaaDoor
open Go.RowKit

def strB (l : List UInt8) : ByteArray := ⟨l.toArray⟩
theorem strB_app (a b : List UInt8) : strB a ++ strB b = strB (a ++ b) := by
  apply ByteArray.ext; simp [strB, ByteArray.data_append]
theorem strB_size (a : List UInt8) : (strB a).size = a.length := by simp [strB, ByteArray.size]
theorem strB_lit1 (c : UInt8) (xs : List UInt8) : (⟨#[c]⟩ : ByteArray) ++ strB xs = strB (c :: xs) := by
  rw [show (⟨#[c]⟩ : ByteArray) = strB [c] from rfl, strB_app]; rfl

theorem conv_one (w : World) (m : Nat) (h : m < 10) : (convert 49 9 (.slice (some ⟨w.heap.size, 0, none⟩) 1 1)).run Tryd.prog (w.alloc (.cells #[.int .u8 (48 + (m : Int))] 5)) = .ok (.string (strB [dig8 m])) (w.alloc (.cells #[.int .u8 (48 + (m : Int))] 5)) := by
  have e : [Value.int .u8 (48 + (m : Int))] = [dig8 m].map byteC := by
    simp only [List.map_cons, List.map_nil, byteC, dig8_nat h]; rfl
  refine run_bytes_string (P := Tryd.prog) 1 rfl Tryd.underlying49 Tryd.underlying5 Tryd.underlying9 ?_
  rw [← e]
  exact cells_new w _ _ _ rfl

set_option maxHeartbeats 1000000 in
set_option maxRecDepth 20000 in
theorem refdigits : ∀ (f m : Nat) (w : World), m < 10 ^ (f + 1) → m ≤ 9223372036854775808 → Calls Tryd.prog 51 #[.int .i64 m] w fun e w' => e = .returned (.string (strB (digN m))) ∧ Ext w w' := by
  intro f
  induction f with
  | zero =>
    intro m w h _
    have hlt : m < 10 := by omega
    have HD := Lib.hid (digN_lt hlt)
    have hw8 : IntKind.u8.wrap ((48 : Int) + m) = 48 + m := by rw [IntKind.wrap_u8]; omega
    have hcv := conv_one w m hlt
    clear h
    go_enter Tryd.func51, Tryd.ntmps51
    go_wp2_with fail
    go_ret
    exact ⟨by rw [HD.out] <;> rfl, (Ext.rf w).al _⟩
  | succ f ih =>
    intro m w h h2
    by_cases hlt : m < 10
    · have HD := Lib.hid (digN_lt hlt)
      have hw8 : IntKind.u8.wrap ((48 : Int) + m) = 48 + m := by rw [IntKind.wrap_u8]; omega
      have hcv := conv_one w m hlt
      clear h ih
      go_enter Tryd.func51, Tryd.ntmps51
      go_wp2_with fail
      go_ret
      exact ⟨by rw [HD.out] <;> rfl, (Ext.rf w).al _⟩
    · have HD := Lib.hid (digN_ge (show 10 ≤ m by omega))
      have HI : Hid (∀ W, Calls Tryd.prog 51 #[.int .i64 ((m : Int) / 10)] W fun e w' => e = .returned (.string (strB (digN (m / 10)))) ∧ Ext W w') := fun W => by
        have := ih (m / 10) W (by rw [Nat.div_lt_iff_lt_mul (by decide)]; rw [Nat.pow_succ] at h; exact h) (by omega)
        rwa [show ((m / 10 : Nat) : Int) = (m : Int) / 10 from by omega] at this
      have HJ : Hid (∀ W, Calls Tryd.prog 51 #[.int .i64 ((m : Int) % 10)] W fun e w' => e = .returned (.string (strB (digN (m % 10)))) ∧ Ext W w') := fun W => by
        have := ih (m % 10) W (Nat.lt_of_lt_of_le (Nat.mod_lt _ (by decide)) (Nat.pow_le_pow_right (n := 10) (by decide) (show 1 ≤ f + 1 by omega))) (by omega)
        rwa [show ((m % 10 : Nat) : Int) = (m : Int) % 10 from by omega] at this
      clear h ih
      go_enter Tryd.func51, Tryd.ntmps51
      go_wp2_with fail
      refine (HI.out _).mono ?_
      rintro e w1 ⟨rfl, hx1⟩
      go_wp2_with fail
      refine (HJ.out _).mono ?_
      rintro e w2 ⟨rfl, hx2⟩
      have hsz : (strB (digN (m / 10))).size + (strB (digN (m % 10))).size ≤ 9223372036854775807 := by
        have h1 := digN_len (m := m / 10) (by omega)
        have h2 := digN_len (m := m % 10) (by omega)
        rw [strB_size, strB_size]; omega
      go_wp2_with fail
      go_ret
      exact ⟨by rw [HD.out, ← strB_app] <;> rfl, hx1.tr hx2⟩

theorem tdiv10 (m : Nat) : (-(m : Int)).tdiv 10 = -((m / 10 : Nat) : Int) := by rw [Int.neg_tdiv]; rfl
theorem tmod10 (m : Nat) : (-(m : Int)).tmod 10 = -((m % 10 : Nat) : Int) := by rw [Int.neg_tmod]; rfl
theorem refdig_any (m : Nat) (w : World) (h : m ≤ 9223372036854775808) : Calls Tryd.prog 51 #[.int .i64 m] w fun e w' => e = .returned (.string (strB (digN m))) ∧ Ext w w' :=
  refdigits 18 m w (by omega) h

set_option maxHeartbeats 1000000 in
set_option maxRecDepth 20000 in
theorem ref_Digits (n : Int) (w : World) (h1 : -9223372036854775808 ≤ n) (h2 : n ≤ 9223372036854775807) : Calls Tryd.prog 30 #[.int .i64 n] w fun e w' => e = .returned (.string (strB (decB n))) ∧ Ext w w' := by
  by_cases h : n < 0
  · obtain ⟨m, rfl⟩ : ∃ m : Nat, n = -(m : Int) := ⟨n.natAbs, by omega⟩
    have HD : Hid (decB (-(m : Int)) = 45 :: digN m) := by rw [Hid, decB_neg h]; congr 2; omega
    have hq := tdiv10 m
    have hr := tmod10 m
    have t1 : decide (0 ≤ -(m : Int)) = false := decide_eq_false (by omega)
    by_cases hm : m < 10
    · have hz : m / 10 = 0 := by omega
      rw [hz] at hq
      have HL := Lib.hid (digN_len (m := m) (by omega))
      have hsz : 1 + (strB (digN m)).size ≤ 9223372036854775807 := by have := HL.out; rw [strB_size]; omega
      have hm0 : decide (m = 0) = false := decide_eq_false (by omega)
      go_enter Tryd.func30, Tryd.ntmps30
      go_wp2_with fail
      refine (refdig_any m _ (by omega)).mono ?_
      rintro e w1 ⟨rfl, hx1⟩
      go_wp2_with fail
      go_ret
      exact ⟨by rw [HD.out, ← strB_lit1] <;> rfl, hx1⟩
    · have HG := Lib.hid (digN_ge (show 10 ≤ m by omega))
      have HL := Lib.hid (digN_len (m := m / 10) (by omega))
      have HM := Lib.hid (digN_len (m := m % 10) (by omega))
      have hsz : 1 + (strB (digN (m / 10))).size ≤ 9223372036854775807 := by have := HL.out; rw [strB_size]; omega
      have hsz2 : 1 + (strB (digN (m / 10))).size + (strB (digN (m % 10))).size ≤ 9223372036854775807 := by have := HL.out; have := HM.out; rw [strB_size, strB_size]; omega
      have hm0 : decide (m = 0) = false := decide_eq_false (by omega)
      have HA := Lib.hid (fun W => refdig_any (m / 10) W (by omega))
      have HB := Lib.hid (fun W => refdig_any (m % 10) W (by omega))
      have hz : 1 ≤ m / 10 := by omega
      have hz3 : m / 10 ≤ 922337203685477580 := by omega
      have hz2 : m % 10 < 10 := Nat.mod_lt _ (by decide)
      have hz0 : ((-((m / 10 : Nat) : Int)) == 0) = false := beq_eq_false_iff_ne.2 (by omega)
      generalize m / 10 = q at *
      generalize m % 10 = r at *
      have hq0 : decide (q = 0) = false := decide_eq_false (by omega)
      go_enter Tryd.func30, Tryd.ntmps30
      go_wp2_with fail
      refine (HA.out _).mono ?_
      rintro e w1 ⟨rfl, hx1⟩
      go_wp2_with fail
      refine (HB.out _).mono ?_
      rintro e w2 ⟨rfl, hx2⟩
      go_wp2_with fail
      go_ret
      exact ⟨by rw [HD.out, HG.out, ← List.cons_append, ← strB_app, ← strB_lit1] <;> rfl, hx1.tr hx2⟩
  · obtain ⟨m, rfl⟩ := Int.eq_ofNat_of_zero_le (show 0 ≤ n by omega)
    have HD : Hid (decB (m : Int) = digN m) := by rw [Hid, decB_nn h]; congr 1
    have t1 : decide (0 ≤ (m : Int)) = true := decide_eq_true (by omega)
    go_enter Tryd.func30, Tryd.ntmps30
    go_wp2_with fail
    refine (refdig_any m _ (by omega)).mono ?_
    rintro e w1 ⟨rfl, hx1⟩
    go_wp2_with fail
    go_ret
    exact ⟨by rw [HD.out] <;> rfl, hx1⟩
end Go.Proofs.YtkdnbnkbnegckaaDoor
