/- Instructions: what their operands are, whether they may be. -/
import Derived.Test.YtkdnbnkbnegckaaData
import Derived.Test.YtkdnbnkbnegckaaStructQ
import Derived.Outline
namespace Go.Proofs.Ytkdnbnkbnegckaa
open Go.RowKit

def opTab : List Int := [0, 1, 2, 2, 0, 0, 0, 0, 0, 0, 0, 0, 0, 0, 0, 0, 0, 0, 0, 0, 0, 3, 3, 4, 4, 0, 0, 0, 5, 5, 0, 0, 0, 6, 6]
def isOp (op : Int) : Bool := decide (0 ≤ op) && decide (op < 35)
def opAt (k : Nat) : Int := opTab.getD k 0
theorem opAt_get {k : Nat} (h : k < 35) : opTab[k]? = some (opAt k) := by
  rw [opAt, List.getD_eq_getElem?_getD, List.getElem?_eq_getElem (show k < opTab.length from h)]; rfl
def operandI (op : Int) : Int := if isOp op then opAt op.toNat else 0
def mostI (k : Int) : Int := if k = 2 then 255 else if k = 3 then 1999 else if k = 4 then 39 else if k = 5 then 3 else if k = 6 then 119 else 0
def mayOperand (k n : Int) : Bool := k == 1 || (decide (0 ≤ n) && decide (n ≤ mostI k))
def rightInstr (i : InstrT) : Bool := isOp i.1 && mayOperand (operandI i.1) i.2

theorem operandI_0 {op : Int} (h0 : ¬ op = 1) (h1 : ¬ op = 2) (h2 : ¬ op = 3) (h3 : ¬ op = 21) (h4 : ¬ op = 22) (h5 : ¬ op = 23) (h6 : ¬ op = 24) (h7 : ¬ op = 28) (h8 : ¬ op = 29) (h9 : ¬ op = 33) (h10 : ¬ op = 34) : operandI op = 0 := by
  unfold operandI; split
  · rename_i h
    simp only [isOp, Bool.and_eq_true, decide_eq_true_eq] at h
    obtain ⟨k, rfl⟩ := Int.eq_ofNat_of_zero_le h.1
    have : ∀ k : Nat, k < 35 → k = 1 ∨ k = 2 ∨ k = 3 ∨ k = 21 ∨ k = 22 ∨ k = 23 ∨ k = 24 ∨ k = 28 ∨ k = 29 ∨ k = 33 ∨ k = 34 ∨ opAt k = 0 := by decide
    rw [Int.toNat_natCast]
    have := this k (by omega)
    omega
  · rfl
theorem operandI_lt (op : Int) : 0 ≤ operandI op ∧ operandI op < 7 := by
  unfold operandI; split
  · rename_i h
    simp only [isOp, Bool.and_eq_true, decide_eq_true_eq] at h
    obtain ⟨k, rfl⟩ := Int.eq_ofNat_of_zero_le h.1
    have : ∀ k : Nat, k < 35 → 0 ≤ opAt k ∧ opAt k < 7 := by decide
    rw [Int.toNat_natCast]
    exact this k (by omega)
  · decide

theorem ops_is (op : Int) (w : World) : Calls Try.prog 40 #[.int .i64 op] w fun e w' => e = .returned (.bool (isOp op)) ∧ w = w' := by
  unfold isOp
  cases t1 : decide (0 ≤ op) <;> cases t2 : decide (op < 35) <;>
  (go_enter Try.func40, Try.ntmps40
   go_wp2
   go_ret
   exact ⟨rfl, rfl⟩)

set_option maxRecDepth 100000 in
theorem ops_Operand (op : Int) (w : World) : Calls Try.prog 39 #[.int .i64 op] w fun e w' => e = .returned (.int .i64 (operandI op)) ∧ w = w' := by
  cases t1 : isOp op with
  | false =>
    have HR : Hid (operandI op = 0) := by simp [Hid, operandI, t1]
    go_enter Try.func39, Try.ntmps39
    go_wp2_with fail
    refine (ops_is op w).mono ?_
    rw [t1]
    rintro e w1 ⟨rfl, rfl⟩
    clear t1
    go_wp2_with fail
    go_ret
    exact ⟨by rw [HR.out] <;> rfl, rfl⟩
  | true =>
    have HR : Hid (operandI op = opAt op.toNat) := by simp [Hid, operandI, t1]
    have t2 := t1
    simp only [isOp, Bool.and_eq_true, decide_eq_true_eq] at t2
    obtain ⟨h0, h1⟩ := t2
    obtain ⟨k, rfl⟩ := Int.eq_ofNat_of_zero_le h0
    have hk : k < 35 := by omega
    clear h0 h1
    rw [Int.toNat_natCast] at HR
    have hi := fun W => run_index_ints (P := Try.prog) (k := .i64) (ki := .i64) (t := 80) (e := 3) (n := 35) Try.underlying80 Try.underlying3 (fun _ => by kernel_rfl) opTab rfl k hk _ (opAt_get hk) W
    simp only [opTab, List.map_cons, List.map_nil] at hi
    go_enter Try.func39, Try.ntmps39
    go_wp2_with fail
    refine (ops_is _ w).mono ?_
    rw [t1]
    rintro e w1 ⟨rfl, rfl⟩
    clear t1
    go_wp2_with fail
    go_ret
    exact ⟨by rw [HR.out] <;> rfl, rfl⟩

theorem operand_most (k : Int) (w : World) : Calls Try.prog 45 #[.int .i64 k] w fun e w' => e = .returned (.int .i64 (mostI k)) ∧ w = w' := by
  by_cases h0 : k = 2
  · subst h0
    go_enter Try.func45, Try.ntmps45
    go_wp2
    go_ret
    exact ⟨rfl, rfl⟩
  have n0 : (k == 2) = false := beq_eq_false_iff_ne.2 h0
  by_cases h1 : k = 3
  · subst h1
    go_enter Try.func45, Try.ntmps45
    go_wp2
    go_ret
    exact ⟨rfl, rfl⟩
  have n1 : (k == 3) = false := beq_eq_false_iff_ne.2 h1
  by_cases h2 : k = 4
  · subst h2
    go_enter Try.func45, Try.ntmps45
    go_wp2
    go_ret
    exact ⟨rfl, rfl⟩
  have n2 : (k == 4) = false := beq_eq_false_iff_ne.2 h2
  by_cases h3 : k = 5
  · subst h3
    go_enter Try.func45, Try.ntmps45
    go_wp2
    go_ret
    exact ⟨rfl, rfl⟩
  have n3 : (k == 5) = false := beq_eq_false_iff_ne.2 h3
  by_cases h4 : k = 6
  · subst h4
    go_enter Try.func45, Try.ntmps45
    go_wp2
    go_ret
    exact ⟨rfl, rfl⟩
  have n4 : (k == 6) = false := beq_eq_false_iff_ne.2 h4
  have HR : Hid (mostI k = 0) := by simp [Hid, mostI, h0, h1, h2, h3, h4]
  clear h0 h1 h2 h3 h4
  go_enter Try.func45, Try.ntmps45
  go_wp2
  go_ret
  exact ⟨by rw [HR.out] <;> rfl, rfl⟩

theorem operand_may (k n : Int) (w : World) : Calls Try.prog 38 #[.int .i64 k, .int .i64 n] w fun e w' => e = .returned (.bool (mayOperand k n)) ∧ w = w' := by
  unfold mayOperand
  cases t1 : k == 1 <;> cases t2 : decide (0 ≤ n) <;> cases t3 : decide (n ≤ mostI k) <;>
  (go_enter Try.func38, Try.ntmps38
   go_wp2_with fail
   first
   | (refine (operand_most k w).mono ?_
      rintro e w1 ⟨rfl, rfl⟩
      go_wp2_with fail
      go_ret
      exact ⟨rfl, rfl⟩)
   | (go_ret; exact ⟨rfl, rfl⟩))

theorem instrref_most (k : Nat) (w : World) (hk : k < 7) : Calls Try.prog 42 #[.int .i64 k] w fun e w' => e = .returned (.int .i64 (mostI k)) ∧ w = w' := by
  have hi := fun W => run_index_ints (P := Try.prog) (k := .i64) (ki := .i64) (t := 81) (e := 3) (n := 7) Try.underlying81 Try.underlying3 (fun _ => by kernel_rfl) [0, 0, 255, 1999, 39, 3, 119] rfl k hk (mostI k) (by
    rcases (by omega : k = 0 ∨ k = 1 ∨ k = 2 ∨ k = 3 ∨ k = 4 ∨ k = 5 ∨ k = 6) with rfl | rfl | rfl | rfl | rfl | rfl | rfl <;> rfl) W
  simp only [List.map_cons, List.map_nil] at hi
  go_enter Try.func42, Try.ntmps42
  go_wp2
  go_ret
  exact ⟨rfl, rfl⟩

theorem opsref_Operand (op : Int) (w : World) : Calls Try.prog 35 #[.int .i64 op] w fun e w' => e = .returned (.int .i64 (operandI op)) ∧ w = w' := by
  by_cases h0 : op = 1
  · subst h0
    go_enter Try.func35, Try.ntmps35
    go_wp2
    go_ret
    exact ⟨rfl, rfl⟩
  have n0 : (op == 1) = false := beq_eq_false_iff_ne.2 h0
  by_cases h1 : op = 2
  · subst h1
    go_enter Try.func35, Try.ntmps35
    go_wp2
    go_ret
    exact ⟨rfl, rfl⟩
  have n1 : (op == 2) = false := beq_eq_false_iff_ne.2 h1
  by_cases h2 : op = 3
  · subst h2
    go_enter Try.func35, Try.ntmps35
    go_wp2
    go_ret
    exact ⟨rfl, rfl⟩
  have n2 : (op == 3) = false := beq_eq_false_iff_ne.2 h2
  by_cases h3 : op = 21
  · subst h3
    go_enter Try.func35, Try.ntmps35
    go_wp2
    go_ret
    exact ⟨rfl, rfl⟩
  have n3 : (op == 21) = false := beq_eq_false_iff_ne.2 h3
  by_cases h4 : op = 22
  · subst h4
    go_enter Try.func35, Try.ntmps35
    go_wp2
    go_ret
    exact ⟨rfl, rfl⟩
  have n4 : (op == 22) = false := beq_eq_false_iff_ne.2 h4
  by_cases h5 : op = 23
  · subst h5
    go_enter Try.func35, Try.ntmps35
    go_wp2
    go_ret
    exact ⟨rfl, rfl⟩
  have n5 : (op == 23) = false := beq_eq_false_iff_ne.2 h5
  by_cases h6 : op = 24
  · subst h6
    go_enter Try.func35, Try.ntmps35
    go_wp2
    go_ret
    exact ⟨rfl, rfl⟩
  have n6 : (op == 24) = false := beq_eq_false_iff_ne.2 h6
  by_cases h7 : op = 28
  · subst h7
    go_enter Try.func35, Try.ntmps35
    go_wp2
    go_ret
    exact ⟨rfl, rfl⟩
  have n7 : (op == 28) = false := beq_eq_false_iff_ne.2 h7
  by_cases h8 : op = 29
  · subst h8
    go_enter Try.func35, Try.ntmps35
    go_wp2
    go_ret
    exact ⟨rfl, rfl⟩
  have n8 : (op == 29) = false := beq_eq_false_iff_ne.2 h8
  by_cases h9 : op = 33
  · subst h9
    go_enter Try.func35, Try.ntmps35
    go_wp2
    go_ret
    exact ⟨rfl, rfl⟩
  have n9 : (op == 33) = false := beq_eq_false_iff_ne.2 h9
  by_cases h10 : op = 34
  · subst h10
    go_enter Try.func35, Try.ntmps35
    go_wp2
    go_ret
    exact ⟨rfl, rfl⟩
  have n10 : (op == 34) = false := beq_eq_false_iff_ne.2 h10
  have HR : Hid (operandI op = 0) := operandI_0 h0 h1 h2 h3 h4 h5 h6 h7 h8 h9 h10
  clear h0 h1 h2 h3 h4 h5 h6 h7 h8 h9 h10
  go_enter Try.func35, Try.ntmps35
  go_wp2
  go_ret
  exact ⟨by rw [HR.out] <;> rfl, rfl⟩


set_option maxRecDepth 20000 in
theorem instr_Right (a b : Int) (w : World) : Calls Try.prog 28 #[.agg #[.int .i64 a, .int .i64 b]] w fun e w' => e = .returned (.bool (rightInstr (a, b))) ∧ Ext w w' := by
  unfold rightInstr isOp
  cases t1 : decide (0 ≤ a) <;> cases t2 : decide (a < 35) <;>
  (go_enter Try.func28, Try.ntmps28
   go_wp2
   go_quiet ((first | (go_at_call 39; exact quiet_same (ops_Operand _ _)) | (go_at_call 38; exact quiet_same (operand_may _ _ _))))
   go_wp2
   go_ret
   exact ⟨rfl, ((Ext.rf w).al _).drN _⟩)

theorem instr_has (op : Int) (w : World) : Calls Try.prog 29 #[.int .i64 op] w fun e w' => e = .returned (.bool (operandI op != 0)) ∧ w = w' := by
  go_enter Try.func29, Try.ntmps29
  go_wp2_with fail
  refine (ops_Operand op w).mono ?_
  rintro e w1 ⟨rfl, rfl⟩
  go_wp2_with fail
  go_ret
  exact ⟨rfl, rfl⟩

set_option maxRecDepth 20000 in
theorem instrref_Right (a b : Int) (w : World) : Calls Try.prog 33 #[.agg #[.int .i64 a, .int .i64 b]] w fun e w' => e = .returned (.bool (rightInstr (a, b))) ∧ Ext w w' := by
  obtain ⟨k, hk, hk7⟩ : ∃ k : Nat, operandI a = k ∧ k < 7 := by
    obtain ⟨h0, h1⟩ := operandI_lt a
    exact ⟨(operandI a).toNat, by omega, by omega⟩
  cases h : isOp a with
  | true =>
    have h' := h
    simp only [isOp, Bool.and_eq_true, decide_eq_true_eq] at h'
    have t1 : decide (a < 0) = false := decide_eq_false (by omega)
    have t2 : decide (35 ≤ a) = false := decide_eq_false (by omega)
    have HR : Hid (rightInstr (a, b) = ((k : Int) == 1 || (decide (0 ≤ b) && decide (b ≤ mostI k)))) := by rw [Hid, rightInstr, h, Bool.true_and, hk, mayOperand]
    have HK := Lib.hid hk
    clear h h' hk
    cases t3 : (k : Int) == 1 <;> cases t4 : decide (0 ≤ b) <;> cases t5 : decide (b ≤ mostI k) <;>
    (rw [t3, t4, t5] at HR
     go_enter Try.func33, Try.ntmps33
     go_wp2_with fail
     refine (opsref_Operand a _).mono ?_
     rw [HK.out]
     rintro e w1 ⟨rfl, rfl⟩
     go_wp2_with fail
     go_quiet ((go_at_call 42; exact quiet_same (instrref_most k _ hk7)))
     go_wp2
     go_ret
     exact ⟨by rw [HR.out] <;> rfl, ((Ext.rf w).al _).drN _⟩)
  | false =>
    have HR : Hid (rightInstr (a, b) = false) := by rw [Hid, rightInstr, h, Bool.false_and]
    clear hk
    by_cases h0 : a < 0
    · have t1 : decide (a < 0) = true := decide_eq_true h0
      clear h
      go_enter Try.func33, Try.ntmps33
      go_wp2_with fail
      go_ret
      exact ⟨by rw [HR.out] <;> rfl, ((Ext.rf w).al _)⟩
    · have t1 : decide (a < 0) = false := decide_eq_false h0
      have t2 : decide (35 ≤ a) = true := by
        simp only [isOp, Bool.and_eq_false_iff, decide_eq_false_iff_not] at h
        exact decide_eq_true (by omega)
      clear h
      go_enter Try.func33, Try.ntmps33
      go_wp2_with fail
      go_ret
      exact ⟨by rw [HR.out] <;> rfl, ((Ext.rf w).al _)⟩
end Go.Proofs.Ytkdnbnkbnegckaa
