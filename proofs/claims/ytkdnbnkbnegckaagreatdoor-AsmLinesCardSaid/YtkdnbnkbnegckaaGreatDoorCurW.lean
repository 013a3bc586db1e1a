/- Instructions: what their operands are, whether they may be. The names of the instructions, in plain Lean. The number that bytes begin with: the walks of uvar.Get, Unfold, and of their references. The walks of package cursor's methods. -/
import Derived.Test.YtkdnbnkbnegckaaGreatDoorData
import Derived.Test.YtkdnbnkbnegckaaGreatDoorEvA
import Derived.Outline
import Derived.OwnWalk
import Derived.WalkMore
import Derived.Laws.Bits64b
import Derived.Laws.BitsAllLaws
namespace Go.Proofs.YtkdnbnkbnegckaaGreatDoor
open Go.RowKit

def opTab : List Int := [0, 1, 2, 2, 0, 0, 0, 0, 0, 0, 0, 0, 0, 0, 0, 0, 0, 0, 0, 0, 0, 3, 3, 4, 4, 0, 0, 0, 5, 5, 0, 0, 0, 6, 6]
def isOp (op : Int) : Bool := decide (0 ≤ op) && decide (op < 35)
def opAt (k : Nat) : Int := opTab.getD k 0
theorem opAt_get {k : Nat} (h : k < 35) : opTab[k]? = some (opAt k) := by
  rw [opAt, List.getD_eq_getElem?_getD, List.getElem?_eq_getElem (show k < opTab.length from h)]; rfl
def operandI (op : Int) : Int := if isOp op then opAt op.toNat else 0
def mostI (k : Int) : Int := if k = 2 then 255 else if k = 3 then 1999 else if k = 4 then 39 else if k = 5 then 3 else if k = 6 then 119 else 0
def mayOperand (k n : Int) : Bool := k == 1 || (decide (0 ≤ n) && decide (n ≤ mostI k))
def rightInstr (i : InstrT) : Bool := isOp i.1 && mayOperand (operandI i.1) i.2

theorem operandI_0 {op : Int} (h0 : ¬ op = 1) (h1 : ¬ op = 2) (h2 : ¬ op = 3) (h3 : ¬ op = 21) (h4 : ¬ op = 22) (h5 : ¬ op = 23) (h6 : ¬ op = 24) (h7 : ¬ op = 28) (h8 : ¬ op = 29) (h9 : ¬ op = 33) (h10 : ¬ op = 34) : operandI op = 0 := by
  unfold operandI; split
  · rename_i h
    simp only [isOp, Bool.and_eq_true, decide_eq_true_eq] at h
    obtain ⟨k, rfl⟩ := Int.eq_ofNat_of_zero_le h.1
    have : ∀ k : Nat, k < 35 → k = 1 ∨ k = 2 ∨ k = 3 ∨ k = 21 ∨ k = 22 ∨ k = 23 ∨ k = 24 ∨ k = 28 ∨ k = 29 ∨ k = 33 ∨ k = 34 ∨ opAt k = 0 := by decide
    rw [Int.toNat_natCast]
    have := this k (by omega)
    omega
  · rfl
theorem operandI_lt (op : Int) : 0 ≤ operandI op ∧ operandI op < 7 := by
  unfold operandI; split
  · rename_i h
    simp only [isOp, Bool.and_eq_true, decide_eq_true_eq] at h
    obtain ⟨k, rfl⟩ := Int.eq_ofNat_of_zero_le h.1
    have : ∀ k : Nat, k < 35 → 0 ≤ opAt k ∧ opAt k < 7 := by decide
    rw [Int.toNat_natCast]
    exact this k (by omega)
  · decide

theorem ops_is (op : Int) (w : World) : Calls Tryz.prog 103 #[.int .i64 op] w fun e w' => e = .returned (.bool (isOp op)) ∧ w = w' := by
  unfold isOp
  cases t1 : decide (0 ≤ op) <;> cases t2 : decide (op < 35) <;>
  (go_enter Tryz.func103, Tryz.ntmps103
   go_wp2
   go_ret
   exact ⟨rfl, rfl⟩)

set_option maxRecDepth 100000 in
theorem ops_Operand (op : Int) (w : World) : Calls Tryz.prog 77 #[.int .i64 op] w fun e w' => e = .returned (.int .i64 (operandI op)) ∧ w = w' := by
  cases t1 : isOp op with
  | false =>
    have HR : Hid (operandI op = 0) := by simp [Hid, operandI, t1]
    go_enter Tryz.func77, Tryz.ntmps77
    go_wp2_with fail
    refine (ops_is op w).mono ?_
    rw [t1]
    rintro e w1 ⟨rfl, rfl⟩
    clear t1
    go_wp2_with fail
    go_ret
    exact ⟨by rw [HR.out] <;> rfl, rfl⟩
  | true =>
    have HR : Hid (operandI op = opAt op.toNat) := by simp [Hid, operandI, t1]
    have t2 := t1
    simp only [isOp, Bool.and_eq_true, decide_eq_true_eq] at t2
    obtain ⟨h0, h1⟩ := t2
    obtain ⟨k, rfl⟩ := Int.eq_ofNat_of_zero_le h0
    have hk : k < 35 := by omega
    clear h0 h1
    rw [Int.toNat_natCast] at HR
    have hi := fun W => run_index_ints (P := Tryz.prog) (k := .i64) (ki := .i64) (t := 146) (e := 3) (n := 35) Tryz.underlying146 Tryz.underlying3 (fun _ => by kernel_rfl) opTab rfl k hk _ (opAt_get hk) W
    simp only [opTab, List.map_cons, List.map_nil] at hi
    go_enter Tryz.func77, Tryz.ntmps77
    go_wp2_with fail
    refine (ops_is _ w).mono ?_
    rw [t1]
    rintro e w1 ⟨rfl, rfl⟩
    clear t1
    go_wp2_with fail
    go_ret
    exact ⟨by rw [HR.out] <;> rfl, rfl⟩

theorem operand_most (k : Int) (w : World) : Calls Tryz.prog 104 #[.int .i64 k] w fun e w' => e = .returned (.int .i64 (mostI k)) ∧ w = w' := by
  by_cases h0 : k = 2
  · subst h0
    go_enter Tryz.func104, Tryz.ntmps104
    go_wp2
    go_ret
    exact ⟨rfl, rfl⟩
  have n0 : (k == 2) = false := beq_eq_false_iff_ne.2 h0
  by_cases h1 : k = 3
  · subst h1
    go_enter Tryz.func104, Tryz.ntmps104
    go_wp2
    go_ret
    exact ⟨rfl, rfl⟩
  have n1 : (k == 3) = false := beq_eq_false_iff_ne.2 h1
  by_cases h2 : k = 4
  · subst h2
    go_enter Tryz.func104, Tryz.ntmps104
    go_wp2
    go_ret
    exact ⟨rfl, rfl⟩
  have n2 : (k == 4) = false := beq_eq_false_iff_ne.2 h2
  by_cases h3 : k = 5
  · subst h3
    go_enter Tryz.func104, Tryz.ntmps104
    go_wp2
    go_ret
    exact ⟨rfl, rfl⟩
  have n3 : (k == 5) = false := beq_eq_false_iff_ne.2 h3
  by_cases h4 : k = 6
  · subst h4
    go_enter Tryz.func104, Tryz.ntmps104
    go_wp2
    go_ret
    exact ⟨rfl, rfl⟩
  have n4 : (k == 6) = false := beq_eq_false_iff_ne.2 h4
  have HR : Hid (mostI k = 0) := by simp [Hid, mostI, h0, h1, h2, h3, h4]
  clear h0 h1 h2 h3 h4
  go_enter Tryz.func104, Tryz.ntmps104
  go_wp2
  go_ret
  exact ⟨by rw [HR.out] <;> rfl, rfl⟩

theorem operand_may (k n : Int) (w : World) : Calls Tryz.prog 78 #[.int .i64 k, .int .i64 n] w fun e w' => e = .returned (.bool (mayOperand k n)) ∧ w = w' := by
  unfold mayOperand
  cases t1 : k == 1 <;> cases t2 : decide (0 ≤ n) <;> cases t3 : decide (n ≤ mostI k) <;>
  (go_enter Tryz.func78, Tryz.ntmps78
   go_wp2_with fail
   first
   | (refine (operand_most k w).mono ?_
      rintro e w1 ⟨rfl, rfl⟩
      go_wp2_with fail
      go_ret
      exact ⟨rfl, rfl⟩)
   | (go_ret; exact ⟨rfl, rfl⟩))

theorem instrref_most (k : Nat) (w : World) (hk : k < 7) : Calls Tryz.prog 81 #[.int .i64 k] w fun e w' => e = .returned (.int .i64 (mostI k)) ∧ w = w' := by
  have hi := fun W => run_index_ints (P := Tryz.prog) (k := .i64) (ki := .i64) (t := 148) (e := 3) (n := 7) Tryz.underlying148 Tryz.underlying3 (fun _ => by kernel_rfl) [0, 0, 255, 1999, 39, 3, 119] rfl k hk (mostI k) (by
    rcases (by omega : k = 0 ∨ k = 1 ∨ k = 2 ∨ k = 3 ∨ k = 4 ∨ k = 5 ∨ k = 6) with rfl | rfl | rfl | rfl | rfl | rfl | rfl <;> rfl) W
  simp only [List.map_cons, List.map_nil] at hi
  go_enter Tryz.func81, Tryz.ntmps81
  go_wp2
  go_ret
  exact ⟨rfl, rfl⟩

theorem opsref_Operand (op : Int) (w : World) : Calls Tryz.prog 54 #[.int .i64 op] w fun e w' => e = .returned (.int .i64 (operandI op)) ∧ w = w' := by
  by_cases h0 : op = 1
  · subst h0
    go_enter Tryz.func54, Tryz.ntmps54
    go_wp2
    go_ret
    exact ⟨rfl, rfl⟩
  have n0 : (op == 1) = false := beq_eq_false_iff_ne.2 h0
  by_cases h1 : op = 2
  · subst h1
    go_enter Tryz.func54, Tryz.ntmps54
    go_wp2
    go_ret
    exact ⟨rfl, rfl⟩
  have n1 : (op == 2) = false := beq_eq_false_iff_ne.2 h1
  by_cases h2 : op = 3
  · subst h2
    go_enter Tryz.func54, Tryz.ntmps54
    go_wp2
    go_ret
    exact ⟨rfl, rfl⟩
  have n2 : (op == 3) = false := beq_eq_false_iff_ne.2 h2
  by_cases h3 : op = 21
  · subst h3
    go_enter Tryz.func54, Tryz.ntmps54
    go_wp2
    go_ret
    exact ⟨rfl, rfl⟩
  have n3 : (op == 21) = false := beq_eq_false_iff_ne.2 h3
  by_cases h4 : op = 22
  · subst h4
    go_enter Tryz.func54, Tryz.ntmps54
    go_wp2
    go_ret
    exact ⟨rfl, rfl⟩
  have n4 : (op == 22) = false := beq_eq_false_iff_ne.2 h4
  by_cases h5 : op = 23
  · subst h5
    go_enter Tryz.func54, Tryz.ntmps54
    go_wp2
    go_ret
    exact ⟨rfl, rfl⟩
  have n5 : (op == 23) = false := beq_eq_false_iff_ne.2 h5
  by_cases h6 : op = 24
  · subst h6
    go_enter Tryz.func54, Tryz.ntmps54
    go_wp2
    go_ret
    exact ⟨rfl, rfl⟩
  have n6 : (op == 24) = false := beq_eq_false_iff_ne.2 h6
  by_cases h7 : op = 28
  · subst h7
    go_enter Tryz.func54, Tryz.ntmps54
    go_wp2
    go_ret
    exact ⟨rfl, rfl⟩
  have n7 : (op == 28) = false := beq_eq_false_iff_ne.2 h7
  by_cases h8 : op = 29
  · subst h8
    go_enter Tryz.func54, Tryz.ntmps54
    go_wp2
    go_ret
    exact ⟨rfl, rfl⟩
  have n8 : (op == 29) = false := beq_eq_false_iff_ne.2 h8
  by_cases h9 : op = 33
  · subst h9
    go_enter Tryz.func54, Tryz.ntmps54
    go_wp2
    go_ret
    exact ⟨rfl, rfl⟩
  have n9 : (op == 33) = false := beq_eq_false_iff_ne.2 h9
  by_cases h10 : op = 34
  · subst h10
    go_enter Tryz.func54, Tryz.ntmps54
    go_wp2
    go_ret
    exact ⟨rfl, rfl⟩
  have n10 : (op == 34) = false := beq_eq_false_iff_ne.2 h10
  have HR : Hid (operandI op = 0) := operandI_0 h0 h1 h2 h3 h4 h5 h6 h7 h8 h9 h10
  clear h0 h1 h2 h3 h4 h5 h6 h7 h8 h9 h10
  go_enter Tryz.func54, Tryz.ntmps54
  go_wp2
  go_ret
  exact ⟨by rw [HR.out] <;> rfl, rfl⟩


set_option maxRecDepth 20000 in
theorem instr_Right (a b : Int) (w : World) : Calls Tryz.prog 51 #[.agg #[.int .i64 a, .int .i64 b]] w fun e w' => e = .returned (.bool (rightInstr (a, b))) ∧ Ext w w' := by
  unfold rightInstr isOp
  cases t1 : decide (0 ≤ a) <;> cases t2 : decide (a < 35) <;>
  (go_enter Tryz.func51, Tryz.ntmps51
   go_wp2
   go_quiet ((first | (go_at_call 77; exact quiet_same (ops_Operand _ _)) | (go_at_call 78; exact quiet_same (operand_may _ _ _))))
   go_wp2
   go_ret
   exact ⟨rfl, ((Ext.rf w).al _).drN _⟩)

theorem instr_has (op : Int) (w : World) : Calls Tryz.prog 50 #[.int .i64 op] w fun e w' => e = .returned (.bool (operandI op != 0)) ∧ w = w' := by
  go_enter Tryz.func50, Tryz.ntmps50
  go_wp2_with fail
  refine (ops_Operand op w).mono ?_
  rintro e w1 ⟨rfl, rfl⟩
  go_wp2_with fail
  go_ret
  exact ⟨rfl, rfl⟩

set_option maxRecDepth 20000 in
theorem instrref_Right (a b : Int) (w : World) : Calls Tryz.prog 55 #[.agg #[.int .i64 a, .int .i64 b]] w fun e w' => e = .returned (.bool (rightInstr (a, b))) ∧ Ext w w' := by
  obtain ⟨k, hk, hk7⟩ : ∃ k : Nat, operandI a = k ∧ k < 7 := by
    obtain ⟨h0, h1⟩ := operandI_lt a
    exact ⟨(operandI a).toNat, by omega, by omega⟩
  cases h : isOp a with
  | true =>
    have h' := h
    simp only [isOp, Bool.and_eq_true, decide_eq_true_eq] at h'
    have t1 : decide (a < 0) = false := decide_eq_false (by omega)
    have t2 : decide (35 ≤ a) = false := decide_eq_false (by omega)
    have HR : Hid (rightInstr (a, b) = ((k : Int) == 1 || (decide (0 ≤ b) && decide (b ≤ mostI k)))) := by rw [Hid, rightInstr, h, Bool.true_and, hk, mayOperand]
    have HK := Lib.hid hk
    clear h h' hk
    cases t3 : (k : Int) == 1 <;> cases t4 : decide (0 ≤ b) <;> cases t5 : decide (b ≤ mostI k) <;>
    (rw [t3, t4, t5] at HR
     go_enter Tryz.func55, Tryz.ntmps55
     go_wp2_with fail
     refine (opsref_Operand a _).mono ?_
     rw [HK.out]
     rintro e w1 ⟨rfl, rfl⟩
     go_wp2_with fail
     go_quiet ((go_at_call 81; exact quiet_same (instrref_most k _ hk7)))
     go_wp2
     go_ret
     exact ⟨by rw [HR.out] <;> rfl, ((Ext.rf w).al _).drN _⟩)
  | false =>
    have HR : Hid (rightInstr (a, b) = false) := by rw [Hid, rightInstr, h, Bool.false_and]
    clear hk
    by_cases h0 : a < 0
    · have t1 : decide (a < 0) = true := decide_eq_true h0
      clear h
      go_enter Tryz.func55, Tryz.ntmps55
      go_wp2_with fail
      go_ret
      exact ⟨by rw [HR.out] <;> rfl, ((Ext.rf w).al _)⟩
    · have t1 : decide (a < 0) = false := decide_eq_false h0
      have t2 : decide (35 ≤ a) = true := by
        simp only [isOp, Bool.and_eq_false_iff, decide_eq_false_iff_not] at h
        exact decide_eq_true (by omega)
      clear h
      go_enter Tryz.func55, Tryz.ntmps55
      go_wp2_with fail
      go_ret
      exact ⟨by rw [HR.out] <;> rfl, ((Ext.rf w).al _)⟩
end Go.Proofs.YtkdnbnkbnegckaaGreatDoor
namespace Go.Proofs.YtkdnbnkbnegckaaGreatDoor
open Go.RowKit

/-- All names, one behind the other. -/
def wordsL : List UInt8 := [110, 111, 112, 32, 112, 117, 115, 104, 32, 108, 111, 97, 100, 32, 115, 116, 111, 114, 101, 32, 112, 111, 112, 32, 100, 117, 112, 32, 97, 100, 100, 32, 115, 117, 98, 32, 109, 117, 108, 32, 100, 105, 118, 32, 109, 111, 100, 32, 110, 101, 103, 32, 108, 101, 115, 115, 32, 115, 97, 109, 101, 32, 110, 111, 116, 32, 112, 97, 105, 114, 32, 112, 108, 117, 115, 32, 109, 105, 110, 117, 115, 32, 116, 105, 109, 101, 115, 32, 114, 101, 97, 108, 32, 105, 109, 97, 103, 32, 106, 117, 109, 112, 32, 105, 102, 32, 99, 97, 108, 108, 32, 100, 101, 102, 101, 114, 32, 114, 101, 116, 32, 112, 97, 110, 105, 99, 32, 114, 101, 99, 111, 118, 101, 114, 32, 103, 101, 116, 114, 101, 115, 32, 115, 101, 116, 114, 101, 115, 32, 101, 109, 105, 116, 32, 116, 114, 97, 99, 101, 32, 100, 114, 97, 119, 32, 111, 112, 101, 110, 32, 99, 108, 111, 115, 101]
def opNames : List (List UInt8) := [[110, 111, 112], [112, 117, 115, 104], [108, 111, 97, 100], [115, 116, 111, 114, 101], [112, 111, 112], [100, 117, 112], [97, 100, 100], [115, 117, 98], [109, 117, 108], [100, 105, 118], [109, 111, 100], [110, 101, 103], [108, 101, 115, 115], [115, 97, 109, 101], [110, 111, 116], [112, 97, 105, 114], [112, 108, 117, 115], [109, 105, 110, 117, 115], [116, 105, 109, 101, 115], [114, 101, 97, 108], [105, 109, 97, 103], [106, 117, 109, 112], [105, 102], [99, 97, 108, 108], [100, 101, 102, 101, 114], [114, 101, 116], [112, 97, 110, 105, 99], [114, 101, 99, 111, 118, 101, 114], [103, 101, 116, 114, 101, 115], [115, 101, 116, 114, 101, 115], [101, 109, 105, 116], [116, 114, 97, 99, 101], [100, 114, 97, 119], [111, 112, 101, 110], [99, 108, 111, 115, 101]]
def wordsR : List UInt8 := [110, 111, 112, 32, 112, 117, 115, 104, 32, 108, 111, 97, 100, 32, 115, 116, 111, 114, 101, 32, 112, 111, 112, 32, 100, 117, 112, 32, 97, 100, 100, 32, 115, 117, 98, 32, 109, 117, 108, 32, 100, 105, 118, 32, 109, 111, 100, 32, 110, 101, 103, 32, 108, 101, 115, 115, 32, 115, 97, 109, 101, 32, 110, 111, 116, 32, 112, 97, 105, 114, 32, 112, 108, 117, 115, 32, 109, 105, 110, 117, 115, 32, 116, 105, 109, 101, 115, 32, 114, 101, 97, 108, 32, 105, 109, 97, 103, 32, 106, 117, 109, 112, 32, 105, 102, 32, 99, 97, 108, 108, 32, 100, 101, 102, 101, 114, 32, 114, 101, 116, 32, 112, 97, 110, 105, 99, 32, 114, 101, 99, 111, 118, 101, 114, 32, 103, 101, 116, 114, 101, 115, 32, 115, 101, 116, 114, 101, 115, 32, 101, 109, 105, 116, 32, 116, 114, 97, 99, 101, 32, 100, 114, 97, 119, 32, 111, 112, 101, 110, 32, 99, 108, 111, 115, 101, 32]
def addW (acc : List (List UInt8)) (b : UInt8) : List (List UInt8) := if b = 32 then acc ++ [[]] else acc.dropLast ++ [acc.getLastD [] ++ [b]]
/-- The names in the first so many bytes. -/
def cutW (k : Nat) : List (List UInt8) := (wordsL.take k).foldl addW [[]]
theorem cutW_all : cutW 175 = opNames := by decide +kernel
theorem cutW_step (k : Nat) (b : UInt8) (h : wordsL[k]? = some b) : cutW (k + 1) = addW (cutW k) b := by
  unfold cutW
  obtain ⟨hk, rfl⟩ := List.getElem?_eq_some_iff.1 h
  rw [List.take_succ_eq_append_getElem hk, List.foldl_append]; rfl
theorem addW_ne (acc : List (List UInt8)) (b : UInt8) : addW acc b ≠ [] := by
  unfold addW; split <;> simp
theorem cutW_ne (k : Nat) : cutW k ≠ [] := by
  have h : ∀ (l : List UInt8) (acc : List (List UInt8)), acc ≠ [] → l.foldl addW acc ≠ [] := by
    intro l
    induction l with
    | nil => intro acc h; exact h
    | cons b l ih => intro acc _; exact ih _ (addW_ne _ _)
  exact h _ _ (by simp)
theorem cutW_len (k : Nat) : (cutW k).length ≤ 1 + k := by
  have h : ∀ (l : List UInt8) (acc : List (List UInt8)), acc ≠ [] → (l.foldl addW acc).length ≤ acc.length + l.length := by
    intro l
    induction l with
    | nil => intro acc _; exact Nat.le_refl _
    | cons b l ih =>
      intro acc hne
      have h1 := ih (addW acc b) (addW_ne _ _)
      have h2 : (addW acc b).length ≤ acc.length + 1 := by
        unfold addW; split
        · simp
        · have := List.length_pos_iff.2 hne
          simp
      simp only [List.foldl_cons, List.length_cons]; omega
  have := h (wordsL.take k) [[]] (by simp)
  simp only [List.length_singleton, List.length_take] at this
  unfold cutW; omega
theorem wordsL_low : ∀ b ∈ wordsL, b.toNat < 128 := by decide +kernel
theorem cutW_small : ∀ k < 176, ∀ x ∈ cutW k, x.length ≤ 10 := by decide +kernel

/-- The name of an instruction. -/
def nameAt (k : Nat) : List UInt8 := (opNames[k]?).getD []
def opNameL (op : Int) : List UInt8 := if isOp op then nameAt op.toNat else []
/-- Whose name it is. -/
def findL (s : List UInt8) : Option Nat := (List.range 35).find? fun k => decide (nameAt k = s)
def findI (s : List UInt8) : Int × Bool := match findL s with
  | some k => ((k : Int), true)
  | none => (0, false)
theorem nameAt_len : ∀ k < 35, (nameAt k).length ≤ 10 := by decide +kernel
theorem opNameL_len (op : Int) : (opNameL op).length ≤ 10 := by
  unfold opNameL; split
  · rename_i h
    simp only [isOp, Bool.and_eq_true, decide_eq_true_eq] at h
    exact nameAt_len _ (by omega)
  · exact Nat.zero_le _
theorem findL_some {s : List UInt8} {k : Nat} (hk : k < 35) (h : nameAt k = s) (h2 : ∀ j < k, nameAt j ≠ s) : findL s = some k := by
  unfold findL
  rw [List.find?_range_eq_some]
  refine ⟨by simp [h], by simpa using hk, fun j hj => by simpa using h2 j hj⟩
theorem findL_none {s : List UInt8} (h2 : ∀ j < 35, nameAt j ≠ s) : findL s = none := by
  unfold findL
  rw [List.find?_eq_none]
  intro k hk
  simpa using h2 k (by simpa using hk)
theorem findI_some {s : List UInt8} {k : Nat} (hk : k < 35) (h : nameAt k = s) (h2 : ∀ j < k, nameAt j ≠ s) : findI s = ((k : Int), true) := by
  unfold findI; rw [findL_some hk h h2]
theorem findI_none {s : List UInt8} (h2 : ∀ j < 35, nameAt j ≠ s) : findI s = (0, false) := by
  unfold findI; rw [findL_none h2]

/-- The reference's loop: where the name at hand begins, and its number. -/
def fromR (k : Nat) : Nat := (List.range k).foldl (fun a i => if wordsR[i]? = some 32 then i + 1 else a) 0
def cntR (k : Nat) : Nat := (List.range k).foldl (fun a i => if wordsR[i]? = some 32 then a + 1 else a) 0
theorem fromR_hit {k : Nat} (h : wordsR[k]? = some 32) : fromR (k + 1) = k + 1 := by
  unfold fromR; rw [List.range_succ, List.foldl_append]; simp [h]
theorem fromR_miss {k : Nat} (h : wordsR[k]? ≠ some 32) : fromR (k + 1) = fromR k := by
  unfold fromR; rw [List.range_succ, List.foldl_append]; simp [h]
theorem fromR_le (k : Nat) : fromR k ≤ k := by
  induction k with
  | zero => exact Nat.le_refl _
  | succ k ih =>
    by_cases h : wordsR[k]? = some 32
    · rw [fromR_hit h]; exact Nat.le_refl _
    · rw [fromR_miss h]; omega
theorem cntR_hit {k : Nat} (h : wordsR[k]? = some 32) : cntR (k + 1) = cntR k + 1 := by
  unfold cntR; rw [List.range_succ, List.foldl_append]; simp [h]
theorem cntR_miss {k : Nat} (h : wordsR[k]? ≠ some 32) : cntR (k + 1) = cntR k := by
  unfold cntR; rw [List.range_succ, List.foldl_append]; simp [h]
theorem cntR_all : cntR 176 = 35 := by decide +kernel
def wordsRS : ByteArray := ⟨wordsR.toArray⟩
theorem wordsR_len : wordsR.length = 176 := by decide +kernel
theorem piece_RS : ∀ k < 176, wordsR[k]? = some 32 → wordsRS.extract (fromR k) k = strB (nameAt (cntR k)) := by decide +kernel
end Go.Proofs.YtkdnbnkbnegckaaGreatDoor
namespace Go.Proofs.YtkdnbnkbnegckaaGreatDoor
open Go.RowKit

end Go.Proofs.YtkdnbnkbnegckaaGreatDoor
namespace Go.Proofs.YtkdnbnkbnegckaaGreatDoor
open Go.RowKit

theorem frozen_blk {W : World} {g : Nat} {cs : Array Value} {t : TypeId} (h : W.heap[g]? = some (.cells cs t (0, 0))) (j : Nat) : W.frozen? ⟨g, j, none⟩ = false := by simp [World.frozen?, h]
theorem set_blk {W : World} {g : Nat} {cs : Array Value} {t : TypeId} {fz : Nat × Nat} (h : W.heap[g]? = some (.cells cs t fz)) (j : Nat) (v : Value) : (W.setCell ⟨g, j, none⟩ v).heap[g]? = some (.cells (cs.setIfInBounds j v) t fz) := by
  obtain ⟨hlt, hk⟩ := Array.getElem?_eq_some_iff.1 h
  show (W.heap.modify g _)[g]? = _
  rw [Array.getElem?_eq_getElem (by rw [Array.size_modify]; exact hlt), Array.getElem_modify_self, hk]
  rfl
theorem Cells.grown {w w' : World} {ao : Option Addr} {cs : List Value} {g : Nat} (h : Cells w ao cs) (hg : w.grownBy w' (some g)) (hne : ∀ ad, ao = some ad → ad.block ≠ g) : Cells w' ao cs :=
  ⟨h.addr, fun b off e j u hu => hg.cell (h.cell b off e j u hu) (fun e2 => hne _ e (by cases e2; rfl))⟩

theorem Ext.grow {a b : World} (h : Ext a b) (g : Nat) : a.grownBy b (some g) := ⟨h.b.os, h.b.tape, h.b.output, h.size, fun k hk _ => h.block hk⟩
theorem addr_add (b off n : Nat) : (⟨b, off, none⟩ : Addr).add n = ⟨b, off + n, none⟩ := by
  unfold Addr.add; split <;> simp_all
theorem Cells.drop {w : World} {ao : Option Addr} {cs : List Value} (h : Cells w ao cs) (n : Nat) : Cells w (ao.map fun x => x.add n) (cs.drop n) := by
  refine ⟨fun hne => ?_, fun b off e j u hu => ?_⟩
  · obtain ⟨b, off, rfl⟩ := h.addr (by rintro rfl; simp at hne)
    exact ⟨b, off + n, by simp [addr_add]⟩
  · cases ao with
    | none => simp at e
    | some ad =>
      rw [List.getElem?_drop] at hu
      by_cases hne : cs = []
      · subst hne; simp at hu
      obtain ⟨b', off', e'⟩ := h.addr hne
      simp only [Option.some.injEq] at e'
      subst e'
      simp only [Option.map_some, Option.some.injEq, addr_add, Addr.mk.injEq] at e
      obtain ⟨rfl, rfl, -⟩ := e
      have := h.cell _ _ rfl (n + j) u hu
      rw [Nat.add_assoc]
      exact this

end Go.Proofs.YtkdnbnkbnegckaaGreatDoor
