/- Inline trees: taking one, in plain Lean. -/
import Derived.Test.YtofdkhilapmccaaSigTakes
import Derived.Test.YtofdkhilapmccaaTreeR
namespace Go.Proofs.Ytofdkhilapmccaa
open Go.RowKit

/-- The next number with its sign. -/
def intS (bs : List UInt8) (er : Int) : Int × List UInt8 × Int := (unfoldI (bitsS bs er).1, (bitsS bs er).2.1, (bitsS bs er).2.2)
/-- The next so many. -/
def intsS : Nat → List UInt8 → Int → List Int × List UInt8 × Int
  | 0, bs, er => ([], bs, er)
  | k + 1, bs, er => ((intsS k bs er).1 ++ [(intS (intsS k bs er).2.1 (intsS k bs er).2.2).1], (intS (intsS k bs er).2.1 (intsS k bs er).2.2).2)
def nodeOf (l : List Int) : NodeT := ⟨l[0]?.getD 0, l[1]?.getD 0, l[2]?.getD 0, l[3]?.getD 0, l[4]?.getD 0, l[5]?.getD 0, l[6]?.getD 0⟩
/-- The next node. -/
def nodeS (bs : List UInt8) (er : Int) : NodeT × List UInt8 × Int := (nodeOf (intsS 7 bs er).1, (intsS 7 bs er).2)
def treeR : Nat → List NodeT → List UInt8 → Int → List NodeT × List UInt8 × Int
  | 0, out, bs, er => (out, bs, er)
  | k + 1, out, bs, er => treeR k (out ++ [(nodeS bs er).1]) (nodeS bs er).2.1 (nodeS bs er).2.2
def treeEnd (R : List NodeT × List UInt8 × Int) : List NodeT × List UInt8 × Int := if R.2.2 = 0 then (if rightTree R.1 = true then R else ([], R.2.1, 14)) else ([], R.2.1, R.2.2)
/-- The tree that bytes begin with. -/
def treeTake (bs : List UInt8) (er : Int) : List NodeT × List UInt8 × Int := treeEnd (treeR (numS bs er 120).1 [] (numS bs er 120).2.1 (numS bs er 120).2.2)

theorem intsS_length (k : Nat) (bs : List UInt8) (er : Int) : (intsS k bs er).1.length = k := by
  induction k with
  | zero => rfl
  | succ k ih => simp only [intsS]; rw [List.length_append, ih]; rfl
theorem nodeI_of (l : List Int) (h : l.length = 7) : nodeI (nodeOf l) = l := by
  match l, h with
  | [a, b, c, d, e, f, g], _ => rfl
theorem intS_err {bs : List UInt8} {er : Int} (h : er ≠ 0) : (intS bs er).2 = (bs, er) := by
  unfold intS; rw [bitsS_err h]
theorem intS_less (bs : List UInt8) (er : Int) : (intS bs er).2.1.length ≤ bs.length := (bitsS_ok bs er).2.2
theorem intsS_err {bs : List UInt8} {er : Int} (h : er ≠ 0) (k : Nat) : (intsS k bs er).2 = (bs, er) := by
  induction k with
  | zero => rfl
  | succ k ih => simp only [intsS]; rw [ih]; exact intS_err h
theorem intsS_less (k : Nat) (bs : List UInt8) (er : Int) : (intsS k bs er).2.1.length ≤ bs.length := by
  induction k with
  | zero => exact Nat.le_refl _
  | succ k ih => simp only [intsS]; exact Nat.le_trans (intS_less _ _) ih
theorem nodeS_err {bs : List UInt8} {er : Int} (h : er ≠ 0) : (nodeS bs er).2 = (bs, er) := intsS_err h 7
theorem nodeS_less (bs : List UInt8) (er : Int) : (nodeS bs er).2.1.length ≤ bs.length := intsS_less 7 bs er
theorem treeR_err {er : Int} (h : er ≠ 0) (k : Nat) : ∀ (out : List NodeT) (bs : List UInt8), (treeR k out bs er).2 = (bs, er) := by
  induction k with
  | zero => intro out bs; rfl
  | succ k ih => intro out bs; simp only [treeR]; rw [nodeS_err h]; exact ih _ _
theorem treeR_length (k : Nat) : ∀ (out : List NodeT) (bs : List UInt8) (er : Int), (treeR k out bs er).1.length = out.length + k := by
  induction k with
  | zero => intro out bs er; rfl
  | succ k ih => intro out bs er; simp only [treeR]; rw [ih, List.length_append, List.length_singleton]; omega
theorem treeR_less (k : Nat) : ∀ (out : List NodeT) (bs : List UInt8) (er : Int), (treeR k out bs er).2.1.length ≤ bs.length := by
  induction k with
  | zero => intro out bs er; exact Nat.le_refl _
  | succ k ih => intro out bs er; simp only [treeR]; exact Nat.le_trans (ih _ _ _) (nodeS_less _ _)
theorem treeEnd_err {R : List NodeT × List UInt8 × Int} (h : R.2.2 ≠ 0) : treeEnd R = ([], R.2.1, R.2.2) := if_neg h
theorem treeEnd_bad {R : List NodeT × List UInt8 × Int} (h : R.2.2 = 0) (h2 : rightTree R.1 = false) : treeEnd R = ([], R.2.1, 14) := by
  unfold treeEnd; rw [if_pos h, if_neg (by rw [h2]; decide)]
theorem treeEnd_ok {R : List NodeT × List UInt8 × Int} (h : R.2.2 = 0) (h2 : rightTree R.1 = true) : treeEnd R = R := by
  unfold treeEnd; rw [if_pos h, if_pos h2]
theorem treeTake_ok (bs : List UInt8) (er : Int) : (treeTake bs er).1.length ≤ 120 ∧ (treeTake bs er).2.1.length ≤ bs.length ∧ ((treeTake bs er).2.2 = 0 → rightTree (treeTake bs er).1 = true) := by
  have h1 := numS_ok bs er 120 (by decide)
  have h2 : ((numS bs er 120).1 : Int) ≤ 120 := by
    rcases numS_most bs er 120 with h | h
    · exact h
    · omega
  have h3 := treeR_length (numS bs er 120).1 [] (numS bs er 120).2.1 (numS bs er 120).2.2
  have h4 := treeR_less (numS bs er 120).1 [] (numS bs er 120).2.1 (numS bs er 120).2.2
  unfold treeTake
  generalize treeR (numS bs er 120).1 [] (numS bs er 120).2.1 (numS bs er 120).2.2 = R at *
  simp only [List.length_nil, Nat.zero_add] at h3
  by_cases h5 : R.2.2 = 0
  · rcases Bool.eq_false_or_eq_true (rightTree R.1) with h6 | h6
    · rw [treeEnd_ok h5 h6]; exact ⟨by omega, by omega, fun _ => h6⟩
    · rw [treeEnd_bad h5 h6]; exact ⟨Nat.zero_le _, by show R.2.1.length ≤ _; omega, fun h => absurd (show (14 : Int) = 0 from h) (by decide)⟩
  · rw [treeEnd_err h5]; exact ⟨Nat.zero_le _, by show R.2.1.length ≤ _; omega, fun h => absurd h h5⟩

/-- The cells of the numbers that are taken, and of those that are not yet. -/
def partI (q : Nat) (bs : List UInt8) (er : Int) : List Int := (intsS q bs er).1 ++ List.replicate (7 - q) 0
theorem partI_set (q : Nat) (bs : List UInt8) (er : Int) (h : q < 7) : (partI q bs er).set q (intS (intsS q bs er).2.1 (intsS q bs er).2.2).1 = partI (q + 1) bs er := by
  unfold partI
  have hl := intsS_length q bs er
  simp only [intsS]
  rw [show 7 - q = (7 - (q + 1)) + 1 by omega, List.replicate_succ, List.set_append_right _ _ (by omega), hl, Nat.sub_self, List.set_cons_zero, List.append_assoc]
  rfl
theorem partI_all (bs : List UInt8) (er : Int) : partI 7 bs er = (intsS 7 bs er).1 := by
  unfold partI; rw [List.replicate_zero, List.append_nil]
theorem partI_length (q : Nat) (bs : List UInt8) (er : Int) (h : q ≤ 7) : (partI q bs er).length = 7 := by
  unfold partI; rw [List.length_append, intsS_length, List.length_replicate]; omega
end Go.Proofs.Ytofdkhilapmccaa
