/- The names of the instructions, in plain Lean. -/
import Derived.Test.YtofdkhilapmccaaDigW
import Derived.Test.YtofdkhilapmccaaInstr
namespace Go.Proofs.Ytofdkhilapmccaa
open Go.RowKit

/-- All names, one behind the other. -/
def wordsL : List UInt8 := [110, 111, 112, 32, 112, 117, 115, 104, 32, 108, 111, 97, 100, 32, 115, 116, 111, 114, 101, 32, 112, 111, 112, 32, 100, 117, 112, 32, 97, 100, 100, 32, 115, 117, 98, 32, 109, 117, 108, 32, 100, 105, 118, 32, 109, 111, 100, 32, 110, 101, 103, 32, 108, 101, 115, 115, 32, 115, 97, 109, 101, 32, 110, 111, 116, 32, 112, 97, 105, 114, 32, 112, 108, 117, 115, 32, 109, 105, 110, 117, 115, 32, 116, 105, 109, 101, 115, 32, 114, 101, 97, 108, 32, 105, 109, 97, 103, 32, 106, 117, 109, 112, 32, 105, 102, 32, 99, 97, 108, 108, 32, 100, 101, 102, 101, 114, 32, 114, 101, 116, 32, 112, 97, 110, 105, 99, 32, 114, 101, 99, 111, 118, 101, 114, 32, 103, 101, 116, 114, 101, 115, 32, 115, 101, 116, 114, 101, 115, 32, 101, 109, 105, 116, 32, 116, 114, 97, 99, 101, 32, 100, 114, 97, 119, 32, 111, 112, 101, 110, 32, 99, 108, 111, 115, 101]
def opNames : List (List UInt8) := [[110, 111, 112], [112, 117, 115, 104], [108, 111, 97, 100], [115, 116, 111, 114, 101], [112, 111, 112], [100, 117, 112], [97, 100, 100], [115, 117, 98], [109, 117, 108], [100, 105, 118], [109, 111, 100], [110, 101, 103], [108, 101, 115, 115], [115, 97, 109, 101], [110, 111, 116], [112, 97, 105, 114], [112, 108, 117, 115], [109, 105, 110, 117, 115], [116, 105, 109, 101, 115], [114, 101, 97, 108], [105, 109, 97, 103], [106, 117, 109, 112], [105, 102], [99, 97, 108, 108], [100, 101, 102, 101, 114], [114, 101, 116], [112, 97, 110, 105, 99], [114, 101, 99, 111, 118, 101, 114], [103, 101, 116, 114, 101, 115], [115, 101, 116, 114, 101, 115], [101, 109, 105, 116], [116, 114, 97, 99, 101], [100, 114, 97, 119], [111, 112, 101, 110], [99, 108, 111, 115, 101]]
def wordsR : List UInt8 := [110, 111, 112, 32, 112, 117, 115, 104, 32, 108, 111, 97, 100, 32, 115, 116, 111, 114, 101, 32, 112, 111, 112, 32, 100, 117, 112, 32, 97, 100, 100, 32, 115, 117, 98, 32, 109, 117, 108, 32, 100, 105, 118, 32, 109, 111, 100, 32, 110, 101, 103, 32, 108, 101, 115, 115, 32, 115, 97, 109, 101, 32, 110, 111, 116, 32, 112, 97, 105, 114, 32, 112, 108, 117, 115, 32, 109, 105, 110, 117, 115, 32, 116, 105, 109, 101, 115, 32, 114, 101, 97, 108, 32, 105, 109, 97, 103, 32, 106, 117, 109, 112, 32, 105, 102, 32, 99, 97, 108, 108, 32, 100, 101, 102, 101, 114, 32, 114, 101, 116, 32, 112, 97, 110, 105, 99, 32, 114, 101, 99, 111, 118, 101, 114, 32, 103, 101, 116, 114, 101, 115, 32, 115, 101, 116, 114, 101, 115, 32, 101, 109, 105, 116, 32, 116, 114, 97, 99, 101, 32, 100, 114, 97, 119, 32, 111, 112, 101, 110, 32, 99, 108, 111, 115, 101, 32]
def addW (acc : List (List UInt8)) (b : UInt8) : List (List UInt8) := if b = 32 then acc ++ [[]] else acc.dropLast ++ [acc.getLastD [] ++ [b]]
/-- The names in the first so many bytes. -/
def cutW (k : Nat) : List (List UInt8) := (wordsL.take k).foldl addW [[]]
theorem cutW_all : cutW 175 = opNames := by decide +kernel
theorem cutW_step (k : Nat) (b : UInt8) (h : wordsL[k]? = some b) : cutW (k + 1) = addW (cutW k) b := by
  unfold cutW
  obtain ⟨hk, rfl⟩ := List.getElem?_eq_some_iff.1 h
  rw [List.take_succ_eq_append_getElem hk, List.foldl_append]; rfl
theorem addW_ne (acc : List (List UInt8)) (b : UInt8) : addW acc b ≠ [] := by
  unfold addW; split <;> simp
theorem cutW_ne (k : Nat) : cutW k ≠ [] := by
  have h : ∀ (l : List UInt8) (acc : List (List UInt8)), acc ≠ [] → l.foldl addW acc ≠ [] := by
    intro l
    induction l with
    | nil => intro acc h; exact h
    | cons b l ih => intro acc _; exact ih _ (addW_ne _ _)
  exact h _ _ (by simp)
theorem cutW_len (k : Nat) : (cutW k).length ≤ 1 + k := by
  have h : ∀ (l : List UInt8) (acc : List (List UInt8)), acc ≠ [] → (l.foldl addW acc).length ≤ acc.length + l.length := by
    intro l
    induction l with
    | nil => intro acc _; exact Nat.le_refl _
    | cons b l ih =>
      intro acc hne
      have h1 := ih (addW acc b) (addW_ne _ _)
      have h2 : (addW acc b).length ≤ acc.length + 1 := by
        unfold addW; split
        · simp
        · have := List.length_pos_iff.2 hne
          simp
      simp only [List.foldl_cons, List.length_cons]; omega
  have := h (wordsL.take k) [[]] (by simp)
  simp only [List.length_singleton, List.length_take] at this
  unfold cutW; omega
theorem wordsL_low : ∀ b ∈ wordsL, b.toNat < 128 := by decide +kernel
theorem cutW_small : ∀ k < 176, ∀ x ∈ cutW k, x.length ≤ 10 := by decide +kernel

/-- The name of an instruction. -/
def nameAt (k : Nat) : List UInt8 := (opNames[k]?).getD []
def opNameL (op : Int) : List UInt8 := if isOp op then nameAt op.toNat else []
/-- Whose name it is. -/
def findL (s : List UInt8) : Option Nat := (List.range 35).find? fun k => decide (nameAt k = s)
def findI (s : List UInt8) : Int × Bool := match findL s with
  | some k => ((k : Int), true)
  | none => (0, false)
theorem nameAt_len : ∀ k < 35, (nameAt k).length ≤ 10 := by decide +kernel
theorem opNameL_len (op : Int) : (opNameL op).length ≤ 10 := by
  unfold opNameL; split
  · rename_i h
    simp only [isOp, Bool.and_eq_true, decide_eq_true_eq] at h
    exact nameAt_len _ (by omega)
  · exact Nat.zero_le _
theorem findL_some {s : List UInt8} {k : Nat} (hk : k < 35) (h : nameAt k = s) (h2 : ∀ j < k, nameAt j ≠ s) : findL s = some k := by
  unfold findL
  rw [List.find?_range_eq_some]
  refine ⟨by simp [h], by simpa using hk, fun j hj => by simpa using h2 j hj⟩
theorem findL_none {s : List UInt8} (h2 : ∀ j < 35, nameAt j ≠ s) : findL s = none := by
  unfold findL
  rw [List.find?_eq_none]
  intro k hk
  simpa using h2 k (by simpa using hk)
theorem findI_some {s : List UInt8} {k : Nat} (hk : k < 35) (h : nameAt k = s) (h2 : ∀ j < k, nameAt j ≠ s) : findI s = ((k : Int), true) := by
  unfold findI; rw [findL_some hk h h2]
theorem findI_none {s : List UInt8} (h2 : ∀ j < 35, nameAt j ≠ s) : findI s = (0, false) := by
  unfold findI; rw [findL_none h2]

/-- The reference's loop: where the name at hand begins, and its number. -/
def fromR (k : Nat) : Nat := (List.range k).foldl (fun a i => if wordsR[i]? = some 32 then i + 1 else a) 0
def cntR (k : Nat) : Nat := (List.range k).foldl (fun a i => if wordsR[i]? = some 32 then a + 1 else a) 0
theorem fromR_hit {k : Nat} (h : wordsR[k]? = some 32) : fromR (k + 1) = k + 1 := by
  unfold fromR; rw [List.range_succ, List.foldl_append]; simp [h]
theorem fromR_miss {k : Nat} (h : wordsR[k]? ≠ some 32) : fromR (k + 1) = fromR k := by
  unfold fromR; rw [List.range_succ, List.foldl_append]; simp [h]
theorem fromR_le (k : Nat) : fromR k ≤ k := by
  induction k with
  | zero => exact Nat.le_refl _
  | succ k ih =>
    by_cases h : wordsR[k]? = some 32
    · rw [fromR_hit h]; exact Nat.le_refl _
    · rw [fromR_miss h]; omega
theorem cntR_hit {k : Nat} (h : wordsR[k]? = some 32) : cntR (k + 1) = cntR k + 1 := by
  unfold cntR; rw [List.range_succ, List.foldl_append]; simp [h]
theorem cntR_miss {k : Nat} (h : wordsR[k]? ≠ some 32) : cntR (k + 1) = cntR k := by
  unfold cntR; rw [List.range_succ, List.foldl_append]; simp [h]
theorem cntR_all : cntR 176 = 35 := by decide +kernel
def wordsRS : ByteArray := ⟨wordsR.toArray⟩
theorem wordsR_len : wordsR.length = 176 := by decide +kernel
theorem piece_RS : ∀ k < 176, wordsR[k]? = some 32 → wordsRS.extract (fromR k) k = strB (nameAt (cntR k)) := by decide +kernel
theorem piece_R : ∀ k < 176, wordsR[k]? = some 32 → fromR k ≤ k ∧ (wordsR.extract (fromR k) k) = nameAt (cntR k) := by decide +kernel
end Go.Proofs.Ytofdkhilapmccaa
