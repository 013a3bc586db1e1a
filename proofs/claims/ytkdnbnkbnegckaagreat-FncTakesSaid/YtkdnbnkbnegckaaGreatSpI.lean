/- Instructions: what the lifted functions come to. -/
import Derived.Test.YtkdnbnkbnegckaaGreatSpT
namespace Go.Proofs.YtkdnbnkbnegckaaGreat
open Go.RowKit

/-- The kind of an instruction's number, and how great it may be. -/
def kindN (n : Int) : Int := if n = 1 then 1 else if n = 2 ∨ n = 3 then 2 else if n = 21 ∨ n = 22 then 3 else if n = 23 ∨ n = 24 then 4 else if n = 28 ∨ n = 29 then 5 else if n = 33 ∨ n = 34 then 6 else 0
def mostN (k : Int) : Int := if k = 2 then 255 else if k = 3 then 1999 else if k = 4 then 39 else if k = 5 then 3 else if k = 6 then 119 else 0
def rightN (n a : Int) : Bool := decide (0 ≤ n ∧ n < 35 ∧ (kindN n = 1 ∨ 0 ≤ a ∧ a ≤ mostN (kindN n)))
theorem kindN_le (n : Int) : 0 ≤ kindN n ∧ kindN n ≤ 6 := by
  unfold kindN
  repeat' split
  all_goals omega
theorem sp_rOperand {n : Int} : S_ref09_Operand n = some (kindN n, ()) := by
  refine u_ref09_Operand (N := 0) ?_
  simp [M_ref09_Operand]
  unfold kindN
  by_cases h1 : n = 1
  · simp [h1]
  · by_cases h2 : n = 2 ∨ n = 3
    · rcases h2 with rfl | rfl <;> simp
    · by_cases h3 : n = 21 ∨ n = 22
      · rcases h3 with rfl | rfl <;> simp
      · by_cases h4 : n = 23 ∨ n = 24
        · rcases h4 with rfl | rfl <;> simp
        · by_cases h5 : n = 28 ∨ n = 29
          · rcases h5 with rfl | rfl <;> simp
          · by_cases h6 : n = 33 ∨ n = 34
            · rcases h6 with rfl | rfl <;> simp
            · have : ¬n = 2 ∧ ¬n = 3 ∧ ¬n = 21 ∧ ¬n = 22 ∧ ¬n = 23 ∧ ¬n = 24 ∧ ¬n = 28 ∧ ¬n = 29 ∧ ¬n = 33 ∧ ¬n = 34 := by omega
              simp [h1, this]
@[simp] theorem sp_opsIs {n : Int} : S_ops_is n = some (decide (0 ≤ n ∧ n < 35), ()) := by
  refine u_ops_is (N := 0) ?_
  by_cases h : 0 ≤ n <;> simp [M_ops_is, h]
theorem sp_Operand {n : Int} : S_ops_Operand n = some (kindN n, ()) := by
  refine u_ops_Operand (N := 0) ?_
  by_cases h : 0 ≤ n ∧ n < 35
  · have : n = 0 ∨ n = 1 ∨ n = 2 ∨ n = 3 ∨ n = 4 ∨ n = 5 ∨ n = 6 ∨ n = 7 ∨ n = 8 ∨ n = 9 ∨ n = 10 ∨ n = 11 ∨ n = 12 ∨ n = 13 ∨ n = 14 ∨ n = 15 ∨ n = 16 ∨ n = 17 ∨ n = 18 ∨ n = 19 ∨ n = 20 ∨ n = 21 ∨ n = 22 ∨ n = 23 ∨ n = 24 ∨ n = 25 ∨ n = 26 ∨ n = 27 ∨ n = 28 ∨ n = 29 ∨ n = 30 ∨ n = 31 ∨ n = 32 ∨ n = 33 ∨ n = 34 := by omega
    rcases this with rfl | rfl | rfl | rfl | rfl | rfl | rfl | rfl | rfl | rfl | rfl | rfl | rfl | rfl | rfl | rfl | rfl | rfl | rfl | rfl | rfl | rfl | rfl | rfl | rfl | rfl | rfl | rfl | rfl | rfl | rfl | rfl | rfl | rfl | rfl <;> simp [M_ops_Operand, kindN]
  · have h2 : kindN n = 0 := by
      unfold kindN
      repeat' split
      all_goals first | rfl | (exfalso; omega)
    by_cases h3 : 0 ≤ n
    · have h4 : ¬n < 35 := fun h4 => h ⟨h3, h4⟩
      simp [M_ops_Operand, h2, h3, h4]
    · simp [M_ops_Operand, h2, h3]
theorem sp_most {n : Int} : S__instr_operand_most n = some (mostN n, ()) := by
  refine u__instr_operand_most (N := 0) ?_
  simp [M__instr_operand_most]
  unfold mostN
  repeat' split
  all_goals first | rfl | (exfalso; omega)
theorem sp_imay {n a : Int} : S__instr_operand_may n a = some (decide (n = 1 ∨ 0 ≤ a ∧ a ≤ mostN n), ()) := by
  refine u__instr_operand_may (N := 0) ?_
  by_cases h1 : n = 1 <;> by_cases h2 : 0 ≤ a <;> simp [M__instr_operand_may, sp_most, h1, h2]
theorem sp_iRight {n a : Int} : S_instr_Right n a = some (rightN n a, ()) := by
  refine u_instr_Right (N := 0) ?_
  unfold rightN
  by_cases h1 : 0 ≤ n <;> by_cases h2 : n < 35 <;> simp [M_instr_Right, sp_Operand, sp_imay, h1, h2]
theorem sp_rmost {n : Int} (h0 : 0 ≤ n) (h6 : n ≤ 6) : S_ref10_most n = some (mostN n, ()) := by
  refine u_ref10_most (N := 0) ?_
  have : n = 0 ∨ n = 1 ∨ n = 2 ∨ n = 3 ∨ n = 4 ∨ n = 5 ∨ n = 6 := by omega
  rcases this with rfl | rfl | rfl | rfl | rfl | rfl | rfl <;> simp [M_ref10_most, mostN]
theorem sp_rRight {n a : Int} : S_ref10_Right n a = some (rightN n a, ()) := by
  refine u_ref10_Right (N := 0) ?_
  obtain ⟨k1, k2⟩ := kindN_le n
  unfold rightN
  by_cases h1 : n < 0
  · simp [M_ref10_Right, h1]; omega
  · by_cases h2 : 35 ≤ n
    · simp [M_ref10_Right, h1, h2]; omega
    · have h3 : 0 ≤ n := by omega
      have h4 : n < 35 := by omega
      by_cases h5 : kindN n = 1
      · simp [M_ref10_Right, sp_rOperand, h1, h2, h3, h4, h5]
      · by_cases h6 : 0 ≤ a <;> simp [M_ref10_Right, sp_rOperand, sp_rmost k1 k2, h1, h2, h3, h4, h5, h6]
@[simp] theorem sp_has {n : Int} : S_instr_has n = some (decide (kindN n ≠ 0), ()) := by
  refine u_instr_has (N := 0) ?_
  simp [M_instr_has, sp_Operand]
def instrP (l : List UInt8) : Pr (Int × Int) :=
  match byteP l with
  | .error e => .error e
  | .ok (x, l) => if 35 ≤ u8I x then .error 8 else if kindN (u8I x) = 0 then .ok ((u8I x, 0), l) else
    match intP l with
    | .error e => .error e
    | .ok (a, l) => if rightN (u8I x) a then .ok ((u8I x, a), l) else .error 2
theorem intP_len {l l' : List UInt8} {x : Int} (h : intP l = .ok (x, l')) : l'.length ≤ l.length := by
  unfold intP at h
  split at h
  · rename_i u l2 hb
    simp only [Except.ok.injEq, Prod.mk.injEq] at h
    obtain ⟨_, rfl⟩ := h
    exact bitsP_len hb
  · cases h
theorem instrP_len {l l' : List UInt8} {x : Int × Int} (h : instrP l = .ok (x, l')) : l'.length ≤ l.length := by
  cases l with
  | nil => simp [instrP, byteP] at h
  | cons y l =>
    simp only [instrP, byteP] at h
    split at h
    · cases h
    · split at h
      · cases h; simp
      · split at h
        · cases h
        · rename_i a l2 hi
          have := intP_len hi
          split at h
          · cases h; simp; omega
          · cases h
def two (p : Pr (Int × Int)) : Pr (Int × (Int × Unit)) :=
  match p with
  | .ok ((n, a), l) => .ok ((n, (a, ())), l)
  | .error e => .error e
theorem im_instr {l : List UInt8} (hl : Len l) : ImT (S_instr_Take l true 0) (two (instrP l)) (0, (0, ())) := by
  cases l with
  | nil =>
    obtain ⟨he, l', hB⟩ := im_Byte (l := [])
    refine ⟨by decide, l', u_instr_Take (N := 0) ?_⟩
    simp [M_instr_Take, hB, show u8I 0 = 0 from rfl, show kindN 0 = 0 from rfl]
  | cons x l =>
    have hB : S_cursor_Cursor_Byte (x :: l) true 0 = _ := im_Byte (l := x :: l)
    have hl2 : Len l := by unfold Len at hl ⊢; simp at hl; omega
    have hI := im_Int hl2
    simp only [instrP, byteP]
    by_cases h1 : 35 ≤ u8I x
    · rw [if_pos h1]
      refine ⟨by decide, l, u_instr_Take (N := 0) ?_⟩
      have hk : kindN (u8I x) = 0 := by
        unfold kindN
        repeat' split
        all_goals first | rfl | (exfalso; omega)
      simp [M_instr_Take, hB, h1, hk]
    · rw [if_neg h1]
      by_cases h2 : kindN (u8I x) = 0
      · rw [if_pos h2]
        refine u_instr_Take (N := 0) ?_
        have h3 : rightN (u8I x) 0 = true := by
          refine decide_eq_true ⟨u8_ge, by omega, .inr ⟨Int.le_refl _, ?_⟩⟩
          rw [h2]; decide
        simp [M_instr_Take, hB, h1, h2, sp_iRight, h3]
      · rw [if_neg h2]
        cases hi : intP l with
        | error e =>
          rw [hi] at hI
          obtain ⟨he, l', hI⟩ := hI
          refine ⟨he, l', u_instr_Take (N := 0) ?_⟩
          simp [M_instr_Take, hB, h1, h2, sp_iRight, hI, he]
        | ok p =>
          obtain ⟨a, l'⟩ := p
          rw [hi] at hI
          have hI : S_cursor_Cursor_Int l true 0 = _ := hI
          cases h3 : rightN (u8I x) a with
          | true =>
            simp only [h3, if_true]
            refine u_instr_Take (N := 0) ?_
            simp [M_instr_Take, hB, h1, h2, sp_iRight, hI, h3]
          | false =>
            simp only [h3, Bool.false_eq_true, if_false]
            refine ⟨by decide, l', u_instr_Take (N := 0) ?_⟩
            simp [M_instr_Take, hB, h1, h2, sp_iRight, hI, h3]
theorem ime_instr {l : List UInt8} {e : Int} (he : e ≠ 0) : S_instr_Take l true e = some (l, (true, (e, (0, (0, ()))))) := by
  refine u_instr_Take (N := 0) ?_
  simp [M_instr_Take, ime_Byte he, show u8I 0 = 0 from rfl, show kindN 0 = 0 from rfl, he]
/-- What a function of the document's answer comes to, that hands back two. -/
def Rf2 (r : Option (Int × (Int × (List UInt8 × (Int × Unit))))) (p : Pr (Int × Int)) : Prop :=
  match p with
  | .ok ((n, a), l) => r = some (n, (a, (l, (0, ()))))
  | .error e => e ≠ 0 ∧ ∃ l, r = some (0, (0, (l, (e, ()))))
theorem rf_instr {l : List UInt8} (hl : Len l) : Rf2 (S_ref10_Take l 0) (instrP l) := by
  cases l with
  | nil =>
    obtain ⟨he, a, l', hB⟩ := rf_Byte (l := [])
    refine ⟨by decide, l', u_ref10_Take (N := 0) ?_⟩
    simp [M_ref10_Take, hB]
  | cons x l =>
    have hB : S_ref02_Byte (x :: l) 0 = _ := rf_Byte (l := x :: l)
    have hl2 : Len l := by unfold Len at hl ⊢; simp at hl; omega
    have hI := rf_Int hl2
    simp only [instrP, byteP]
    by_cases h1 : 35 ≤ u8I x
    · rw [if_pos h1]
      refine ⟨by decide, l, u_ref10_Take (N := 0) ?_⟩
      simp [M_ref10_Take, hB, h1]
    · rw [if_neg h1]
      have k0 := (kindN_le (u8I x)).1
      by_cases h2 : kindN (u8I x) = 0
      · rw [if_pos h2]
        refine u_ref10_Take (N := 0) ?_
        have h3 : rightN (u8I x) 0 = true := by
          refine decide_eq_true ⟨u8_ge, by omega, .inr ⟨Int.le_refl _, ?_⟩⟩
          rw [h2]; decide
        simp [M_ref10_Take, hB, h1, h2, sp_rOperand, sp_rRight, h3]
      · rw [if_neg h2]
        have h2' : 0 < kindN (u8I x) := by omega
        cases hi : intP l with
        | error e =>
          rw [hi] at hI
          obtain ⟨he, a, l', hI⟩ := hI
          refine ⟨he, l', u_ref10_Take (N := 0) ?_⟩
          simp [M_ref10_Take, hB, h1, h2', sp_rOperand, sp_rRight, hI, he]
        | ok p =>
          obtain ⟨a, l'⟩ := p
          rw [hi] at hI
          have hI : S_ref02_Int l 0 = _ := hI
          cases h3 : rightN (u8I x) a with
          | true =>
            simp only [h3, if_true]
            refine u_ref10_Take (N := 0) ?_
            simp [M_ref10_Take, hB, h1, h2', sp_rOperand, sp_rRight, hI, h3]
          | false =>
            simp only [h3, Bool.false_eq_true, if_false]
            refine ⟨by decide, l', u_ref10_Take (N := 0) ?_⟩
            simp [M_ref10_Take, hB, h1, h2', sp_rOperand, sp_rRight, hI, h3]
theorem rfe_instr {l : List UInt8} {e : Int} (he : e ≠ 0) : S_ref10_Take l e = some (0, (0, (l, (e, ())))) := by
  refine u_ref10_Take (N := 0) ?_
  simp [M_ref10_Take, rfe_Byte he, he]
end Go.Proofs.YtkdnbnkbnegckaaGreat
