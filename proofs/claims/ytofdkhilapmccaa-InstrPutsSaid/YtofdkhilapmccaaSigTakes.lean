/- SigTakes: the list that any bytes begin with is what the page says. -/
import Derived.Test.YtofdkhilapmccaaRefE
import Derived.Test.YtofdkhilapmccaaSigMay
namespace Go.Proofs.Ytofdkhilapmccaa
open Go.RowKit

/-- So many types, behind others. -/
def sigR : Nat → List Int → List UInt8 → List Int × List UInt8 × Int
  | 0, out, bs => (out, bs, 0)
  | k + 1, out, bs => if (byteS bs 0).2.2 = 0 then (if (byteS bs 0).1 = 1 ∨ (byteS bs 0).1 = 2 then sigR k (out ++ [((byteS bs 0).1 : Int)]) (byteS bs 0).2.1 else ([], (byteS bs 0).2.1, 9)) else ([], (byteS bs 0).2.1, (byteS bs 0).2.2)
/-- The list of types that bytes begin with. -/
def sigTake (bs : List UInt8) (er most : Int) : List Int × List UInt8 × Int :=
  if (numS bs er most).2.2 = 0 then sigR (numS bs er most).1 [] (numS bs er most).2.1 else ([], (numS bs er most).2.1, (numS bs er most).2.2)

theorem sigR_step {k : Nat} {out : List Int} {bs : List UInt8} {R : List Int × List UInt8 × Int} (h : R = sigR (k + 1) out bs) :
    ∀ v, v = byteS bs 0 → (v.2.2 ≠ 0 → R = ([], v.2.1, v.2.2)) ∧ (v.2.2 = 0 → (v.1 = 1 ∨ v.1 = 2) → R = sigR k (out ++ [(v.1 : Int)]) v.2.1) ∧ (v.2.2 = 0 → ¬ (v.1 = 1 ∨ v.1 = 2) → R = ([], v.2.1, 9)) := by
  intro v hv
  simp only [sigR, ← hv] at h
  refine ⟨fun h1 => ?_, fun h1 h2 => ?_, fun h1 h2 => ?_⟩
  · rw [h, if_neg h1]
  · rw [h, if_pos h1, if_pos h2]
  · rw [h, if_pos h1, if_neg h2]
theorem byteS_lt (bs : List UInt8) (er : Int) : (byteS bs er).1 < 256 ∧ ((byteS bs er).2.2 ≠ 0 → (byteS bs er).1 = 0) := by
  unfold byteS
  split
  · exact octS_lt bs
  · exact ⟨by omega, fun _ => rfl⟩
theorem byteS_less (bs : List UInt8) (er : Int) : (byteS bs er).2.1.length ≤ bs.length := by
  unfold byteS
  split
  · cases bs with
    | nil => exact Nat.le_refl _
    | cons b t => exact Nat.le_succ _
  · exact Nat.le_refl _
theorem sigR_ok : ∀ (k : Nat) (out : List Int) (bs : List UInt8), (sigR k out bs).1.length ≤ out.length + k ∧ (sigR k out bs).2.1.length ≤ bs.length := by
  intro k
  induction k with
  | zero => intro out bs; exact ⟨Nat.le_refl _, Nat.le_refl _⟩
  | succ k ih =>
    intro out bs
    have hb := byteS_less bs 0
    simp only [sigR]
    split
    · split
      · obtain ⟨a, b⟩ := ih (out ++ [((byteS bs 0).1 : Int)]) (byteS bs 0).2.1
        rw [List.length_append, List.length_singleton] at a
        exact ⟨by omega, by omega⟩
      · exact ⟨Nat.zero_le _, hb⟩
    · exact ⟨Nat.zero_le _, hb⟩
theorem numS_most (bs : List UInt8) (er most : Int) : ((numS bs er most).1 : Int) ≤ most ∨ (numS bs er most).1 = 0 := by
  unfold numS
  split
  · split
    · exact .inr rfl
    · left; omega
  · exact .inr rfl
theorem sigTake_ok (bs : List UInt8) (er most : Int) (hm : most ≤ 9223372036854775807) : (sigTake bs er most).1.length ≤ most.toNat ∧ (sigTake bs er most).2.1.length ≤ bs.length := by
  have h1 := numS_ok bs er most hm
  have h2 := numS_most bs er most
  unfold sigTake
  split
  · obtain ⟨a, b⟩ := sigR_ok (numS bs er most).1 [] (numS bs er most).2.1
    simp only [List.length_nil, Nat.zero_add] at a
    exact ⟨by omega, by omega⟩
  · exact ⟨Nat.zero_le _, h1.2.2⟩

/-- The state of the loops: out and what is left of the bytes. -/
def sigE (k : Nat) (out : List Int) (bs : List UInt8) (er : Int) : List Int × List UInt8 × Int := if er = 0 then sigR k out bs else (out, bs, er)
def sigF (k : Nat) (out : List Int) (bs : List UInt8) (er : Int) : List Int × List UInt8 × Int := if er = 0 then sigR k out bs else ([], bs, er)
theorem sigE_0 (out : List Int) (bs : List UInt8) (er : Int) : sigE 0 out bs er = (out, bs, er) := by
  unfold sigE; split
  · rename_i h; rw [h]; rfl
  · rfl
theorem sigE_z (k : Nat) (out : List Int) (bs : List UInt8) : sigE k out bs 0 = sigR k out bs := if_pos rfl
theorem sigF_z (k : Nat) (out : List Int) (bs : List UInt8) : sigF k out bs 0 = sigR k out bs := if_pos rfl
theorem sigF_e {k : Nat} {out : List Int} {bs : List UInt8} {er : Int} (h : er ≠ 0) : sigF k out bs er = ([], bs, er) := if_neg h
theorem sigTake_E {bs : List UInt8} {er most : Int} (M : Nat × List UInt8 × Int) (h : M = numS bs er most) : sigTake bs er most = sigE M.1 [] M.2.1 M.2.2 := by
  unfold sigTake sigE; rw [← h]
theorem sigTake_F {bs : List UInt8} {er most : Int} (M : Nat × List UInt8 × Int) (h : M = numS bs er most) : sigTake bs er most = sigF M.1 [] M.2.1 M.2.2 := by
  unfold sigTake sigF; rw [← h]

theorem ne_1 {a : Nat} (h : a ≠ 1) : ((a : Int) != 1) = true := by simp; omega
theorem ne_2 {a : Nat} (h : a ≠ 2) : ((a : Int) != 2) = true := by simp; omega
end Go.Proofs.Ytofdkhilapmccaa
