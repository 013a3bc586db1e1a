/- Taking a run, and a row, in plain Lean; and what a call on a cursor leaves of what else there is. -/
import Derived.Test.YtfeddkfpkdjbeaaCurE
namespace Go.Proofs.Ytfeddkfpkdjbeaa
open Go.RowKit

/-- Nothing but block g, and new blocks, has turned. -/
structure GrowG (g : Nat) (w w' : World) : Prop where
  h : w.grownBy w' (some g)
theorem GrowG.rf (g : Nat) (w : World) : GrowG g w w := ⟨World.grownBy.refl _ _⟩
theorem GrowG.tr {g : Nat} {a b c : World} (h : GrowG g a b) (k : GrowG g b c) : GrowG g a c := ⟨h.h.trans k.h⟩
theorem GrowG.call {g : Nat} {a b c : World} (h : GrowG g a b) (k : b.grownBy c (some g)) : GrowG g a c := ⟨h.h.trans k⟩
theorem GrowG.ext {g : Nat} {a b c : World} (h : GrowG g a b) (k : Ext b c) : GrowG g a c := ⟨h.h.trans (k.grow g)⟩
theorem GrowG.al {g : Nat} {a b : World} (h : GrowG g a b) (o : Obj) : GrowG g a (b.alloc o) := h.ext ((Ext.rf b).al o)
theorem GrowG.dr {g : Nat} {a b : World} (h : GrowG g a b) : GrowG g a b.drew := h.ext ((Ext.rf b).dr)
theorem GrowG.size {g : Nat} {a b : World} (h : GrowG g a b) : a.heap.size ≤ b.heap.size := h.h.size
theorem GrowG.setF {g s : Nat} {a b : World} (h : GrowG g a b) (hs : a.heap.size ≤ s) (j : Nat) (v : Value) : GrowG g a (b.setCell ⟨s, j, none⟩ v) :=
  ⟨⟨h.h.os, h.h.tape, h.h.output, by simpa [World.setCell] using h.h.size, fun k hk hne => (Below.heap_setCell _ _ _ k (by show k ≠ s; omega)).trans (h.h.block k hk hne)⟩⟩
theorem GrowG.push {g : Nat} {w0 w w' : World} {base : Nat} {e : TypeId} {size : Nat} {v v' : Value} {n : Nat} {xs : List Value} (h : GrowG g w0 w) (hown : w.ownsRow base e size v n xs) (hb : w0.heap.size ≤ base)
    (hg : Grow w w' v v') : GrowG g w0 w' :=
  ⟨⟨hg.os.trans h.h.os, hg.tape.trans h.h.tape, hg.output.trans h.h.output, Nat.le_trans h.size hg.size, fun k hk hne => by
    rw [hg.block k (Nat.lt_of_lt_of_le hk h.size) (fun e => by have := (hown.lt k e.symm).1; omega)]
    exact h.h.block k hk hne⟩⟩
theorem own_call {w w' : World} {base : Nat} {e : TypeId} {size : Nat} {v : Value} {n : Nat} {xs : List Value} {g : Nat} (h : w.ownsRow base e size v n xs) (hg : w.grownBy w' (some g)) (hb : g < base) : w'.ownsRow base e size v n xs :=
  h.kept hg (by
    cases hv : v.ownBlock with
    | none => exact .inl rfl
    | some k => exact .inr (fun e => by cases e; have := (h.lt g hv).1; omega))
theorem CurAt.push {W W' : World} {g : Nat} {bs : List UInt8} {er : Int} {base : Nat} {e : TypeId} {size : Nat} {v v' : Value} {n : Nat} {xs : List Value} (h : CurAt W g bs er) (hown : W.ownsRow base e size v n xs) (hb : g < base) (hg : Grow W W' v v') : CurAt W' g bs er := by
  obtain ⟨bs0, ao, cap, h1, h2, h3, h4, h5⟩ := h
  have hne : ∀ k, k ≤ g → some k ≠ v.ownBlock := fun k hk e => by have := (hown.lt k e.symm).1; omega
  exact ⟨bs0, ao, cap, (hg.block g (Array.getElem?_eq_some_iff.1 h1).1 (hne g (Nat.le_refl _))).trans h1,
    h2.grow hg (fun ad e h => hne _ (Nat.le_of_lt (h3 ad e)) h.symm), h3, h4, h5⟩

/-- The next run: how many, what, and what is left. -/
def runS (left : Nat) (bs : List UInt8) (er : Int) : Nat × Int × List UInt8 × Int :=
  let u := bitsS bs er
  let v := bitsS u.2.1 (if u.2.2 = 0 ∧ (u.1 = 0 ∨ left < u.1) then 5 else u.2.2)
  (u.1, unfoldI v.1, v.2.1, v.2.2)

theorem unfoldI_zero : unfoldI 0 = 0 := by decide +kernel
theorem bitsS_err {bs : List UInt8} {er : Int} (h : er ≠ 0) : bitsS bs er = (0, bs, er) := by simp [bitsS, h]
theorem bitsS_zero {bs : List UInt8} {er : Int} (h : (bitsS bs er).2.2 = 0) : er = 0 := by
  by_cases h0 : er = 0
  · exact h0
  · rw [bitsS_err h0] at h; exact h
theorem runS_form {left : Nat} {bs : List UInt8} {er : Int} (h : (bitsS bs er).2.2 = 0) (h2 : (bitsS bs er).1 = 0 ∨ left < (bitsS bs er).1) : runS left bs er = ((bitsS bs er).1, 0, (bitsS bs er).2.1, 5) := by
  simp only [runS]
  rw [if_pos ⟨h, h2⟩, bitsS_err (er := 5) (by decide)]
  simp only [unfoldI_zero]
theorem runS_err {left : Nat} {bs : List UInt8} {er : Int} (h : (bitsS bs er).2.2 ≠ 0) : runS left bs er = ((bitsS bs er).1, 0, (bitsS bs er).2.1, (bitsS bs er).2.2) := by
  simp only [runS]
  rw [if_neg (fun e => h e.1), bitsS_err (er := (bitsS bs er).2.2) h]
  simp only [unfoldI_zero]
theorem runS_fine {left : Nat} {bs : List UInt8} {er : Int} (h : (bitsS bs er).2.2 = 0) (h2 : ¬ ((bitsS bs er).1 = 0 ∨ left < (bitsS bs er).1)) :
    runS left bs er = ((bitsS bs er).1, unfoldI (bitsS (bitsS bs er).2.1 0).1, (bitsS (bitsS bs er).2.1 0).2.1, (bitsS (bitsS bs er).2.1 0).2.2) := by
  simp only [runS]
  rw [if_neg (fun e => h2 e.2), h]
theorem unfoldI_bounds {u : Nat} (h : u < 18446744073709551616) : -9223372036854775808 ≤ unfoldI u ∧ unfoldI u ≤ 9223372036854775807 := by
  unfold unfoldI; split <;> omega
theorem runS_ok (left : Nat) (bs : List UInt8) (er : Int) : (runS left bs er).2.2.1.length ≤ bs.length ∧ (-9223372036854775808 ≤ (runS left bs er).2.1 ∧ (runS left bs er).2.1 ≤ 9223372036854775807) ∧
    ((runS left bs er).2.2.2 = 0 → 1 ≤ (runS left bs er).1 ∧ (runS left bs er).1 ≤ left ∧ er = 0) := by
  obtain ⟨u1, u2, u3⟩ := bitsS_ok bs er
  by_cases h : (bitsS bs er).2.2 = 0
  · by_cases h2 : (bitsS bs er).1 = 0 ∨ left < (bitsS bs er).1
    · rw [runS_form h h2]; exact ⟨u3, (show -9223372036854775808 ≤ (0 : Int) ∧ (0 : Int) ≤ 9223372036854775807 by decide), fun e => absurd e (by show ¬ (5 : Int) = 0; decide)⟩
    · rw [runS_fine h h2]
      obtain ⟨v1, v2, v3⟩ := bitsS_ok (bitsS bs er).2.1 0
      exact ⟨Nat.le_trans v3 u3, unfoldI_bounds v1, fun _ => ⟨by omega, by omega, bitsS_zero h⟩⟩
  · rw [runS_err h]; exact ⟨u3, (show -9223372036854775808 ≤ (0 : Int) ∧ (0 : Int) ≤ 9223372036854775807 by decide), fun e => absurd e h⟩

/-- The row of n numbers that bytes go on with, behind the numbers out. -/
def takeR (low high : Int) (n : Nat) : Nat → List Int → List UInt8 → Int → List Int × List UInt8 × Int
  | 0, out, bs, er => (out, bs, er)
  | f + 1, out, bs, er =>
    if n ≤ out.length then (if er = 0 then (out, bs, er) else ([], bs, er))
    else if (runS (n - out.length) bs er).2.2.2 ≠ 0 then ([], (runS (n - out.length) bs er).2.2)
    else if out.getLast? = some (runS (n - out.length) bs er).2.1 then ([], (runS (n - out.length) bs er).2.2.1, 5)
    else if (runS (n - out.length) bs er).2.1 < low ∨ high < (runS (n - out.length) bs er).2.1 then ([], (runS (n - out.length) bs er).2.2.1, 2)
    else takeR low high n f (out ++ List.replicate (runS (n - out.length) bs er).1 (runS (n - out.length) bs er).2.1) (runS (n - out.length) bs er).2.2.1 0

theorem takeR_step {low high : Int} {n f : Nat} {out : List Int} {bs : List UInt8} {er : Int} {R : List Int × List UInt8 × Int} (h : R = takeR low high n (f + 1) out bs er) :
    (n ≤ out.length → er = 0 → R = (out, bs, er)) ∧ (n ≤ out.length → er ≠ 0 → R = ([], bs, er)) ∧
    (out.length < n → ∀ r, r = runS (n - out.length) bs er →
      (r.2.2.2 ≠ 0 → R = ([], r.2.2.1, r.2.2.2)) ∧ (r.2.2.2 = 0 → out.getLast? = some r.2.1 → R = ([], r.2.2.1, 5)) ∧
      (r.2.2.2 = 0 → out.getLast? ≠ some r.2.1 → (r.2.1 < low ∨ high < r.2.1) → R = ([], r.2.2.1, 2)) ∧
      (r.2.2.2 = 0 → out.getLast? ≠ some r.2.1 → ¬ (r.2.1 < low ∨ high < r.2.1) → R = takeR low high n f (out ++ List.replicate r.1 r.2.1) r.2.2.1 0)) := by
  simp only [takeR] at h
  refine ⟨fun h1 h2 => ?_, fun h1 h2 => ?_, fun h1 r hr => ?_⟩
  · rw [h, if_pos h1, if_pos h2]
  · rw [h, if_pos h1, if_neg h2]
  · rw [if_neg (by omega), ← hr] at h
    refine ⟨fun h2 => ?_, fun h2 h3 => ?_, fun h2 h3 h4 => ?_, fun h2 h3 h4 => ?_⟩
    · rw [h, if_pos h2]
    · rw [h, if_neg (fun e => e h2), if_pos h3]
    · rw [h, if_neg (fun e => e h2), if_neg h3, if_pos h4]
    · rw [h, if_neg (fun e => e h2), if_neg h3, if_neg h4]

/-- The row of n numbers that bytes begin with. -/
def takeRow (n : Int) (low high : Int) (bs : List UInt8) (er : Int) : List Int × List UInt8 × Int := takeR low high n.toNat (n.toNat + 1) [] bs er

theorem takeR_ok (low high : Int) (n : Nat) : ∀ (f : Nat) (out : List Int) (bs : List UInt8) (er : Int), (out.length ≤ n ∨ out = []) →
    ((takeR low high n f out bs er).1.length ≤ n ∨ (takeR low high n f out bs er).1 = []) ∧ (takeR low high n f out bs er).2.1.length ≤ bs.length := by
  intro f
  induction f with
  | zero => intro out bs er h; exact ⟨h, Nat.le_refl _⟩
  | succ f ih =>
    intro out bs er h
    simp only [takeR]
    have hr := runS_ok (n - out.length) bs er
    split
    · split
      · exact ⟨h, Nat.le_refl _⟩
      · exact ⟨.inr rfl, Nat.le_refl _⟩
    · split
      · exact ⟨.inr rfl, hr.1⟩
      · rename_i h1 h2
        have h3 := hr.2.2 (by simpa using h2)
        split
        · exact ⟨.inr rfl, hr.1⟩
        · split
          · exact ⟨.inr rfl, hr.1⟩
          · obtain ⟨a, b⟩ := ih (out ++ List.replicate (runS (n - out.length) bs er).1 (runS (n - out.length) bs er).2.1) (runS (n - out.length) bs er).2.2.1 0 (.inl (by rw [List.length_append, List.length_replicate]; omega))
            exact ⟨a, Nat.le_trans b hr.1⟩
theorem takeRow_ok (n low high : Int) (bs : List UInt8) (er : Int) : (takeRow n low high bs er).1.length ≤ n.toNat ∧ (takeRow n low high bs er).2.1.length ≤ bs.length := by
  obtain ⟨a, b⟩ := takeR_ok low high n.toNat (n.toNat + 1) [] bs er (.inr rfl)
  refine ⟨?_, b⟩
  rcases a with a | a
  · exact a
  · show (takeR _ _ _ _ _ _ _).1.length ≤ _
    rw [a]; exact Nat.zero_le _
end Go.Proofs.Ytfeddkfpkdjbeaa
