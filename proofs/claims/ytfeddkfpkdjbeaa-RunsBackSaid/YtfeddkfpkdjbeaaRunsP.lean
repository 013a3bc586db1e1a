/- Runs of rows of numbers, in plain Lean. -/
import Derived.LoopTactic
namespace Go.Proofs.Ytfeddkfpkdjbeaa

/-- One run is put behind a row of up to 2000 numbers. -/
def rowStep (acc : List Int) (p : Int × Int) : List Int := acc ++ List.replicate (min p.1.toNat (2000 - acc.length)) p.2
def rowOf (l : List (Int × Int)) : List Int := l.foldl rowStep []

theorem rowStep_le {acc : List Int} (h : acc.length ≤ 2000) (p : Int × Int) : (rowStep acc p).length ≤ 2000 := by
  simp only [rowStep, List.length_append, List.length_replicate]; omega
theorem rowFold_le (l : List (Int × Int)) : ∀ acc : List Int, acc.length ≤ 2000 → (l.foldl rowStep acc).length ≤ 2000 := by
  induction l with
  | nil => intro acc h; exact h
  | cons p l ih => intro acc h; exact ih _ (rowStep_le h p)
theorem rowOf_le (l : List (Int × Int)) : (rowOf l).length ≤ 2000 := rowFold_le l [] (by decide)
theorem rowOf_take_succ (l : List (Int × Int)) (k : Nat) (h : k < l.length) : rowOf (l.take (k + 1)) = rowStep (rowOf (l.take k)) l[k] := by
  simp only [rowOf]
  rw [List.take_succ_eq_append_getElem h, List.foldl_append]
  rfl

/-- May these be the runs of a row? -/
def rightFrom : Option Int → Int → List (Int × Int) → Bool
  | _, _, [] => true
  | prev, left, p :: l => if p.1 < 1 ∨ left < p.1 ∨ prev = some p.2 then false else rightFrom (some p.2) (left - p.1) l
def rightB (l : List (Int × Int)) : Bool := rightFrom none 2000 l
def prevAt (l : List (Int × Int)) (k : Nat) : Option Int := if k = 0 then none else (l[k - 1]?).map (·.2)

theorem prevAt_succ (l : List (Int × Int)) (k : Nat) (h : k < l.length) : prevAt l (k + 1) = some l[k].2 := by
  simp [prevAt, h]
theorem rightFrom_at {l : List (Int × Int)} {k : Nat} (h : k < l.length) (prev : Option Int) (left : Int) :
    rightFrom prev left (l.drop k) = if l[k].1 < 1 ∨ left < l[k].1 ∨ prev = some l[k].2 then false else rightFrom (some l[k].2) (left - l[k].1) (l.drop (k + 1)) := by
  rw [List.drop_eq_getElem_cons h]; rfl

/-- One number more: the last run grows, or a new one begins. -/
def runStep (acc : List (Int × Int)) (v : Int) : List (Int × Int) :=
  match acc[acc.length - 1]? with
  | some p => if p.2 = v then acc.set (acc.length - 1) (p.1 + 1, p.2) else acc ++ [(1, v)]
  | none => acc ++ [(1, v)]
def runsOf (l : List Int) : List (Int × Int) := l.foldl runStep []

theorem runStep_nil (v : Int) : runStep [] v = [(1, v)] := rfl
theorem runStep_hit {acc : List (Int × Int)} {v : Int} (h : 0 < acc.length) (e : acc[acc.length - 1].2 = v) : runStep acc v = acc.set (acc.length - 1) (acc[acc.length - 1].1 + 1, acc[acc.length - 1].2) := by
  unfold runStep
  rw [List.getElem?_eq_getElem (by omega)]
  simp [e]
theorem runStep_miss {acc : List (Int × Int)} {v : Int} (h : 0 < acc.length) (e : acc[acc.length - 1].2 ≠ v) : runStep acc v = acc ++ [(1, v)] := by
  unfold runStep
  rw [List.getElem?_eq_getElem (by omega)]
  simp [e]

theorem runsOf_take_succ (l : List Int) (k : Nat) (h : k < l.length) : runsOf (l.take (k + 1)) = runStep (runsOf (l.take k)) l[k] := by
  simp only [runsOf]
  rw [List.take_succ_eq_append_getElem h, List.foldl_append]
  rfl

/-- Counts are from 1 on, and no more than numbers there are; there are no more runs than numbers. -/
def CntOk (n : Nat) (acc : List (Int × Int)) : Prop := acc.length ≤ n ∧ ∀ p ∈ acc, 1 ≤ p.1 ∧ p.1 ≤ n
theorem CntOk.step {n : Nat} {acc : List (Int × Int)} (h : CntOk n acc) (v : Int) : CntOk (n + 1) (runStep acc v) := by
  obtain ⟨h1, h2⟩ := h
  by_cases hn : 0 < acc.length
  · by_cases e : acc[acc.length - 1].2 = v
    · rw [runStep_hit hn e]
      refine ⟨by simp; omega, fun p hp => ?_⟩
      rcases List.mem_or_eq_of_mem_set hp with hp | rfl
      · have := h2 p hp; omega
      · have := h2 acc[acc.length - 1] (List.getElem_mem _)
        exact ⟨by omega, by simp; omega⟩
    · rw [runStep_miss hn e]
      refine ⟨by simp; omega, fun p hp => ?_⟩
      rcases List.mem_append.1 hp with hp | hp
      · have := h2 p hp; omega
      · simp at hp; subst hp; simp; omega
  · obtain rfl : acc = [] := List.eq_nil_of_length_eq_zero (by omega)
    rw [runStep_nil]
    refine ⟨by simp, fun p hp => ?_⟩
    simp at hp; subst hp; simp; omega
theorem cntOk (l : List Int) : CntOk l.length (runsOf l) := by
  have key : ∀ (l : List Int) (n : Nat) (acc : List (Int × Int)), CntOk n acc → CntOk (n + l.length) (l.foldl runStep acc) := by
    intro l
    induction l with
    | nil => intro n acc h; exact h
    | cons v l ih =>
      intro n acc h
      have := ih (n + 1) _ (h.step v)
      rw [List.length_cons, List.foldl_cons, show n + (l.length + 1) = n + 1 + l.length by omega]
      exact this
  have := key l 0 [] ⟨Nat.le_refl _, by simp⟩
  simpa [runsOf] using this

end Go.Proofs.Ytfeddkfpkdjbeaa
