/- What the runs of a row come to, in plain Lean: the row of them is the row, and they are a row's. -/
import Derived.Test.YtfeddkfpkdjbeaaRunsP
namespace Go.Proofs.Ytfeddkfpkdjbeaa

def expand (R : List (Int × Int)) : List Int := R.flatMap fun p => List.replicate p.1.toNat p.2

theorem runStep_cons (p : Int × Int) (q : Int × Int) (acc : List (Int × Int)) (v : Int) : runStep (p :: q :: acc) v = p :: runStep (q :: acc) v := by
  have e : (p :: q :: acc)[(p :: q :: acc).length - 1]? = (q :: acc)[(q :: acc).length - 1]? := by simp
  unfold runStep
  rw [e]
  split
  · split
    · simp
    · simp
  · simp

theorem runStep_one (p : Int × Int) (v : Int) : runStep [p] v = if p.2 = v then [(p.1 + 1, p.2)] else [p, (1, v)] := by
  unfold runStep; simp

theorem expand_step (v : Int) : ∀ acc : List (Int × Int), (∀ p ∈ acc, 1 ≤ p.1) → expand (runStep acc v) = expand acc ++ [v]
  | [], _ => by simp [runStep, expand]
  | [p], h => by
    have h1 := h p (by simp)
    rw [runStep_one]
    split
    · rename_i e
      subst e
      have : (p.1 + 1).toNat = p.1.toNat + 1 := by omega
      simp [expand, this, List.replicate_succ']
    · simp [expand]
  | p :: q :: acc, h => by
    rw [runStep_cons]
    have := expand_step v (q :: acc) (fun x hx => h x (List.mem_cons_of_mem _ hx))
    simp only [expand, List.flatMap_cons] at this ⊢
    rw [this]
    simp

theorem expand_runsOf (l : List Int) : expand (runsOf l) = l := by
  have key : ∀ (l : List Int) (n : Nat) (acc : List (Int × Int)), CntOk n acc → expand (l.foldl runStep acc) = expand acc ++ l := by
    intro l
    induction l with
    | nil => intro n acc _; simp
    | cons v l ih =>
      intro n acc h
      rw [List.foldl_cons, ih (n + 1) _ (h.step v), expand_step v acc (fun p hp => (h.2 p hp).1)]
      simp
  have := key l 0 [] ⟨Nat.le_refl _, by simp⟩
  simpa [expand, runsOf] using this

theorem rowFold_expand (R : List (Int × Int)) : ∀ acc : List Int, acc.length + (expand R).length ≤ 2000 → R.foldl rowStep acc = acc ++ expand R := by
  induction R with
  | nil => intro acc _; simp [expand]
  | cons p R ih =>
    intro acc h
    have e : expand (p :: R) = List.replicate p.1.toNat p.2 ++ expand R := by simp [expand]
    rw [e, List.length_append, List.length_replicate] at h
    have hs : rowStep acc p = acc ++ List.replicate p.1.toNat p.2 := by
      unfold rowStep; rw [Nat.min_eq_left (by omega)]
    rw [List.foldl_cons, hs, ih _ (by simp; omega), e, List.append_assoc]

theorem rowOf_runsOf (l : List Int) (h : l.length ≤ 2000) : rowOf (runsOf l) = l := by
  unfold rowOf
  rw [rowFold_expand _ [] (by rw [expand_runsOf]; simpa using h), expand_runsOf]
  rfl

/-- Runs as they are found: counts from 1 on, no value twice behind itself. -/
def ChainR : Option Int → List (Int × Int) → Prop
  | _, [] => True
  | prev, p :: R => 1 ≤ p.1 ∧ prev ≠ some p.2 ∧ ChainR (some p.2) R

theorem ChainR.step (v : Int) : ∀ (acc : List (Int × Int)) (prev : Option Int), (acc = [] → prev ≠ some v) → ChainR prev acc → ChainR prev (runStep acc v)
  | [], prev, h, _ => ⟨by simp, h rfl, trivial⟩
  | [p], prev, _, ⟨h1, h2, _⟩ => by
    rw [runStep_one]
    split
    · exact ⟨by simp; omega, h2, trivial⟩
    · rename_i e
      exact ⟨h1, h2, by simp, by simpa using e, trivial⟩
  | p :: q :: acc, prev, _, ⟨h1, h2, h3⟩ => by
    rw [runStep_cons]
    exact ⟨h1, h2, ChainR.step v (q :: acc) (some p.2) (by simp) h3⟩

theorem chain_runsOf (l : List Int) : ChainR none (runsOf l) := by
  have key : ∀ (l : List Int) (acc : List (Int × Int)), ChainR none acc → ChainR none (l.foldl runStep acc) := by
    intro l
    induction l with
    | nil => intro acc h; exact h
    | cons v l ih => intro acc h; exact ih _ (h.step v _ _ (by simp))
  exact key l [] trivial

theorem rightFrom_chain : ∀ (R : List (Int × Int)) (prev : Option Int) (left : Int), ChainR prev R → ((expand R).length : Int) ≤ left → rightFrom prev left R = true
  | [], _, _, _, _ => rfl
  | p :: R, prev, left, ⟨h1, h2, h3⟩, hl => by
    have e : expand (p :: R) = List.replicate p.1.toNat p.2 ++ expand R := by simp [expand]
    rw [e, List.length_append, List.length_replicate] at hl
    unfold rightFrom
    have hn : ¬ (p.1 < 1 ∨ left < p.1 ∨ prev = some p.2) := by
      rintro (h | h | h)
      · omega
      · omega
      · exact h2 h
    rw [if_neg hn]
    exact rightFrom_chain R _ _ h3 (by omega)

theorem rightB_runsOf (l : List Int) (h : l.length ≤ 2000) : rightB (runsOf l) = true :=
  rightFrom_chain _ _ _ (chain_runsOf l) (by rw [expand_runsOf]; omega)

end Go.Proofs.Ytfeddkfpkdjbeaa
