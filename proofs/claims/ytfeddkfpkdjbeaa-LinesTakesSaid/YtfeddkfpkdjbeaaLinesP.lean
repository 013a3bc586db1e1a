/- Where a line is, in plain Lean. -/
import Derived.LoopTactic
namespace Go.Proofs.Ytfeddkfpkdjbeaa

/-- One instruction more: the last span grows, or a new one begins. -/
def ofStep (line : Int) (acc : List (Int × Int)) (i : Nat) (v : Int) : List (Int × Int) :=
  if v ≠ line then acc else
  match acc[acc.length - 1]? with
  | some p => if p.2 = i then acc.set (acc.length - 1) (p.1, i + 1) else acc ++ [((i : Int), (i : Int) + 1)]
  | none => acc ++ [((i : Int), (i : Int) + 1)]
def ofUpto (l : List Int) (line : Int) : Nat → List (Int × Int)
  | 0 => []
  | k + 1 => ofStep line (ofUpto l line k) k ((l[k]?).getD 0)
/-- The spans of a line. -/
def linesOf (l : List Int) (line : Int) : List (Int × Int) := ofUpto l line l.length

theorem ofStep_other {line v : Int} (h : v ≠ line) (acc : List (Int × Int)) (i : Nat) : ofStep line acc i v = acc := by simp [ofStep, h]
theorem ofStep_hit {line : Int} {acc : List (Int × Int)} {i : Nat} (h : 0 < acc.length) (e : acc[acc.length - 1].2 = i) : ofStep line acc i line = acc.set (acc.length - 1) (acc[acc.length - 1].1, (i : Int) + 1) := by
  unfold ofStep
  rw [List.getElem?_eq_getElem (by omega)]
  simp [e]
theorem ofStep_miss {line : Int} {acc : List (Int × Int)} {i : Nat} (h : ∀ (h0 : 0 < acc.length), acc[acc.length - 1].2 ≠ i) : ofStep line acc i line = acc ++ [((i : Int), (i : Int) + 1)] := by
  unfold ofStep
  by_cases h0 : 0 < acc.length
  · rw [List.getElem?_eq_getElem (by omega)]
    simp [h h0]
  · obtain rfl : acc = [] := List.eq_nil_of_length_eq_zero (by omega)
    simp

/-- No more spans than instructions; no span ends behind them. -/
theorem ofUpto_ok (l : List Int) (line : Int) (k : Nat) : (ofUpto l line k).length ≤ k ∧ ∀ p ∈ ofUpto l line k, p.2 ≤ k ∧ 0 ≤ p.1 ∧ 0 ≤ p.2 := by
  induction k with
  | zero => simp [ofUpto]
  | succ k ih =>
    obtain ⟨h1, h2⟩ := ih
    unfold ofUpto ofStep
    split
    · exact ⟨by omega, fun p hp => by have := h2 p hp; omega⟩
    · split
      · rename_i q hq
        split
        · refine ⟨by simp; omega, fun p hp => ?_⟩
          rcases List.mem_or_eq_of_mem_set hp with hp | rfl
          · have := h2 p hp; omega
          · have := h2 q (List.mem_of_getElem? hq); exact ⟨by simp, by simp; omega, by simp; omega⟩
        · refine ⟨by simp; omega, fun p hp => ?_⟩
          rcases List.mem_append.1 hp with hp | hp
          · have := h2 p hp; omega
          · simp at hp; subst hp; simp; omega
      · refine ⟨by simp; omega, fun p hp => ?_⟩
        rcases List.mem_append.1 hp with hp | hp
        · have := h2 p hp; omega
        · simp at hp; subst hp; simp; omega

/-- e is the end of the run that begins at 'at'. -/
def IsEnd (l : List Int) (at' e : Nat) : Prop := at' < e ∧ e ≤ l.length ∧ (∀ j, at' ≤ j → j < e → l[j]? = l[at']?) ∧ (e < l.length → l[e]? ≠ l[at']?)

/-- The spans from one boundary to another. -/
def Bound (l : List Int) : Nat → List (Int × Int × Int) → Nat → Prop
  | a, [], b => a = b
  | a, x :: xs, b => ∃ (h : a < l.length) (e : Nat), IsEnd l a e ∧ x = (l[a], (a : Int), (e : Int)) ∧ Bound l e xs b

theorem Bound.snoc {l : List Int} {m e : Nat} (hlt : m < l.length) (he : IsEnd l m e) : ∀ {a : Nat} {pre : List (Int × Int × Int)}, Bound l a pre m → Bound l a (pre ++ [(l[m], (m : Int), (e : Int))]) e
  | _, [], h => by obtain rfl : _ = m := h; exact ⟨hlt, e, he, rfl, rfl⟩
  | _, _ :: _, ⟨h1, e1, h2, h3, h4⟩ => ⟨h1, e1, h2, h3, Bound.snoc hlt he h4⟩

def collect (line : Int) (pre : List (Int × Int × Int)) : List (Int × Int) := (pre.filter fun x => x.1 == line).map (·.2)

theorem collect_hit {line : Int} (pre : List (Int × Int × Int)) {x : Int × Int × Int} (h : x.1 = line) : collect line (pre ++ [x]) = collect line pre ++ [x.2] := by simp [collect, h]
theorem collect_miss {line : Int} (pre : List (Int × Int × Int)) {x : Int × Int × Int} (h : x.1 ≠ line) : collect line (pre ++ [x]) = collect line pre := by simp [collect, h]
theorem collect_le (line : Int) (pre : List (Int × Int × Int)) : (collect line pre).length ≤ pre.length := by simp only [collect, List.length_map]; exact List.length_filter_le _ _

theorem ofUpto_run_other {l : List Int} {line : Int} {a e : Nat} (hlt : a < l.length) (hv : l[a] ≠ line) (hj : ∀ j, a ≤ j → j < e → l[j]? = l[a]?) : ∀ n, a + n ≤ e → ofUpto l line (a + n) = ofUpto l line a := by
  intro n
  induction n with
  | zero => intro _; rfl
  | succ n ih =>
    intro hn
    show ofStep line (ofUpto l line (a + n)) (a + n) ((l[a + n]?).getD 0) = _
    rw [hj (a + n) (by omega) (by omega), ih (by omega)]
    exact ofStep_other (by simpa [hlt] using hv) _ _

theorem ofUpto_run_same {l : List Int} {line : Int} {a e : Nat} (hlt : a < l.length) (hv : l[a] = line) (hj : ∀ j, a ≤ j → j < e → l[j]? = l[a]?)
    (hlast : ∀ (h0 : 0 < (ofUpto l line a).length), (ofUpto l line a)[(ofUpto l line a).length - 1].2 ≠ a) : ∀ n, a + n + 1 ≤ e → ofUpto l line (a + n + 1) = ofUpto l line a ++ [((a : Int), (a : Int) + n + 1)] := by
  have hval : ∀ n, a + n + 1 ≤ e → (l[a + n]?).getD 0 = line := fun n hn => by rw [hj (a + n) (by omega) (by omega)]; simpa [hlt] using hv
  intro n
  induction n with
  | zero =>
    intro hn
    show ofStep line (ofUpto l line a) a ((l[a]?).getD 0) = _
    have := hval 0 hn
    rw [Nat.add_zero] at this
    rw [this, ofStep_miss hlast]
    simp
  | succ n ih =>
    intro hn
    show ofStep line (ofUpto l line (a + (n + 1))) (a + (n + 1)) ((l[a + (n + 1)]?).getD 0) = _
    rw [hval (n + 1) hn]
    have h1 := ih (by omega)
    rw [show a + (n + 1) = a + n + 1 by omega, h1]
    rw [ofStep_hit (by simp) (by simp <;> omega)]
    simp
    omega

/-- The last span that was found does not end where the line goes on. -/
def Fit (l : List Int) (line : Int) (b : Nat) : Prop :=
  ∀ (h0 : 0 < (ofUpto l line b).length), (ofUpto l line b)[(ofUpto l line b).length - 1].2 = b → ∀ hb : b < l.length, l[b] ≠ line

theorem fit_of {l : List Int} {line : Int} {R : List (Int × Int)} {b : Nat} (e : ofUpto l line b = R) (h : ∀ (h0 : 0 < R.length), R[R.length - 1].2 = b → ∀ hb : b < l.length, l[b] ≠ line) : Fit l line b := by
  subst e; exact h

theorem collect_bound {l : List Int} (line : Int) : ∀ (pre : List (Int × Int × Int)) (a b : Nat), Bound l a pre b → Fit l line a → ofUpto l line a ++ collect line pre = ofUpto l line b ∧ Fit l line b
  | [], a, b, h, hf => by
    obtain rfl : a = b := h
    exact ⟨by simp [collect], hf⟩
  | x :: xs, a, b, ⟨hlt, e, ⟨e1, e2, e3, e4⟩, hx, hb⟩, hf => by
    obtain ⟨n, rfl⟩ : ∃ n, e = a + n + 1 := ⟨e - a - 1, by omega⟩
    by_cases hv : l[a] = line
    · have hrun := ofUpto_run_same (e := a + n + 1) hlt hv e3 (fun h0 hl => hf h0 hl hlt hv) n (Nat.le_refl _)
      have hfit : Fit l line (a + n + 1) := fit_of hrun (fun h0 _ hb' => by
        have := e4 hb'
        rw [List.getElem?_eq_getElem hb', List.getElem?_eq_getElem hlt] at this
        intro e; exact this (by rw [e, hv]))
      obtain ⟨i1, i2⟩ := collect_bound line xs _ b hb hfit
      refine ⟨?_, i2⟩
      rw [← i1, hrun, hx]
      simp [collect, hv, Int.add_assoc]
    · have hrun := ofUpto_run_other (e := a + n + 1) hlt hv e3 (n + 1) (Nat.le_refl _)
      rw [show a + (n + 1) = a + n + 1 by omega] at hrun
      have hfit : Fit l line (a + n + 1) := fit_of hrun (fun h0 hl hb' => by
        have := (ofUpto_ok l line a).2 _ (List.getElem_mem (show (ofUpto l line a).length - 1 < (ofUpto l line a).length by omega))
        omega)
      obtain ⟨i1, i2⟩ := collect_bound line xs _ b hb hfit
      refine ⟨?_, i2⟩
      rw [← i1, hrun, hx]
      simp [collect, hv]

theorem collect_all {l : List Int} (line : Int) {pre : List (Int × Int × Int)} (h : Bound l 0 pre l.length) : collect line pre = linesOf l line := by
  have := (collect_bound line pre 0 l.length h (by intro h0; simp [ofUpto] at h0)).1
  simpa [ofUpto, linesOf] using this

theorem bound_len {l : List Int} : ∀ (pre : List (Int × Int × Int)) (a b : Nat), Bound l a pre b → a + pre.length ≤ b ∧ (a ≤ l.length → b ≤ l.length)
  | [], a, b, h => by obtain rfl : a = b := h; simp
  | x :: xs, a, b, ⟨hlt, e, ⟨e1, e2, _, _⟩, _, hb⟩ => by
    have := bound_len xs e b hb
    simp only [List.length_cons]; omega

end Go.Proofs.Ytfeddkfpkdjbeaa
