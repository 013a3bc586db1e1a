/- Tables of sets: each set, and how often it stands there. -/
import Derived.Test.YtofdkhilapmccaaSetZ
import Derived.Test.YtofdkhilapmccaaTreeP
namespace Go.Proofs.Ytofdkhilapmccaa
open Go.RowKit

abbrev CntT := SetT × Nat
def cntS (acc : List CntT) (s : SetT) : List CntT := match acc.getLast? with
  | some c => if c.1 = s then acc.dropLast ++ [(s, c.2 + 1)] else acc ++ [(s, 1)]
  | none => [(s, 1)]
def cnts (l : List SetT) : List CntT := l.foldl cntS []
def cntC (c : CntT) : List Value := setC c.1 ++ [.int .i64 c.2]
def zeroC : List Value := [.int .u64 0, .int .u64 0, .int .u64 0, .int .u64 0, .int .i64 0]
def setN (s : SetT) : List Nat := [s.a, s.b, s.c, s.d]
def putCnt (c : CntT) : List UInt8 := putB c.2 ++ (setN c.1).flatMap putB
def putMaps (l : List SetT) : List UInt8 := (cnts l).flatMap putCnt

theorem cntS_nil (s : SetT) : cntS [] s = [(s, 1)] := rfl
theorem cntS_eq (A : List CntT) (s : SetT) (m : Nat) : cntS (A ++ [(s, m)]) s = A ++ [(s, m + 1)] := by simp [cntS]
theorem cntS_ne (A : List CntT) {t s : SetT} (m : Nat) (h : ¬ t = s) : cntS (A ++ [(t, m)]) s = (A ++ [(t, m)]) ++ [(s, 1)] := by simp [cntS, h]
theorem cnts_snoc (l : List SetT) (s : SetT) : cnts (l ++ [s]) = cntS (cnts l) s := by simp [cnts]
theorem cnts_take {l : List SetT} {k : Nat} (h : k < l.length) : cnts (l.take (k + 1)) = cntS (cnts (l.take k)) l[k] := by
  rw [List.take_succ_eq_append_getElem h, cnts_snoc]

theorem cnts_inv (l : List SetT) : (cnts l).length ≤ l.length ∧ (∀ c ∈ cnts l, 1 ≤ c.2 ∧ c.2 ≤ l.length ∧ c.1 ∈ l) := by
  have h : ∀ r : List SetT, (cnts r.reverse).length ≤ r.length ∧ (∀ c ∈ cnts r.reverse, 1 ≤ c.2 ∧ c.2 ≤ r.length ∧ c.1 ∈ r) := by
    intro r
    induction r with
    | nil => exact ⟨Nat.le_refl _, by simp [cnts]⟩
    | cons s r ih =>
      obtain ⟨h1, h2⟩ := ih
      rw [List.reverse_cons, cnts_snoc]
      generalize cnts r.reverse = acc at *
      rcases List.eq_nil_or_concat acc with rfl | ⟨A, ⟨t, m⟩, rfl⟩
      · rw [cntS_nil]; simp
      · rw [List.concat_eq_append] at *
        have hm := h2 (t, m) (by simp)
        by_cases e : t = s
        · subst e
          rw [cntS_eq]
          refine ⟨by simp at h1 ⊢; omega, fun c hc => ?_⟩
          simp only [List.mem_append, List.mem_singleton] at hc
          rcases hc with hc | rfl
          · have := h2 c (by simp [hc]); exact ⟨this.1, by simp; omega, by simp [this.2.2]⟩
          · exact ⟨by simp, by simp at hm ⊢; omega, by simp⟩
        · rw [cntS_ne _ _ e]
          refine ⟨by simp at h1 ⊢; omega, fun c hc => ?_⟩
          rw [List.mem_append, List.mem_singleton] at hc
          rcases hc with hc | rfl
          · have := h2 c hc; exact ⟨this.1, by simp; omega, by simp [this.2.2]⟩
          · simp
  have := h l.reverse
  rw [List.reverse_reverse] at this
  exact ⟨by simpa using this.1, fun c hc => by simpa using this.2 c hc⟩

theorem cnts_last (l : List SetT) (s : SetT) (hs : l.getLast? ≠ some s) (n : Nat) : cnts (l ++ List.replicate (n + 1) s) = cnts l ++ [(s, n + 1)] := by
  have h0 : ∀ r : List SetT, ((cnts r.reverse).getLast?.map (·.1)) = r.head? := by
    intro r
    cases r with
    | nil => rfl
    | cons t r =>
      rw [List.reverse_cons, cnts_snoc]
      generalize cnts r.reverse = acc
      rcases List.eq_nil_or_concat acc with rfl | ⟨A, ⟨u, m⟩, rfl⟩
      · rfl
      · rw [List.concat_eq_append]
        by_cases e : u = t
        · subst e; rw [cntS_eq]; simp
        · rw [cntS_ne _ _ e]; simp
  have h1 := h0 l.reverse
  rw [List.reverse_reverse, List.head?_reverse] at h1
  induction n with
  | zero =>
    rw [List.replicate_succ, List.replicate_zero, cnts_snoc]
    generalize cnts l = acc at *
    rcases List.eq_nil_or_concat acc with rfl | ⟨A, ⟨u, m⟩, rfl⟩
    · rfl
    · rw [List.concat_eq_append] at *
      refine cntS_ne _ _ fun e => hs ?_
      rw [← h1, e]; simp
  | succ n ih => rw [List.replicate_succ', ← List.append_assoc, cnts_snoc, ih, cntS_eq]

theorem putCnt_le (c : CntT) : (putCnt c).length ≤ 50 := by
  have := putB_le c.2; have := putB_le c.1.a; have := putB_le c.1.b; have := putB_le c.1.c; have := putB_le c.1.d
  simp only [putCnt, setN, List.flatMap_cons, List.flatMap_nil, List.length_append, List.length_nil]; omega

/-- The last element of a row of one's own, stored anew. -/
theorem own_last5 {w : World} {base : Nat} {e : TypeId} {g cap n : Nat} {xs : List Value} {a b c d m a' b' c' d' m' : Value} (hx : xs.length = n * 5)
    (h : w.ownsRow base e 5 (.slice (some ⟨g, 0, none⟩) (n + 1) cap) (n + 1) (xs ++ [a, b, c, d, m])) :
    (((((w.setCell ⟨g, n * 5, none⟩ a').setCell ⟨g, n * 5 + 1, none⟩ b').setCell ⟨g, n * 5 + 2, none⟩ c').setCell ⟨g, n * 5 + 3, none⟩ d').setCell ⟨g, n * 5 + 4, none⟩ m').ownsRow base e 5 (.slice (some ⟨g, 0, none⟩) (n + 1) cap) (n + 1) (xs ++ [a', b', c', d', m']) := by
  have h5 := (((((h.stored (n * 5) a').1.stored (n * 5 + 1) b').1.stored (n * 5 + 2) c').1.stored (n * 5 + 3) d').1.stored (n * 5 + 4) m').1
  have hl : ((((((xs ++ [a, b, c, d, m]).set (n * 5) a').set (n * 5 + 1) b').set (n * 5 + 2) c').set (n * 5 + 3) d').set (n * 5 + 4) m') = xs ++ [a', b', c', d', m'] := by
    rw [← hx]; simp [List.set_append]
  rwa [hl] at h5
end Go.Proofs.Ytofdkhilapmccaa
