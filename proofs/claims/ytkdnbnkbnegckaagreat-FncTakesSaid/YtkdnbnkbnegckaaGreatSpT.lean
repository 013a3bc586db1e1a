/- Names and types: what the lifted functions come to. Lists of types: what the lifted functions come to. -/
import Derived.Test.YtkdnbnkbnegckaaGreatSpC
namespace Go.Proofs.YtkdnbnkbnegckaaGreat
open Go.RowKit

def firstB (x : UInt8) : Bool := decide (97 ≤ u8I x ∧ u8I x ≤ 122)
def otherB (x : UInt8) : Bool := firstB x || decide (48 ≤ u8I x ∧ u8I x ≤ 57) || decide (u8I x = 95)
def mayB : List UInt8 → Bool
  | [] => false
  | x :: l => decide (l.length < 12) && firstB x && (x :: l).all otherB
@[simp] theorem sp_first {x : UInt8} : S_names_first x = some (firstB x, ()) := u_names_first (N := 0) (by
  by_cases h : 97 ≤ u8I x <;> simp [M_names_first, firstB, h])
@[simp] theorem sp_other {x : UInt8} : S_names_other x = some (otherB x, ()) := u_names_other (N := 0) (by
  cases h : firstB x <;> by_cases h1 : 48 ≤ u8I x <;> by_cases h2 : u8I x ≤ 57 <;> simp [M_names_other, otherB, cnd_b, h, h1, h2])
theorem all_drop {l : List UInt8} {p : UInt8 → Bool} {k : Nat} (h : k < l.length) : (l.drop k).all p = (p l[k] && (l.drop (k + 1)).all p) := by
  rw [List.drop_eq_getElem_cons h, List.all_cons]
theorem sp_May {l : List UInt8} (hl : Len l) : S_names_May l = some (mayB l, ()) := by
  refine u_names_May (N := l.length + 1) ?_
  cases l with
  | nil => simp [M_names_May, mayB]
  | cons x l =>
    simp [M_names_May, mayB]
    by_cases h1 : l.length < 12
    · rw [if_neg (by omega)]
      cases h2 : firstB x with
      | false => simp [cnd_b, h2]
      | true =>
        have hall : (otherB x && l.all otherB) = (x :: l).all otherB := rfl
        simp [cnd_b, h1]
        rw [hall]
        refine iter_to (fun d => (x :: l).length - d.1.toNat) (fun d => ∃ k : Nat, d = ((k : Int), ()) ∧ k ≤ (x :: l).length ∧ (x :: l).all otherB = ((x :: l).drop k).all otherB) ?_ _ _ ⟨0, rfl, Nat.zero_le _, rfl⟩ (by simp)
        rintro _ again ⟨k, rfl, h3, h4⟩ ih
        rw [h4] at ih ⊢
        by_cases hk : k < (x :: l).length
        · rw [all_drop hk]
          have hk2 : (k : Int) < l.length + 1 := by simp at hk; omega
          simp [hk2, bnd_get hk]
          cases h5 : otherB (x :: l)[k] with
          | false => simp
          | true =>
            rw [wi64 (by omega) (by unfold Len at hl; simp at hl; omega)]
            have := ih ((k : Int) + 1, ()) ⟨k + 1, rfl, hk, by rw [all_drop hk, h5]; rfl⟩ (by simp at hk ⊢; omega)
            rw [all_drop hk, h5] at this
            simpa using this
        · have hk2 : ¬(k : Int) < l.length + 1 := by simp at hk; omega
          simp [hk2, List.drop_eq_nil_of_le (Nat.le_of_not_lt hk)]
    · rw [if_pos (by omega)]
      simp [h1]
def headB : List UInt8 → Bool
  | [] => true
  | x :: l => firstB x && l.all otherB
theorem sp_rMay {l : List UInt8} (hl : Len l) : S_ref05_May l = some (mayB l, ()) := by
  refine u_ref05_May (N := l.length + 1) ?_
  simp [M_ref05_May]
  have h0 : mayB l = (decide (1 ≤ l.length ∧ l.length ≤ 12) && (if 0 = 0 then headB l else (l.drop 0).all otherB)) := by
    cases l with
    | nil => rfl
    | cons x l => cases h : firstB x <;> simp [mayB, headB, h, otherB, show l.length < 12 ↔ l.length + 1 ≤ 12 by omega]
  refine iter_to (fun d => l.length - d.1.toNat) (fun d => ∃ k : Nat, d = ((k : Int), ()) ∧ k ≤ l.length ∧ mayB l = (decide (1 ≤ l.length ∧ l.length ≤ 12) && (if k = 0 then headB l else (l.drop k).all otherB))) ?_ _ _ ⟨0, rfl, Nat.zero_le _, h0⟩ (by simp)
  rintro _ again ⟨k, rfl, h3, h4⟩ ih
  by_cases hk : k < l.length
  · simp [hk, bnd_get hk]
    rw [wi64 (by omega) (by unfold Len at hl; omega)]
    have hgood : (if k = 0 then firstB l[k] else otherB l[k]) = true → again ((k : Int) + 1, ()) = some (mayB l, ()) := fun hg => by
      refine ih _ ⟨k + 1, rfl, hk, ?_⟩ (by simp; omega)
      rw [h4]
      congr 1
      by_cases h0 : k = 0
      · subst h0
        cases l with
        | nil => simp at hk
        | cons x l =>
          simp at hg
          simp [headB, hg]
      · rw [if_neg h0] at hg ⊢
        rw [if_neg (by omega), all_drop hk, hg]; rfl
    have hbad : (if k = 0 then firstB l[k] else otherB l[k]) = false → mayB l = false := fun hg => by
      rw [h4]
      by_cases h0 : k = 0
      · subst h0
        cases l with
        | nil => simp at hk
        | cons x l =>
          simp at hg
          simp [headB, hg]
      · rw [if_neg h0] at hg ⊢
        rw [all_drop hk, hg]; simp
    have hP : (if k = 0 then firstB l[k] else otherB l[k]) = true ↔ (97 ≤ u8I l[k] ∧ u8I l[k] ≤ 122) ∨ (k ≠ 0 ∧ (48 ≤ u8I l[k] ∧ u8I l[k] ≤ 57 ∨ u8I l[k] = 95)) := by
      by_cases h0 : k = 0 <;> simp [h0, firstB, otherB]
      omega
    generalize (if k = 0 then firstB l[k] else otherB l[k]) = g at *
    generalize hu : u8I l[k] = u at *
    cases g with
    | true =>
      rw [hgood rfl]
      have := hP.1 rfl
      simp only [joinK_if, joinK_l, joinK_r]
      repeat' split
      all_goals first | rfl | (exfalso; omega)
    | false =>
      rw [hbad rfl]
      have : ¬_ := fun h => Bool.noConfusion (hP.2 h)
      simp only [joinK_if, joinK_l, joinK_r]
      repeat' split
      all_goals first | rfl | (exfalso; omega)
  · have : k = l.length := by omega
    subst this
    rw [h4]
    simp
    cases l with
    | nil => simp
    | cons x l => simp; rw [if_pos (by omega)]; simp; omega
end Go.Proofs.YtkdnbnkbnegckaaGreat
namespace Go.Proofs.YtkdnbnkbnegckaaGreat
open Go.RowKit

@[simp] theorem sp_sigMay {n : Int} : S_sig_May n = some (decide (n = 1) || decide (n = 2), ()) := u_sig_May (N := 0) (by by_cases h : n = 1 <;> simp [M_sig_May, h])
def tyP : Nat → List UInt8 → Pr (List Int)
  | 0, l => .ok ([], l)
  | _ + 1, [] => .error 3
  | n + 1, x :: l => if u8I x = 1 ∨ u8I x = 2 then (match tyP n l with | .ok (r, l) => .ok (u8I x :: r, l) | .error e => .error e) else .error 9
def sigP (m : Int) (l : List UInt8) : Pr (List Int) :=
  match numP m l with
  | .ok (u, l) => tyP u.toNat l
  | .error e => .error e
theorem tyP_ok : ∀ {n : Nat} {l l' : List UInt8} {r : List Int}, tyP n l = .ok (r, l') → r.length = n ∧ l'.length ≤ l.length ∧ ∀ x ∈ r, x = 1 ∨ x = 2
  | 0, l, l', r, h => by simp only [tyP, Except.ok.injEq, Prod.mk.injEq] at h; obtain ⟨rfl, rfl⟩ := h; simp
  | n + 1, [], l', r, h => by simp [tyP] at h
  | n + 1, x :: l, l', r, h => by
    rw [tyP] at h
    split at h
    · rename_i hx
      split at h
      · rename_i r2 l2 h2
        simp only [Except.ok.injEq, Prod.mk.injEq] at h
        obtain ⟨rfl, rfl⟩ := h
        obtain ⟨h3, h4, h5⟩ := tyP_ok h2
        refine ⟨by simp [h3], by simp; omega, ?_⟩
        intro y hy
        rcases List.mem_cons.1 hy with rfl | hy
        · exact hx
        · exact h5 y hy
      · cases h
    · cases h
/-- What comes behind what is there. -/
def withP {α : Type} (out : List α) (p : Pr (List α)) : Pr (List α) :=
  match p with
  | .ok (r, l) => .ok (out ++ r, l)
  | .error e => .error e
theorem Im.of {α : Type} {f g : Option (List UInt8 × (Bool × (Int × (α × Unit))))} {p : Pr α} {z : α} (h : Im f p z) (hu : ∀ q, f = some q → g = some q) : Im g p z := by
  cases p with
  | ok x => exact hu _ h
  | error e => exact ⟨h.1, h.2.choose, hu _ h.2.choose_spec⟩
theorem im_sigTake {l : List UInt8} {m : Int} (hl : Len l) (h0 : 0 ≤ m) (hm : m ≤ 1000000) : Im (S_sig_Take l true 0 m) (sigP m l) [] := by
  have hb := im_Num hl h0 (by omega)
  unfold sigP
  cases h : numP m l with
  | error e =>
    rw [h] at hb
    obtain ⟨he, l', hb⟩ := hb
    refine ⟨he, l', u_sig_Take (N := 1) ?_⟩
    simp [M_sig_Take, hb, iter_s]
  | ok p =>
    obtain ⟨u, l'⟩ := p
    obtain ⟨h1, h2, h3⟩ := numP_ok h
    rw [h] at hb
    obtain ⟨n, rfl⟩ := Int.eq_ofNat_of_zero_le h1
    refine Im.of ?_ fun q hq => u_sig_Take (N := n + 1) hq
    simp [M_sig_Take, show S_cursor_Cursor_Num l true 0 m = _ from hb]
    refine iter_ex (R := fun r => Im r (tyP n l') []) (fun d => n - d.2.2.2.2.1.toNat) (fun d => ∃ (k : Nat) (out : List Int) (l2 : List UInt8), d = (out, (l2, (true, (0, ((k : Int), ()))))) ∧ k ≤ n ∧ out.length = k ∧ Len l2 ∧ tyP n l' = withP out (tyP (n - k) l2)) ?_ _ _ ⟨0, [], l', rfl, Nat.zero_le _, rfl, Nat.le_trans h3 hl, by cases tyP n l' <;> rfl⟩ (by simp)
    rintro _ again ⟨k, out, l2, rfl, hk, ho, hl2, ht⟩ ih
    by_cases hlt : k < n
    · obtain ⟨j, hj⟩ : ∃ j, n - k = j + 1 := ⟨n - k - 1, by omega⟩
      rw [hj] at ht
      cases l2 with
      | nil =>
        obtain ⟨he, l3, hB⟩ := im_Byte (l := [])
        rw [ht]
        refine ⟨by decide, l3, ?_⟩
        simp [hlt, hB]
      | cons x l2 =>
        have hB := im_Byte (l := x :: l2)
        by_cases hx : u8I x = 1 ∨ u8I x = 2
        · have := ih (out ++ [u8I x], (l2, (true, (0, ((k : Int) + 1, ()))))) ⟨k + 1, _, _, rfl, hlt, by simp [ho], by unfold Len at hl2 ⊢; simp at hl2; omega, by
            rw [ht, show n - (k + 1) = j by omega, tyP, if_pos hx]
            cases tyP j l2 <;> simp [withP]⟩ (by simp; omega)
          have hr := room_t (a := k) (b := 1) (c := 8) (by omega) (by omega)
          have hw : wrp .i64 ((k : Int) + 1) = (k : Int) + 1 := wi64 (by omega) (by omega)
          rcases hx with hx | hx <;> simpa [hlt, show S_cursor_Cursor_Byte (x :: l2) true 0 = _ from hB, hx, ho, hr, hw] using this
        · rw [ht, tyP, if_neg hx]
          refine ⟨by decide, l2, ?_⟩
          have hx1 : ¬u8I x = 1 := fun h => hx (.inl h)
          have hx2 : ¬u8I x = 2 := fun h => hx (.inr h)
          simp [hlt, show S_cursor_Cursor_Byte (x :: l2) true 0 = _ from hB, hx1, hx2]
    · have : k = n := by omega
      subst this
      rw [ht]
      simp [tyP, withP]
      rfl
theorem ime_sigTake {l : List UInt8} {e m : Int} (he : e ≠ 0) : S_sig_Take l true e m = some (l, (true, (e, ([], ())))) := by
  refine u_sig_Take (N := 1) ?_
  simp [M_sig_Take, ime_Num he, iter_s]
theorem Rf.of {α : Type} {f g : Option (α × (List UInt8 × (Int × Unit)))} {p : Pr α} (h : Rf f p) (hu : ∀ q, f = some q → g = some q) : Rf g p := by
  cases p with
  | ok x => exact hu _ h
  | error e => exact ⟨h.1, _, _, hu _ h.2.choose_spec.choose_spec⟩
theorem rf_sigTake {l : List UInt8} {m : Int} (hl : Len l) (h0 : 0 ≤ m) (hm : m ≤ 1000000) : Rf (S_ref11_Take l 0 m) (sigP m l) := by
  have hb := rf_Num hl h0 (by omega)
  unfold sigP
  cases h : numP m l with
  | error e =>
    rw [h] at hb
    obtain ⟨he, a, l', hb⟩ := hb
    refine ⟨he, [], l', u_ref11_Take (N := 1) ?_⟩
    simp [M_ref11_Take, hb, iter_s, he]
  | ok p =>
    obtain ⟨u, l'⟩ := p
    obtain ⟨h1, h2, h3⟩ := numP_ok h
    rw [h] at hb
    obtain ⟨n, rfl⟩ := Int.eq_ofNat_of_zero_le h1
    refine Rf.of ?_ fun q hq => u_ref11_Take (N := n + 2) hq
    simp [M_ref11_Take, show S_ref02_Num l 0 m = _ from hb]
    refine iter_ex (R := fun r => Rf (joinK r _) (tyP n l')) (fun d => if d.2.2.1 = 0 then n + 1 - d.2.2.2.2.1.toNat else 0) (fun d => ∃ (k : Nat) (out : List Int) (l2 : List UInt8) (e : Int), d = (out, (l2, (e, (0, ((k : Int), ()))))) ∧ ((e = 0 ∧ k ≤ n ∧ out.length = k ∧ Len l2 ∧ tyP n l' = withP out (tyP (n - k) l2)) ∨ (e ≠ 0 ∧ tyP n l' = .error e))) ?_ _ _ ⟨0, [], l', 0, rfl, .inl ⟨rfl, Nat.zero_le _, rfl, Nat.le_trans h3 hl, by cases tyP n l' <;> rfl⟩⟩ (by simp)
    rintro _ again ⟨k, out, l2, e, rfl, ⟨rfl, hk, ho, hl2, ht⟩ | ⟨he, ht⟩⟩ ih
    · by_cases hlt : k < n
      · obtain ⟨j, hj⟩ : ∃ j, n - k = j + 1 := ⟨n - k - 1, by omega⟩
        rw [hj] at ht
        have hr := room_t (a := k) (b := 1) (c := 8) (by omega) (by omega)
        have hw : wrp .i64 ((k : Int) + 1) = (k : Int) + 1 := wi64 (by omega) (by omega)
        cases l2 with
        | nil =>
          obtain ⟨he, a, l3, hB⟩ := rf_Byte (l := [])
          have := ih (out ++ [u8I a], (l3, (3, (0, ((k : Int) + 1, ()))))) ⟨k + 1, _, _, _, rfl, .inr ⟨by decide, by rw [ht]; rfl⟩⟩ (by simp; omega)
          simpa [hlt, hB, ho, hr, hw] using this
        | cons x l2 =>
          have hB := rf_Byte (l := x :: l2)
          by_cases hx : u8I x = 1 ∨ u8I x = 2
          · have := ih (out ++ [u8I x], (l2, (0, (0, ((k : Int) + 1, ()))))) ⟨k + 1, _, _, _, rfl, .inl ⟨rfl, hlt, by simp [ho], by unfold Len at hl2 ⊢; simp at hl2; omega, by
              rw [ht, show n - (k + 1) = j by omega, tyP, if_pos hx]
              cases tyP j l2 <;> simp [withP]⟩⟩ (by simp; omega)
            rcases hx with hx | hx <;> simpa [hlt, show S_ref02_Byte (x :: l2) 0 = _ from hB, hx, ho, hr, hw] using this
          · have hx1 : ¬u8I x = 1 := fun h => hx (.inl h)
            have hx2 : ¬u8I x = 2 := fun h => hx (.inr h)
            have := ih (out ++ [u8I x], (l2, (9, (0, ((k : Int) + 1, ()))))) ⟨k + 1, _, _, _, rfl, .inr ⟨by decide, by rw [ht, tyP, if_neg hx]; rfl⟩⟩ (by simp; omega)
            simpa [hlt, show S_ref02_Byte (x :: l2) 0 = _ from hB, hx1, hx2, ho, hr, hw] using this
      · have : k = n := by omega
        subst this
        rw [ht]
        simp [tyP, withP]
        rfl
    · rw [ht]
      refine ⟨he, [], l2, ?_⟩
      simp [he]
theorem rfe_sigTake {l : List UInt8} {e m : Int} (he : e ≠ 0) : S_ref11_Take l e m = some ([], (l, (e, ()))) := by
  refine u_ref11_Take (N := 1) ?_
  simp [M_ref11_Take, rfe_Num he, iter_s, he]
end Go.Proofs.YtkdnbnkbnegckaaGreat
