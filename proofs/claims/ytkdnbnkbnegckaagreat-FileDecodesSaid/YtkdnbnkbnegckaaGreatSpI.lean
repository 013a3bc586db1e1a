/- Names and types: what the lifted functions come to. Lists of types: what the lifted functions come to. Instructions: what the lifted functions come to. -/
import Derived.Test.YtkdnbnkbnegckaaGreatSpC
namespace Go.Proofs.YtkdnbnkbnegckaaGreat
open Go.RowKit

def firstB (x : UInt8) : Bool := decide (97 ≤ u8I x ∧ u8I x ≤ 122)
def otherB (x : UInt8) : Bool := firstB x || decide (48 ≤ u8I x ∧ u8I x ≤ 57) || decide (u8I x = 95)
def mayB : List UInt8 → Bool
  | [] => false
  | x :: l => decide (l.length < 12) && firstB x && (x :: l).all otherB
@[simp] theorem sp_first {x : UInt8} : S_names_first x = some (firstB x, ()) := u_names_first (N := 0) (by
  by_cases h : 97 ≤ u8I x <;> simp [M_names_first, firstB, h])
@[simp] theorem sp_other {x : UInt8} : S_names_other x = some (otherB x, ()) := u_names_other (N := 0) (by
  cases h : firstB x <;> by_cases h1 : 48 ≤ u8I x <;> by_cases h2 : u8I x ≤ 57 <;> simp [M_names_other, otherB, cnd_b, h, h1, h2])
theorem all_drop {l : List UInt8} {p : UInt8 → Bool} {k : Nat} (h : k < l.length) : (l.drop k).all p = (p l[k] && (l.drop (k + 1)).all p) := by
  rw [List.drop_eq_getElem_cons h, List.all_cons]
theorem sp_May {l : List UInt8} (hl : Len l) : S_names_May l = some (mayB l, ()) := by
  refine u_names_May (N := l.length + 1) ?_
  cases l with
  | nil => simp [M_names_May, mayB]
  | cons x l =>
    simp [M_names_May, mayB]
    by_cases h1 : l.length < 12
    · rw [if_neg (by omega)]
      cases h2 : firstB x with
      | false => simp [cnd_b, h2]
      | true =>
        have hall : (otherB x && l.all otherB) = (x :: l).all otherB := rfl
        simp [cnd_b, h1]
        rw [hall]
        refine iter_to (fun d => (x :: l).length - d.1.toNat) (fun d => ∃ k : Nat, d = ((k : Int), ()) ∧ k ≤ (x :: l).length ∧ (x :: l).all otherB = ((x :: l).drop k).all otherB) ?_ _ _ ⟨0, rfl, Nat.zero_le _, rfl⟩ (by simp)
        rintro _ again ⟨k, rfl, h3, h4⟩ ih
        rw [h4] at ih ⊢
        by_cases hk : k < (x :: l).length
        · rw [all_drop hk]
          have hk2 : (k : Int) < l.length + 1 := by simp at hk; omega
          simp [hk2, bnd_get hk]
          cases h5 : otherB (x :: l)[k] with
          | false => simp
          | true =>
            rw [wi64 (by omega) (by unfold Len at hl; simp at hl; omega)]
            have := ih ((k : Int) + 1, ()) ⟨k + 1, rfl, hk, by rw [all_drop hk, h5]; rfl⟩ (by simp at hk ⊢; omega)
            rw [all_drop hk, h5] at this
            simpa using this
        · have hk2 : ¬(k : Int) < l.length + 1 := by simp at hk; omega
          simp [hk2, List.drop_eq_nil_of_le (Nat.le_of_not_lt hk)]
    · rw [if_pos (by omega)]
      simp [h1]
def headB : List UInt8 → Bool
  | [] => true
  | x :: l => firstB x && l.all otherB
theorem sp_rMay {l : List UInt8} (hl : Len l) : S_ref05_May l = some (mayB l, ()) := by
  refine u_ref05_May (N := l.length + 1) ?_
  simp [M_ref05_May]
  have h0 : mayB l = (decide (1 ≤ l.length ∧ l.length ≤ 12) && (if 0 = 0 then headB l else (l.drop 0).all otherB)) := by
    cases l with
    | nil => rfl
    | cons x l => cases h : firstB x <;> simp [mayB, headB, h, otherB, show l.length < 12 ↔ l.length + 1 ≤ 12 by omega]
  refine iter_to (fun d => l.length - d.1.toNat) (fun d => ∃ k : Nat, d = ((k : Int), ()) ∧ k ≤ l.length ∧ mayB l = (decide (1 ≤ l.length ∧ l.length ≤ 12) && (if k = 0 then headB l else (l.drop k).all otherB))) ?_ _ _ ⟨0, rfl, Nat.zero_le _, h0⟩ (by simp)
  rintro _ again ⟨k, rfl, h3, h4⟩ ih
  by_cases hk : k < l.length
  · simp [hk, bnd_get hk]
    rw [wi64 (by omega) (by unfold Len at hl; omega)]
    have hgood : (if k = 0 then firstB l[k] else otherB l[k]) = true → again ((k : Int) + 1, ()) = some (mayB l, ()) := fun hg => by
      refine ih _ ⟨k + 1, rfl, hk, ?_⟩ (by simp; omega)
      rw [h4]
      congr 1
      by_cases h0 : k = 0
      · subst h0
        cases l with
        | nil => simp at hk
        | cons x l =>
          simp at hg
          simp [headB, hg]
      · rw [if_neg h0] at hg ⊢
        rw [if_neg (by omega), all_drop hk, hg]; rfl
    have hbad : (if k = 0 then firstB l[k] else otherB l[k]) = false → mayB l = false := fun hg => by
      rw [h4]
      by_cases h0 : k = 0
      · subst h0
        cases l with
        | nil => simp at hk
        | cons x l =>
          simp at hg
          simp [headB, hg]
      · rw [if_neg h0] at hg ⊢
        rw [all_drop hk, hg]; simp
    have hP : (if k = 0 then firstB l[k] else otherB l[k]) = true ↔ (97 ≤ u8I l[k] ∧ u8I l[k] ≤ 122) ∨ (k ≠ 0 ∧ (48 ≤ u8I l[k] ∧ u8I l[k] ≤ 57 ∨ u8I l[k] = 95)) := by
      by_cases h0 : k = 0 <;> simp [h0, firstB, otherB]
      omega
    generalize (if k = 0 then firstB l[k] else otherB l[k]) = g at *
    generalize hu : u8I l[k] = u at *
    cases g with
    | true =>
      rw [hgood rfl]
      have := hP.1 rfl
      simp only [joinK_if, joinK_l, joinK_r]
      repeat' split
      all_goals first | rfl | (exfalso; omega)
    | false =>
      rw [hbad rfl]
      have : ¬_ := fun h => Bool.noConfusion (hP.2 h)
      simp only [joinK_if, joinK_l, joinK_r]
      repeat' split
      all_goals first | rfl | (exfalso; omega)
  · have : k = l.length := by omega
    subst this
    rw [h4]
    simp
    cases l with
    | nil => simp
    | cons x l => simp; rw [if_pos (by omega)]; simp; omega
end Go.Proofs.YtkdnbnkbnegckaaGreat
namespace Go.Proofs.YtkdnbnkbnegckaaGreat
open Go.RowKit

@[simp] theorem sp_sigMay {n : Int} : S_sig_May n = some (decide (n = 1) || decide (n = 2), ()) := u_sig_May (N := 0) (by by_cases h : n = 1 <;> simp [M_sig_May, h])
def tyP : Nat → List UInt8 → Pr (List Int)
  | 0, l => .ok ([], l)
  | _ + 1, [] => .error 3
  | n + 1, x :: l => if u8I x = 1 ∨ u8I x = 2 then (match tyP n l with | .ok (r, l) => .ok (u8I x :: r, l) | .error e => .error e) else .error 9
def sigP (m : Int) (l : List UInt8) : Pr (List Int) :=
  match numP m l with
  | .ok (u, l) => tyP u.toNat l
  | .error e => .error e
theorem tyP_ok : ∀ {n : Nat} {l l' : List UInt8} {r : List Int}, tyP n l = .ok (r, l') → r.length = n ∧ l'.length ≤ l.length ∧ ∀ x ∈ r, x = 1 ∨ x = 2
  | 0, l, l', r, h => by simp only [tyP, Except.ok.injEq, Prod.mk.injEq] at h; obtain ⟨rfl, rfl⟩ := h; simp
  | n + 1, [], l', r, h => by simp [tyP] at h
  | n + 1, x :: l, l', r, h => by
    rw [tyP] at h
    split at h
    · rename_i hx
      split at h
      · rename_i r2 l2 h2
        simp only [Except.ok.injEq, Prod.mk.injEq] at h
        obtain ⟨rfl, rfl⟩ := h
        obtain ⟨h3, h4, h5⟩ := tyP_ok h2
        refine ⟨by simp [h3], by simp; omega, ?_⟩
        intro y hy
        rcases List.mem_cons.1 hy with rfl | hy
        · exact hx
        · exact h5 y hy
      · cases h
    · cases h
/-- What comes behind what is there. -/
def withP {α : Type} (out : List α) (p : Pr (List α)) : Pr (List α) :=
  match p with
  | .ok (r, l) => .ok (out ++ r, l)
  | .error e => .error e
theorem Im.of {α : Type} {f g : Option (List UInt8 × (Bool × (Int × (α × Unit))))} {p : Pr α} {z : α} (h : Im f p z) (hu : ∀ q, f = some q → g = some q) : Im g p z := by
  cases p with
  | ok x => exact hu _ h
  | error e => exact ⟨h.1, h.2.choose, hu _ h.2.choose_spec⟩
theorem im_sigTake {l : List UInt8} {m : Int} (hl : Len l) (h0 : 0 ≤ m) (hm : m ≤ 1000000) : Im (S_sig_Take l true 0 m) (sigP m l) [] := by
  have hb := im_Num hl h0 (by omega)
  unfold sigP
  cases h : numP m l with
  | error e =>
    rw [h] at hb
    obtain ⟨he, l', hb⟩ := hb
    refine ⟨he, l', u_sig_Take (N := 1) ?_⟩
    simp [M_sig_Take, hb, iter_s]
  | ok p =>
    obtain ⟨u, l'⟩ := p
    obtain ⟨h1, h2, h3⟩ := numP_ok h
    rw [h] at hb
    obtain ⟨n, rfl⟩ := Int.eq_ofNat_of_zero_le h1
    refine Im.of ?_ fun q hq => u_sig_Take (N := n + 1) hq
    simp [M_sig_Take, show S_cursor_Cursor_Num l true 0 m = _ from hb]
    refine iter_ex (R := fun r => Im r (tyP n l') []) (fun d => n - d.2.2.2.2.1.toNat) (fun d => ∃ (k : Nat) (out : List Int) (l2 : List UInt8), d = (out, (l2, (true, (0, ((k : Int), ()))))) ∧ k ≤ n ∧ out.length = k ∧ Len l2 ∧ tyP n l' = withP out (tyP (n - k) l2)) ?_ _ _ ⟨0, [], l', rfl, Nat.zero_le _, rfl, Nat.le_trans h3 hl, by cases tyP n l' <;> rfl⟩ (by simp)
    rintro _ again ⟨k, out, l2, rfl, hk, ho, hl2, ht⟩ ih
    by_cases hlt : k < n
    · obtain ⟨j, hj⟩ : ∃ j, n - k = j + 1 := ⟨n - k - 1, by omega⟩
      rw [hj] at ht
      cases l2 with
      | nil =>
        obtain ⟨he, l3, hB⟩ := im_Byte (l := [])
        rw [ht]
        refine ⟨by decide, l3, ?_⟩
        simp [hlt, hB]
      | cons x l2 =>
        have hB := im_Byte (l := x :: l2)
        by_cases hx : u8I x = 1 ∨ u8I x = 2
        · have := ih (out ++ [u8I x], (l2, (true, (0, ((k : Int) + 1, ()))))) ⟨k + 1, _, _, rfl, hlt, by simp [ho], by unfold Len at hl2 ⊢; simp at hl2; omega, by
            rw [ht, show n - (k + 1) = j by omega, tyP, if_pos hx]
            cases tyP j l2 <;> simp [withP]⟩ (by simp; omega)
          have hr := room_t (a := k) (b := 1) (c := 8) (by omega) (by omega)
          have hw : wrp .i64 ((k : Int) + 1) = (k : Int) + 1 := wi64 (by omega) (by omega)
          rcases hx with hx | hx <;> simpa [hlt, show S_cursor_Cursor_Byte (x :: l2) true 0 = _ from hB, hx, ho, hr, hw] using this
        · rw [ht, tyP, if_neg hx]
          refine ⟨by decide, l2, ?_⟩
          have hx1 : ¬u8I x = 1 := fun h => hx (.inl h)
          have hx2 : ¬u8I x = 2 := fun h => hx (.inr h)
          simp [hlt, show S_cursor_Cursor_Byte (x :: l2) true 0 = _ from hB, hx1, hx2]
    · have : k = n := by omega
      subst this
      rw [ht]
      simp [tyP, withP]
      rfl
theorem ime_sigTake {l : List UInt8} {e m : Int} (he : e ≠ 0) : S_sig_Take l true e m = some (l, (true, (e, ([], ())))) := by
  refine u_sig_Take (N := 1) ?_
  simp [M_sig_Take, ime_Num he, iter_s]
theorem Rf.of {α : Type} {f g : Option (α × (List UInt8 × (Int × Unit)))} {p : Pr α} (h : Rf f p) (hu : ∀ q, f = some q → g = some q) : Rf g p := by
  cases p with
  | ok x => exact hu _ h
  | error e => exact ⟨h.1, _, _, hu _ h.2.choose_spec.choose_spec⟩
theorem rf_sigTake {l : List UInt8} {m : Int} (hl : Len l) (h0 : 0 ≤ m) (hm : m ≤ 1000000) : Rf (S_ref11_Take l 0 m) (sigP m l) := by
  have hb := rf_Num hl h0 (by omega)
  unfold sigP
  cases h : numP m l with
  | error e =>
    rw [h] at hb
    obtain ⟨he, a, l', hb⟩ := hb
    refine ⟨he, [], l', u_ref11_Take (N := 1) ?_⟩
    simp [M_ref11_Take, hb, iter_s, he]
  | ok p =>
    obtain ⟨u, l'⟩ := p
    obtain ⟨h1, h2, h3⟩ := numP_ok h
    rw [h] at hb
    obtain ⟨n, rfl⟩ := Int.eq_ofNat_of_zero_le h1
    refine Rf.of ?_ fun q hq => u_ref11_Take (N := n + 2) hq
    simp [M_ref11_Take, show S_ref02_Num l 0 m = _ from hb]
    refine iter_ex (R := fun r => Rf (joinK r _) (tyP n l')) (fun d => if d.2.2.1 = 0 then n + 1 - d.2.2.2.2.1.toNat else 0) (fun d => ∃ (k : Nat) (out : List Int) (l2 : List UInt8) (e : Int), d = (out, (l2, (e, (0, ((k : Int), ()))))) ∧ ((e = 0 ∧ k ≤ n ∧ out.length = k ∧ Len l2 ∧ tyP n l' = withP out (tyP (n - k) l2)) ∨ (e ≠ 0 ∧ tyP n l' = .error e))) ?_ _ _ ⟨0, [], l', 0, rfl, .inl ⟨rfl, Nat.zero_le _, rfl, Nat.le_trans h3 hl, by cases tyP n l' <;> rfl⟩⟩ (by simp)
    rintro _ again ⟨k, out, l2, e, rfl, ⟨rfl, hk, ho, hl2, ht⟩ | ⟨he, ht⟩⟩ ih
    · by_cases hlt : k < n
      · obtain ⟨j, hj⟩ : ∃ j, n - k = j + 1 := ⟨n - k - 1, by omega⟩
        rw [hj] at ht
        have hr := room_t (a := k) (b := 1) (c := 8) (by omega) (by omega)
        have hw : wrp .i64 ((k : Int) + 1) = (k : Int) + 1 := wi64 (by omega) (by omega)
        cases l2 with
        | nil =>
          obtain ⟨he, a, l3, hB⟩ := rf_Byte (l := [])
          have := ih (out ++ [u8I a], (l3, (3, (0, ((k : Int) + 1, ()))))) ⟨k + 1, _, _, _, rfl, .inr ⟨by decide, by rw [ht]; rfl⟩⟩ (by simp; omega)
          simpa [hlt, hB, ho, hr, hw] using this
        | cons x l2 =>
          have hB := rf_Byte (l := x :: l2)
          by_cases hx : u8I x = 1 ∨ u8I x = 2
          · have := ih (out ++ [u8I x], (l2, (0, (0, ((k : Int) + 1, ()))))) ⟨k + 1, _, _, _, rfl, .inl ⟨rfl, hlt, by simp [ho], by unfold Len at hl2 ⊢; simp at hl2; omega, by
              rw [ht, show n - (k + 1) = j by omega, tyP, if_pos hx]
              cases tyP j l2 <;> simp [withP]⟩⟩ (by simp; omega)
            rcases hx with hx | hx <;> simpa [hlt, show S_ref02_Byte (x :: l2) 0 = _ from hB, hx, ho, hr, hw] using this
          · have hx1 : ¬u8I x = 1 := fun h => hx (.inl h)
            have hx2 : ¬u8I x = 2 := fun h => hx (.inr h)
            have := ih (out ++ [u8I x], (l2, (9, (0, ((k : Int) + 1, ()))))) ⟨k + 1, _, _, _, rfl, .inr ⟨by decide, by rw [ht, tyP, if_neg hx]; rfl⟩⟩ (by simp; omega)
            simpa [hlt, show S_ref02_Byte (x :: l2) 0 = _ from hB, hx1, hx2, ho, hr, hw] using this
      · have : k = n := by omega
        subst this
        rw [ht]
        simp [tyP, withP]
        rfl
    · rw [ht]
      refine ⟨he, [], l2, ?_⟩
      simp [he]
theorem rfe_sigTake {l : List UInt8} {e m : Int} (he : e ≠ 0) : S_ref11_Take l e m = some ([], (l, (e, ()))) := by
  refine u_ref11_Take (N := 1) ?_
  simp [M_ref11_Take, rfe_Num he, iter_s, he]
end Go.Proofs.YtkdnbnkbnegckaaGreat
namespace Go.Proofs.YtkdnbnkbnegckaaGreat
open Go.RowKit

/-- The kind of an instruction's number, and how great it may be. -/
def kindN (n : Int) : Int := if n = 1 then 1 else if n = 2 ∨ n = 3 then 2 else if n = 21 ∨ n = 22 then 3 else if n = 23 ∨ n = 24 then 4 else if n = 28 ∨ n = 29 then 5 else if n = 33 ∨ n = 34 then 6 else 0
def mostN (k : Int) : Int := if k = 2 then 255 else if k = 3 then 1999 else if k = 4 then 39 else if k = 5 then 3 else if k = 6 then 119 else 0
def rightN (n a : Int) : Bool := decide (0 ≤ n ∧ n < 35 ∧ (kindN n = 1 ∨ 0 ≤ a ∧ a ≤ mostN (kindN n)))
theorem kindN_le (n : Int) : 0 ≤ kindN n ∧ kindN n ≤ 6 := by
  unfold kindN
  repeat' split
  all_goals omega
theorem sp_rOperand {n : Int} : S_ref09_Operand n = some (kindN n, ()) := by
  refine u_ref09_Operand (N := 0) ?_
  simp [M_ref09_Operand]
  unfold kindN
  by_cases h1 : n = 1
  · simp [h1]
  · by_cases h2 : n = 2 ∨ n = 3
    · rcases h2 with rfl | rfl <;> simp
    · by_cases h3 : n = 21 ∨ n = 22
      · rcases h3 with rfl | rfl <;> simp
      · by_cases h4 : n = 23 ∨ n = 24
        · rcases h4 with rfl | rfl <;> simp
        · by_cases h5 : n = 28 ∨ n = 29
          · rcases h5 with rfl | rfl <;> simp
          · by_cases h6 : n = 33 ∨ n = 34
            · rcases h6 with rfl | rfl <;> simp
            · have : ¬n = 2 ∧ ¬n = 3 ∧ ¬n = 21 ∧ ¬n = 22 ∧ ¬n = 23 ∧ ¬n = 24 ∧ ¬n = 28 ∧ ¬n = 29 ∧ ¬n = 33 ∧ ¬n = 34 := by omega
              simp [h1, this]
@[simp] theorem sp_opsIs {n : Int} : S_ops_is n = some (decide (0 ≤ n ∧ n < 35), ()) := by
  refine u_ops_is (N := 0) ?_
  by_cases h : 0 ≤ n <;> simp [M_ops_is, h]
theorem sp_Operand {n : Int} : S_ops_Operand n = some (kindN n, ()) := by
  refine u_ops_Operand (N := 0) ?_
  by_cases h : 0 ≤ n ∧ n < 35
  · have : n = 0 ∨ n = 1 ∨ n = 2 ∨ n = 3 ∨ n = 4 ∨ n = 5 ∨ n = 6 ∨ n = 7 ∨ n = 8 ∨ n = 9 ∨ n = 10 ∨ n = 11 ∨ n = 12 ∨ n = 13 ∨ n = 14 ∨ n = 15 ∨ n = 16 ∨ n = 17 ∨ n = 18 ∨ n = 19 ∨ n = 20 ∨ n = 21 ∨ n = 22 ∨ n = 23 ∨ n = 24 ∨ n = 25 ∨ n = 26 ∨ n = 27 ∨ n = 28 ∨ n = 29 ∨ n = 30 ∨ n = 31 ∨ n = 32 ∨ n = 33 ∨ n = 34 := by omega
    rcases this with rfl | rfl | rfl | rfl | rfl | rfl | rfl | rfl | rfl | rfl | rfl | rfl | rfl | rfl | rfl | rfl | rfl | rfl | rfl | rfl | rfl | rfl | rfl | rfl | rfl | rfl | rfl | rfl | rfl | rfl | rfl | rfl | rfl | rfl | rfl <;> simp [M_ops_Operand, kindN]
  · have h2 : kindN n = 0 := by
      unfold kindN
      repeat' split
      all_goals first | rfl | (exfalso; omega)
    by_cases h3 : 0 ≤ n
    · have h4 : ¬n < 35 := fun h4 => h ⟨h3, h4⟩
      simp [M_ops_Operand, h2, h3, h4]
    · simp [M_ops_Operand, h2, h3]
theorem sp_most {n : Int} : S__instr_operand_most n = some (mostN n, ()) := by
  refine u__instr_operand_most (N := 0) ?_
  simp [M__instr_operand_most]
  unfold mostN
  repeat' split
  all_goals first | rfl | (exfalso; omega)
theorem sp_imay {n a : Int} : S__instr_operand_may n a = some (decide (n = 1 ∨ 0 ≤ a ∧ a ≤ mostN n), ()) := by
  refine u__instr_operand_may (N := 0) ?_
  by_cases h1 : n = 1 <;> by_cases h2 : 0 ≤ a <;> simp [M__instr_operand_may, sp_most, h1, h2]
theorem sp_iRight {n a : Int} : S_instr_Right n a = some (rightN n a, ()) := by
  refine u_instr_Right (N := 0) ?_
  unfold rightN
  by_cases h1 : 0 ≤ n <;> by_cases h2 : n < 35 <;> simp [M_instr_Right, sp_Operand, sp_imay, h1, h2]
theorem sp_rmost {n : Int} (h0 : 0 ≤ n) (h6 : n ≤ 6) : S_ref10_most n = some (mostN n, ()) := by
  refine u_ref10_most (N := 0) ?_
  have : n = 0 ∨ n = 1 ∨ n = 2 ∨ n = 3 ∨ n = 4 ∨ n = 5 ∨ n = 6 := by omega
  rcases this with rfl | rfl | rfl | rfl | rfl | rfl | rfl <;> simp [M_ref10_most, mostN]
theorem sp_rRight {n a : Int} : S_ref10_Right n a = some (rightN n a, ()) := by
  refine u_ref10_Right (N := 0) ?_
  obtain ⟨k1, k2⟩ := kindN_le n
  unfold rightN
  by_cases h1 : n < 0
  · simp [M_ref10_Right, h1]; omega
  · by_cases h2 : 35 ≤ n
    · simp [M_ref10_Right, h1, h2]; omega
    · have h3 : 0 ≤ n := by omega
      have h4 : n < 35 := by omega
      by_cases h5 : kindN n = 1
      · simp [M_ref10_Right, sp_rOperand, h1, h2, h3, h4, h5]
      · by_cases h6 : 0 ≤ a <;> simp [M_ref10_Right, sp_rOperand, sp_rmost k1 k2, h1, h2, h3, h4, h5, h6]
@[simp] theorem sp_has {n : Int} : S_instr_has n = some (decide (kindN n ≠ 0), ()) := by
  refine u_instr_has (N := 0) ?_
  simp [M_instr_has, sp_Operand]
def instrP (l : List UInt8) : Pr (Int × Int) :=
  match byteP l with
  | .error e => .error e
  | .ok (x, l) => if 35 ≤ u8I x then .error 8 else if kindN (u8I x) = 0 then .ok ((u8I x, 0), l) else
    match intP l with
    | .error e => .error e
    | .ok (a, l) => if rightN (u8I x) a then .ok ((u8I x, a), l) else .error 2
theorem intP_len {l l' : List UInt8} {x : Int} (h : intP l = .ok (x, l')) : l'.length ≤ l.length := by
  unfold intP at h
  split at h
  · rename_i u l2 hb
    simp only [Except.ok.injEq, Prod.mk.injEq] at h
    obtain ⟨_, rfl⟩ := h
    exact bitsP_len hb
  · cases h
theorem instrP_len {l l' : List UInt8} {x : Int × Int} (h : instrP l = .ok (x, l')) : l'.length ≤ l.length := by
  cases l with
  | nil => simp [instrP, byteP] at h
  | cons y l =>
    simp only [instrP, byteP] at h
    split at h
    · cases h
    · split at h
      · cases h; simp
      · split at h
        · cases h
        · rename_i a l2 hi
          have := intP_len hi
          split at h
          · cases h; simp; omega
          · cases h
def two (p : Pr (Int × Int)) : Pr (Int × (Int × Unit)) :=
  match p with
  | .ok ((n, a), l) => .ok ((n, (a, ())), l)
  | .error e => .error e
theorem im_instr {l : List UInt8} (hl : Len l) : ImT (S_instr_Take l true 0) (two (instrP l)) (0, (0, ())) := by
  cases l with
  | nil =>
    obtain ⟨he, l', hB⟩ := im_Byte (l := [])
    refine ⟨by decide, l', u_instr_Take (N := 0) ?_⟩
    simp [M_instr_Take, hB, show u8I 0 = 0 from rfl, show kindN 0 = 0 from rfl]
  | cons x l =>
    have hB : S_cursor_Cursor_Byte (x :: l) true 0 = _ := im_Byte (l := x :: l)
    have hl2 : Len l := by unfold Len at hl ⊢; simp at hl; omega
    have hI := im_Int hl2
    simp only [instrP, byteP]
    by_cases h1 : 35 ≤ u8I x
    · rw [if_pos h1]
      refine ⟨by decide, l, u_instr_Take (N := 0) ?_⟩
      have hk : kindN (u8I x) = 0 := by
        unfold kindN
        repeat' split
        all_goals first | rfl | (exfalso; omega)
      simp [M_instr_Take, hB, h1, hk]
    · rw [if_neg h1]
      by_cases h2 : kindN (u8I x) = 0
      · rw [if_pos h2]
        refine u_instr_Take (N := 0) ?_
        have h3 : rightN (u8I x) 0 = true := by
          refine decide_eq_true ⟨u8_ge, by omega, .inr ⟨Int.le_refl _, ?_⟩⟩
          rw [h2]; decide
        simp [M_instr_Take, hB, h1, h2, sp_iRight, h3]
      · rw [if_neg h2]
        cases hi : intP l with
        | error e =>
          rw [hi] at hI
          obtain ⟨he, l', hI⟩ := hI
          refine ⟨he, l', u_instr_Take (N := 0) ?_⟩
          simp [M_instr_Take, hB, h1, h2, sp_iRight, hI, he]
        | ok p =>
          obtain ⟨a, l'⟩ := p
          rw [hi] at hI
          have hI : S_cursor_Cursor_Int l true 0 = _ := hI
          cases h3 : rightN (u8I x) a with
          | true =>
            simp only [h3, if_true]
            refine u_instr_Take (N := 0) ?_
            simp [M_instr_Take, hB, h1, h2, sp_iRight, hI, h3]
          | false =>
            simp only [h3, Bool.false_eq_true, if_false]
            refine ⟨by decide, l', u_instr_Take (N := 0) ?_⟩
            simp [M_instr_Take, hB, h1, h2, sp_iRight, hI, h3]
theorem ime_instr {l : List UInt8} {e : Int} (he : e ≠ 0) : S_instr_Take l true e = some (l, (true, (e, (0, (0, ()))))) := by
  refine u_instr_Take (N := 0) ?_
  simp [M_instr_Take, ime_Byte he, show u8I 0 = 0 from rfl, show kindN 0 = 0 from rfl, he]
/-- What a function of the document's answer comes to, that hands back two. -/
def Rf2 (r : Option (Int × (Int × (List UInt8 × (Int × Unit))))) (p : Pr (Int × Int)) : Prop :=
  match p with
  | .ok ((n, a), l) => r = some (n, (a, (l, (0, ()))))
  | .error e => e ≠ 0 ∧ ∃ l, r = some (0, (0, (l, (e, ()))))
theorem rf_instr {l : List UInt8} (hl : Len l) : Rf2 (S_ref10_Take l 0) (instrP l) := by
  cases l with
  | nil =>
    obtain ⟨he, a, l', hB⟩ := rf_Byte (l := [])
    refine ⟨by decide, l', u_ref10_Take (N := 0) ?_⟩
    simp [M_ref10_Take, hB]
  | cons x l =>
    have hB : S_ref02_Byte (x :: l) 0 = _ := rf_Byte (l := x :: l)
    have hl2 : Len l := by unfold Len at hl ⊢; simp at hl; omega
    have hI := rf_Int hl2
    simp only [instrP, byteP]
    by_cases h1 : 35 ≤ u8I x
    · rw [if_pos h1]
      refine ⟨by decide, l, u_ref10_Take (N := 0) ?_⟩
      simp [M_ref10_Take, hB, h1]
    · rw [if_neg h1]
      have k0 := (kindN_le (u8I x)).1
      by_cases h2 : kindN (u8I x) = 0
      · rw [if_pos h2]
        refine u_ref10_Take (N := 0) ?_
        have h3 : rightN (u8I x) 0 = true := by
          refine decide_eq_true ⟨u8_ge, by omega, .inr ⟨Int.le_refl _, ?_⟩⟩
          rw [h2]; decide
        simp [M_ref10_Take, hB, h1, h2, sp_rOperand, sp_rRight, h3]
      · rw [if_neg h2]
        have h2' : 0 < kindN (u8I x) := by omega
        cases hi : intP l with
        | error e =>
          rw [hi] at hI
          obtain ⟨he, a, l', hI⟩ := hI
          refine ⟨he, l', u_ref10_Take (N := 0) ?_⟩
          simp [M_ref10_Take, hB, h1, h2', sp_rOperand, sp_rRight, hI, he]
        | ok p =>
          obtain ⟨a, l'⟩ := p
          rw [hi] at hI
          have hI : S_ref02_Int l 0 = _ := hI
          cases h3 : rightN (u8I x) a with
          | true =>
            simp only [h3, if_true]
            refine u_ref10_Take (N := 0) ?_
            simp [M_ref10_Take, hB, h1, h2', sp_rOperand, sp_rRight, hI, h3]
          | false =>
            simp only [h3, Bool.false_eq_true, if_false]
            refine ⟨by decide, l', u_ref10_Take (N := 0) ?_⟩
            simp [M_ref10_Take, hB, h1, h2', sp_rOperand, sp_rRight, hI, h3]
end Go.Proofs.YtkdnbnkbnegckaaGreat
