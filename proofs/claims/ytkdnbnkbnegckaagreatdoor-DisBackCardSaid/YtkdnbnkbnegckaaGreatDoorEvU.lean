/- What is handed on is what the second machine comes to. -/
import Derived.Test.YtkdnbnkbnegckaaGreatDoorEvT
import Derived.Test.YtkdnbnkbnegckaaGreatDoorEvM
namespace Go.Proofs.YtkdnbnkbnegckaaGreatDoor
open Go.RowKit

section
variable {α β : Type}
theorem chk_ok {b : Bool} {r : Option β} {x : β} (h : chk b r = some x) : b = true ∧ r = some x := by
  cases b with
  | true => exact ⟨rfl, h⟩
  | false => cases h
theorem cnd_ok {b : Bool} {r q : Option β} {x : β} (h : cnd b r q = some x) : (if b then r else q) = some x := by
  cases b <;> exact h
theorem bnd_ok {r : Option α} {k : α → Option β} {x : β} (h : bnd r k = some x) : ∃ a, r = some a ∧ k a = some x := by
  cases r with
  | none => cases h
  | some a => exact ⟨a, rfl, h⟩
theorem joinK_ok {δ : Type} {r : Option (δ ⊕ β)} {k : δ → Option β} {x : β} (h : joinK r k = some x) : (∃ d, r = some (.inl d) ∧ k d = some x) ∨ r = some (.inr x) := by
  match r, h with
  | some (.inl d), h => exact .inl ⟨d, rfl, h⟩
  | some (.inr y), h => cases h; exact .inr rfl
theorem rightK_ok {δ : Type} {r : Option β} {y : δ ⊕ β} (h : rightK r = some y) : ∃ x, y = .inr x ∧ r = some x := by
  cases r with
  | none => cases h
  | some x => cases h; exact ⟨x, rfl, rfl⟩
theorem decK_ok {τ : Ty} {c : List C} {k : Data τ → Option β} {x : β} (h : decK τ c k = some x) : ∃ d, c = enc τ d ∧ k d = some x := by
  unfold decK at h
  split at h
  · rename_i hx
    exact ⟨_, hx.choose_spec, h⟩
  · cases h
theorem decL_ok {τ : Ty} {c : List (List C)} {k : List (Data τ) → Option β} {x : β} (h : decL τ c k = some x) : ∃ d, c = encL τ d ∧ k d = some x := by
  unfold decL at h
  split at h
  · rename_i hx
    exact ⟨_, hx.choose_spec, h⟩
  · cases h
theorem getE_ok {τ : Ty} {es : List (List C)} {i : Nat} {k : Data τ → Option β} {x : β} (h : getE τ es i k = some x) : ∃ d, es[i]? = some (enc τ d) ∧ k d = some x := by
  obtain ⟨c, h1, h2⟩ := bnd_ok h
  obtain ⟨d, rfl, h3⟩ := decK_ok h2
  exact ⟨d, h1, h3⟩

theorem leN_ok {a b : Nat} : leN a b = true ↔ a ≤ b := decide_eq_true_iff
theorem eqN_ok {a b : Nat} : eqN a b = true ↔ a = b := decide_eq_true_iff
theorem leI_ok {a b : Int} : leI a b = true ↔ a ≤ b := decide_eq_true_iff
theorem ltI_ok {a b : Int} : ltI a b = true ↔ a < b := decide_eq_true_iff
section
variable {ρ : Type}
theorem fN_eq (n : Nat) (k : Nat → ρ) : ∀ l, fN l n k = k n
  | [] => rfl
  | i :: is => by
    have ih := fN_eq n k is
    cases h : Nat.beq n i with
    | true =>
      have e : n = i := Nat.eq_of_beq_eq_true h
      subst e
      simp only [fN, h]
    | false => simp only [fN, h, ih]
theorem fL_eq {α : Type} {f : α → (α → ρ) → ρ} (hf : ∀ x k, f x k = k x) : ∀ (l : List α) (k : List α → ρ), fL f l k = k l
  | [], k => rfl
  | x :: xs, k => by simp only [fL, hf, fL_eq hf xs]
theorem fI_eq (i : IntKind) (k : IntKind → ρ) : fI i k = k i := by unfold fI; split <;> rfl
theorem fB_eq (i : Bool) (k : Bool → ρ) : fB i k = k i := by cases i <;> rfl
theorem fV_eq (v : Value) (k : Value → ρ) : fV v k = k v := by unfold fV; split <;> first | rfl | exact fI_eq _ _
theorem fX_eq (x : X) (k : X → ρ) : fX x k = k x := by
  unfold fX
  split
  · exact fV_eq _ _
  · exact fN_eq _ _ _
  · exact fN_eq _ _ _
  · simp only [fN_eq]
  · simp only [fN_eq]
  · exact fN_eq _ _ _
  · simp only [fB_eq, fL_eq fun x k => fN_eq x k lits]
  · rfl
theorem fT_eq (t : T) (k : T → ρ) : fT t k = k t := by unfold fT; split <;> exact fL_eq fX_eq _ _
theorem fR_eq (r : Row) (k : Row → ρ) : fR r k = k r := by unfold fR; split <;> first | rfl | exact fN_eq _ _ _
theorem fH_eq (h : Hp) (k : Hp → ρ) : fH h k = k h := by obtain ⟨b, r⟩ := h; simp only [fH, fL_eq (fL_eq fX_eq), fL_eq fR_eq]
theorem fS_eq (s : S) (k : S → ρ) : fS s k = k s := by obtain ⟨e, h⟩ := s; simp only [fS, fL_eq fT_eq, fH_eq]
theorem fP_eq (s : S) (d : Option Tmp) (v : T) (k : S → ρ) : fP s d v k = k (s.put d v) := by
  cases d with
  | none => simp only [fP, fH_eq, S.put]
  | some d => simp only [fP, fT_eq, fH_eq, fL_eq (f := fun (x : T) (k : T → ρ) => k x) (fun _ _ => rfl), S.put]
theorem fQ_eq (q : T × Hp) (k : T × Hp → ρ) : fQ q k = k q := by obtain ⟨t, h⟩ := q; simp only [fQ, fT_eq, fH_eq]
end

/-! Templates -/
theorem same0_ok {x y : X} (h : same0 x y = true) : x = y := by
  unfold same0 at h
  split at h <;> simp_all
theorem sameX_ok {x y : X} (h : sameX x y = true) : x = y := by
  unfold sameX at h
  split at h
  · split at h
    · simp_all [eqI]
    · cases h
  · simp_all [eqB]
  · simp_all [eqBA]
  · split at h
    · simp_all [eqES]
    · cases h
  · split at h
    · simp_all [eqN]
    · cases h
  · exact same0_ok h
theorem sameR_ok {x y : Row} (h : sameR x y = true) : x = y := by
  unfold sameR at h
  split at h
  · split at h
    · simp_all [eqES]
    · cases h
  · split at h
    · simp_all [eqES]
    · cases h
  · cases h

theorem inU8_ok {n : Int} (h : inU8 n = true) : u8I (toU8 n) = n := by
  have h := of_decide_eq_true h
  simp only [u8I, toU8, UInt8.toNat_ofNat']
  omega
theorem decI_ok : ∀ {k : IntKind} {n : Int} {kk : DI k → Option β} {r : β}, decI k n kk = some r → ∃ d, n = encI k d ∧ kk d = some r
  | .u8, n, kk, r, h => by
    obtain ⟨h1, h2⟩ := chk_ok h
    exact ⟨_, (inU8_ok h1).symm, h2⟩
  | .u16, n, kk, r, h | .u32, n, kk, r, h | .u64, n, kk, r, h | .i8, n, kk, r, h | .i16, n, kk, r, h | .i32, n, kk, r, h | .i64, n, kk, r, h => ⟨n, rfl, h⟩
theorem packH_ok {τ : Ty} {x : X} {kk : Data τ → Option β} {r : β} (h : packH τ x kk = some r) : ∃ d, x = holeX τ d ∧ kk d = some r := by
  unfold packH at h
  split at h
  · split at h
    · rename_i e
      subst e
      obtain ⟨d, rfl, h2⟩ := decI_ok h
      exact ⟨d, rfl, h2⟩
    · cases h
  · exact ⟨_, rfl, h⟩
  · exact ⟨_, rfl, h⟩
  · split at h
    · rename_i e
      subst e
      obtain ⟨d, rfl, h2⟩ := decL_ok h
      exact ⟨d, rfl, h2⟩
    · cases h
  · cases h

theorem packX_ok {rw : List Row} {R : Type} : ∀ {ps : List PX} {xs : List X} {rest : (R → Option β) → Option β} {kk : DX ps R → Option β} {r : β} {Z : R → Prop}, (∀ k r, rest k = some r → ∃ q, Z q ∧ k q = some r) → packX rw ps xs rest kk = some r → ∃ d, xs = (unX rw ps d).1 ∧ Z (unX rw ps d).2 ∧ kk d = some r := by
  intro ps
  induction ps with
  | nil =>
    intro xs rest kk r Z hZ h
    cases xs with
    | nil =>
      simp only [packX] at h
      obtain ⟨q, h1, h2⟩ := hZ _ _ h
      exact ⟨q, rfl, h1, h2⟩
    | cons x xs => simp [packX] at h
  | cons p ps ih =>
    intro xs rest kk r Z hZ h
    cases xs with
    | nil => cases p <;> simp [packX] at h
    | cons x xs =>
    cases p with
    | hole τ =>
      simp only [packX] at h
      obtain ⟨d, rfl, h2⟩ := packH_ok h
      obtain ⟨q, h3, h4, h5⟩ := ih hZ h2
      exact ⟨(d, q), by rw [h3]; rfl, h4, h5⟩
    | own i =>
      cases x with
      | own i' off n =>
        cases off with
        | zero =>
          simp only [packX] at h
          split at h
          · rename_i e
            subst e
            obtain ⟨h1, h2⟩ := chk_ok h
            have hn : n = rowLen rw i' := by simpa [eqN] using h1
            subst hn
            obtain ⟨q, h3, h4, h5⟩ := ih hZ h2
            exact ⟨q, by rw [h3]; rfl, h4, h5⟩
          · cases h
        | succ off => simp [packX] at h
      | _ => simp [packX] at h
    | stat y =>
      simp only [packX] at h
      obtain ⟨e, h⟩ := chk_ok h
      have e := sameX_ok e
      subst e
      obtain ⟨q, h3, h4, h5⟩ := ih hZ h
      exact ⟨q, by rw [h3]; rfl, h4, h5⟩
    | nilp =>
      cases x with
      | c c =>
        cases c with
        | v v =>
          cases v with
          | pointer a =>
            cases a with
            | none =>
              simp only [packX] at h
              obtain ⟨q, h3, h4, h5⟩ := ih hZ h
              exact ⟨q, by rw [h3]; rfl, h4, h5⟩
            | some a => simp [packX] at h
          | _ => simp [packX] at h
        | fz sz es => simp [packX] at h
      | _ => simp [packX] at h
    | junk =>
      cases x with
      | junk =>
        simp only [packX] at h
        obtain ⟨q, h3, h4, h5⟩ := ih hZ h
        exact ⟨q, by rw [h3]; rfl, h4, h5⟩
      | _ => simp [packX] at h
    | fix => simp [packX] at h
theorem packR_ok {R : Type} : ∀ {ps : List PRow} {xs : List Row} {rest : (R → Option β) → Option β} {kk : DR ps R → Option β} {r : β} {Z : R → Prop}, (∀ k r, rest k = some r → ∃ q, Z q ∧ k q = some r) → packR ps xs rest kk = some r → ∃ d, xs = (unR ps d).1 ∧ Z (unR ps d).2 ∧ kk d = some r := by
  intro ps
  induction ps with
  | nil =>
    intro xs rest kk r Z hZ h
    cases xs with
    | nil =>
      simp only [packR] at h
      obtain ⟨q, h1, h2⟩ := hZ _ _ h
      exact ⟨q, rfl, h1, h2⟩
    | cons x xs => simp [packR] at h
  | cons p ps ih =>
    intro xs rest kk r Z hZ h
    cases xs with
    | nil => cases p <;> simp [packR] at h
    | cons x xs =>
    cases p with
    | mu ty sz τ =>
      cases x with
      | mu ty' sz' es =>
        simp only [packR] at h
        split at h
        · rename_i e
          obtain ⟨rfl, rfl⟩ := e
          obtain ⟨d, rfl, h2⟩ := decL_ok h
          obtain ⟨q, h3, h4, h5⟩ := ih hZ h2
          exact ⟨(d, q), by rw [h3]; rfl, h4, h5⟩
        · cases h
      | _ => simp [packR] at h
    | fro sz τ =>
      cases x with
      | fro sz' es =>
        simp only [packR] at h
        split at h
        · rename_i e
          subst e
          obtain ⟨d, rfl, h2⟩ := decL_ok h
          obtain ⟨q, h3, h4, h5⟩ := ih hZ h2
          exact ⟨(d, q), by rw [h3]; rfl, h4, h5⟩
        · cases h
      | _ => simp [packR] at h
    | dead =>
      cases x with
      | dead =>
        simp only [packR] at h
        obtain ⟨q, h3, h4, h5⟩ := ih hZ h
        exact ⟨q, by rw [h3]; rfl, h4, h5⟩
      | _ => simp [packR] at h
    | stat y =>
      simp only [packR] at h
      obtain ⟨e, h⟩ := chk_ok h
      have e := sameR_ok e
      subst e
      obtain ⟨q, h3, h4, h5⟩ := ih hZ h
      exact ⟨q, by rw [h3]; rfl, h4, h5⟩
    | fix => simp [packR] at h
theorem packB_ok {rw : List Row} {R : Type} : ∀ {ps : List (List PX)} {xs : List (List X)} {rest : (R → Option β) → Option β} {kk : DB ps R → Option β} {r : β} {Z : R → Prop}, (∀ k r, rest k = some r → ∃ q, Z q ∧ k q = some r) → packB rw ps xs rest kk = some r → ∃ d, xs = (unB rw ps d).1 ∧ Z (unB rw ps d).2 ∧ kk d = some r := by
  intro ps
  induction ps with
  | nil =>
    intro xs rest kk r Z hZ h
    cases xs with
    | nil =>
      simp only [packB] at h
      obtain ⟨q, h1, h2⟩ := hZ _ _ h
      exact ⟨q, rfl, h1, h2⟩
    | cons x xs => simp [packB] at h
  | cons p ps ih =>
    intro xs rest kk r Z hZ h
    cases xs with
    | nil => simp [packB] at h
    | cons x xs =>
      simp only [packB] at h
      obtain ⟨d, h1, h2, h3⟩ := packX_ok (Z := fun q => xs = (unB rw ps q).1 ∧ Z (unB rw ps q).2) (fun k r hk => by
        obtain ⟨d, h4, h5, h6⟩ := ih hZ hk
        exact ⟨d, ⟨h4, h5⟩, h6⟩) h
      exact ⟨d, by rw [h1]; conv => lhs; rw [h2.1]
                   rfl, h2.2, h3⟩
theorem beqK_ok {a b : Kd} (h : beqK a b = true) : a = b := by
  unfold beqK at h
  split at h <;> simp_all
theorem packE_ok {rw : List Row} {R : Type} : ∀ {ps : List (Kd × List PX)} {xs : List T} {rest : (R → Option β) → Option β} {kk : DE ps R → Option β} {r : β} {Z : R → Prop}, (∀ k r, rest k = some r → ∃ q, Z q ∧ k q = some r) → packE rw ps xs rest kk = some r → ∃ d, xs = (unE rw ps d).1 ∧ Z (unE rw ps d).2 ∧ kk d = some r := by
  intro ps
  induction ps with
  | nil =>
    intro xs rest kk r Z hZ h
    cases xs with
    | nil =>
      simp only [packE] at h
      obtain ⟨q, h1, h2⟩ := hZ _ _ h
      exact ⟨q, rfl, h1, h2⟩
    | cons x xs => simp [packE] at h
  | cons p ps ih =>
    intro xs rest kk r Z hZ h
    cases xs with
    | nil => simp [packE] at h
    | cons x xs =>
      simp only [packE] at h
      split at h
      · rename_i e
        have e := beqK_ok e
        obtain ⟨d, h1, h2, h3⟩ := packX_ok (Z := fun q => xs = (unE rw ps q).1 ∧ Z (unE rw ps q).2) (fun k r hk => by
          obtain ⟨d, h4, h5, h6⟩ := ih hZ hk
          exact ⟨d, ⟨h4, h5⟩, h6⟩) h
        obtain ⟨k, ys⟩ := x
        simp only at h1 e
        refine ⟨d, ?_, h2.2, h3⟩
        rw [h1, ← e]
        conv => lhs; rw [h2.1]
        rfl
      · cases h
theorem packK_ok {t : Tpl} {s : S} {kk : DT t → Option β} {r : β} (h : packK t s kk = some r) : ∃ d, s = unpack t d ∧ kk d = some r := by
  unfold packK at h
  obtain ⟨d, h1, ⟨h2, h3⟩, h4⟩ := packR_ok (Z := fun q => s.h.bx = (unB s.h.rw t.bx q).1 ∧ s.env = (unE s.h.rw t.env (unB s.h.rw t.bx q).2).1) (fun k r hk => by
    obtain ⟨d, h5, h6, h7⟩ := packB_ok (Z := fun q => s.env = (unE s.h.rw t.env q).1) (fun k r hk => by
      obtain ⟨d, h8, _, h9⟩ := packE_ok (Z := fun _ => True) (fun k r hk => ⟨(), trivial, hk⟩) hk
      exact ⟨d, h8, h9⟩) hk
    exact ⟨d, ⟨h5, h6⟩, h7⟩) h
  refine ⟨d, ?_, h4⟩
  obtain ⟨e, b, rw⟩ := s
  simp only at h1 h2 h3
  unfold unpack
  simp only
  rw [← h1, ← h2, ← h3]

/-! Operations -/
variable {Q : Lift} {P : Program} {A : Ann} {s : S} {h : Hp} {r : β}
theorem otherK_ok {o : Oper} {kk : T → Option β} (hk : otherK P s o kk = some r) : ∃ t, opR P s o = some t ∧ kk t = some r := by
  unfold otherK at hk
  split at hk
  · exact ⟨_, by assumption, hk⟩
  · cases hk
theorem partK_ok {t : TypeId} {xs : List X} {off : Nat} {kk : T → Option β} (hk : partK P t xs off kk = some r) : ∃ x, partT P t xs off = some x ∧ kk x = some r := by
  unfold partK at hk
  split at hk
  · exact ⟨_, by assumption, hk⟩
  · cases hk
theorem caseK_ok {i : Int} : ∀ {n : Nat} {kk : Nat → Option β}, caseK i n kk = some r → ∃ j : Nat, i = (j : Int) ∧ j < n ∧ kk j = some r
  | 0, kk, hk => by cases hk
  | n + 1, kk, hk => by
    have := cnd_ok hk
    split at this
    · rename_i e
      exact ⟨n, by simpa [eqI] using e, by omega, this⟩
    · obtain ⟨j, h1, h2, h3⟩ := caseK_ok this
      exact ⟨j, h1, by omega, h3⟩
theorem viewK_ok {x : X} {kk : Option Nat → List (List C) → Option β} (hk : viewK h x kk = some r) : ∃ p, h.view x = some p ∧ kk p.1 p.2 = some r := by
  unfold viewK at hk
  split at hk
  · exact ⟨_, rfl, hk⟩
  · exact ⟨_, rfl, hk⟩
  · rename_i r0 off n
    split at hk
    · rename_i p hp
      obtain ⟨h1, h2⟩ := chk_ok hk
      have h1 := leN_ok.1 h1
      refine ⟨(some p.1, vcut p.2 off n), ?_, h2⟩
      simp only [Hp.view, hp, Option.bind_some]
      exact if_pos h1
    · cases hk
  · cases hk
theorem loadK_ok {t : TypeId} {x : X} {kk : T → Option β} (hk : loadK Q P h t x kk = some r) : ∃ y, loadX P h t x = some y ∧ kk y = some r := by
  unfold loadK at hk
  split at hk
  · rename_i rr i off
    split at hk
    · rename_i ty sz es hr
      split at hk
      · obtain ⟨d, h1, h2⟩ := getE_ok hk
        obtain ⟨y, h3, h4⟩ := partK_ok h2
        refine ⟨y, ?_, h4⟩
        simp only [loadX, Hp.row, hr, Option.bind_some, h1, h3]
      · cases hk
    · cases hk
  · split at hk
    · exact ⟨_, by assumption, hk⟩
    · cases hk
theorem indexAddrK_ok {t : TypeId} {x : X} {i : Int} {kk : X → Option β} (hk : indexAddrK Q P h t x i kk = some r) : ∃ y, indexAddrX P h t x i = some y ∧ kk y = some r := by
  unfold indexAddrK at hk
  unfold indexAddrX
  split at hk
  · rename_i e hu
    rw [hu]
    simp only
    split at hk
    · cases hk
    · rename_i sz hsz
      simp only [hsz, Option.bind_some]
      split at hk
      · rename_i sz' es
        split at hk
        · rename_i hs
          subst hs
          obtain ⟨h1, h2⟩ := chk_ok hk
          have h1 : 0 ≤ i := leI_ok.1 h1
          split at h2
          · obtain ⟨d, h3, h4⟩ := getE_ok h2
            refine ⟨_, ?_, h4⟩
            simp only [h1, and_self, if_true]
            rw [show i.toNat = natI i from rfl, h3]
            rfl
          · cases h2
        · cases hk
      · rename_i rr off n
        split at hk
        · rename_i p hp
          simp only [hp, Option.bind_some]
          split at hk
          · rename_i hs
            obtain ⟨h1, h2⟩ := chk_ok hk
            obtain ⟨h3, h4⟩ := chk_ok h2
            obtain ⟨h5, h6⟩ := chk_ok h4
            have h1 : 0 ≤ i := leI_ok.1 h1
            have h3 : i < n := ltI_ok.1 h3
            have h5 : off + n ≤ p.2.length := leN_ok.1 h5
            exact ⟨_, by rw [if_pos ⟨hs, h1, h3, h5⟩]; rfl, h6⟩
          · cases hk
        · cases hk
      · cases hk
  · rename_i len e hu
    rw [hu]
    simp only
    split at hk
    · cases hk
    · rename_i sz hsz
      obtain ⟨j, rfl, h1, h2⟩ := caseK_ok hk
      split at h2
      · rename_i y hy
        refine ⟨y, ?_, h2⟩
        simp only [hsz, Option.bind_some]
        rw [if_pos ⟨by omega, by omega⟩]
        simpa using hy
      · cases h2
  · cases hk
theorem sliceK_ok {t : TypeId} {x : X} {lo hi : Option Int} {kk : T → Option β} (hk : sliceK P h t x lo hi kk = some r) :
    ∃ e, elemT P t = some e ∧ ∃ p, h.view x = some p ∧ (szT P e).any (fun sz => szOk sz p.1) = true ∧ ∃ y, sliceX h x lo hi = some y ∧ kk ⟨.one, [y]⟩ = some r := by
  unfold sliceK at hk
  split at hk
  · cases hk
  · rename_i e he
    obtain ⟨p, h1, h2⟩ := viewK_ok hk
    refine ⟨e, he, p, h1, ?_⟩
    split at h2
    · rename_i hs
      refine ⟨hs, ?_⟩
      simp only at h2
      obtain ⟨h3, h4⟩ := chk_ok h2
      obtain ⟨h5, h6⟩ := chk_ok h4
      obtain ⟨h7, h8⟩ := chk_ok h6
      have h3 : 0 ≤ lo.getD 0 := leI_ok.1 h3
      have h5 : lo.getD 0 ≤ hi.getD (p.2.length : Int) := leI_ok.1 h5
      have h7 : hi.getD (p.2.length : Int) ≤ (p.2.length : Int) := leI_ok.1 h7
      unfold sliceX
      simp only [h1, Option.bind_some]
      rw [if_pos ⟨h3, h5, h7⟩]
      split at h8
      · rename_i sz es
        simp only [Hp.view, Option.some.injEq] at h1
        subst h1
        exact ⟨_, rfl, h8⟩
      · exact ⟨_, rfl, h8⟩
      · rename_i h9 h10
        refine ⟨x, ?_, h8⟩
        split
        · exact absurd rfl (h9 _ _)
        · exact absurd rfl (h10 _ _ _)
        · rfl
    · cases h2
theorem fast_int {o : Oper} {op : BinOp} {t : TypeId} {x y : Operand} {z : Nat} {k k' : IntKind} {a b : Int} {v : Value} (ho : o.op = .binOp op t x y z) (hx : s.rd x = ⟨.one, [.c (.v (.int k a))]⟩) (hy : s.rd y = ⟨.one, [.c (.v (.int k' b))]⟩)
    (hn : (if k = k' then intBin op k a b else none) = none) (hv : intOp op k a k' b = some v) : opR P s o = some ⟨.one, [.c (.v v)]⟩ := by
  unfold opR
  rw [ho]
  simp only [hx, hy, hn]
  unfold pureOp fastOp
  rw [ho]
  simp only [hx, hy, hv, Option.map_some]
theorem bin_int {o : Oper} {op : BinOp} {t : TypeId} {x y : Operand} {z : Nat} {k : IntKind} {a b : Int} {v : Value} (ho : o.op = .binOp op t x y z) (hx : s.rd x = ⟨.one, [.c (.v (.int k a))]⟩) (hy : s.rd y = ⟨.one, [.c (.v (.int k b))]⟩)
    (hv : intBin op k a b = some v) : opR P s o = some ⟨.one, [.c (.v v)]⟩ := by
  unfold opR
  rw [ho]
  simp only [hx, hy, if_true, hv]
theorem opK_ok {o : Oper} {kk : T → Option β} (hk : opK Q P s o kk = some r) : ∃ t, opR P s o = some t ∧ kk t = some r := by
  unfold opK at hk
  split at hk
  · -- pick
    rename_i c a b ho
    split at hk
    · rename_i t ht
      have := cnd_ok hk
      refine ⟨if t then s.rd a else s.rd b, by unfold opR; rw [ho]; simp only [ht, Option.map_some], ?_⟩
      split at this <;> simp_all
    · cases hk
  · -- load
    rename_i t a ho
    split at hk
    · rename_i x hx
      obtain ⟨y, h1, h2⟩ := loadK_ok hk
      exact ⟨y, by unfold opR; rw [ho]; simp only [hx, Option.bind_some, h1], h2⟩
    · cases hk
  · -- indexAddr
    rename_i t x i ho
    split at hk
    · rename_i p x1 hp hx
      obtain ⟨y, h1, h2⟩ := indexAddrK_ok hk
      exact ⟨_, by unfold opR; rw [ho]; simp only [hp, hx, Option.bind_some, h1, Option.map_some], h2⟩
    · cases hk
  · -- slice
    rename_i t x lo hi ho
    split at hk
    · rename_i e0 x1 l u he hx hl hu
      obtain ⟨e, h1, p, h2, h3, y, h4, h5⟩ := sliceK_ok hk
      exact ⟨_, by unfold opR; rw [ho]; simp only [h1, hx, hl, hu, h2, Option.bind_some, h3, if_true, h4, Option.map_some], h5⟩
    · cases hk
  · -- convert
    rename_i src dst x ho
    split at hk
    · rename_i e hs hd
      split at hk
      · rename_i x1 he hx
        obtain ⟨p, h1, h2⟩ := viewK_ok hk
        obtain ⟨bs, h3, h4⟩ := bnd_ok h2
        exact ⟨_, by unfold opR; rw [ho]; simp only [hs, hd, he, hx, Option.bind_some, h1, h3, Option.map_some], h4⟩
      · cases hk
    · rename_i sd k hs hd
      split at hk
      · rename_i k' a hx
        refine ⟨_, ?_, hk⟩
        unfold opR
        rw [ho]
        simp only [hs, hd]
        unfold pureOp fastOp
        rw [ho]
        simp only [hs, hd, hx]
        rfl
      · cases hk
    · exact otherK_ok hk
  · -- calls
    rename_i c ho
    split at hk
    · rename_i x t hc ha hat
      split at hk
      · rename_i e hu
        split at hk
        · rename_i x1 hx
          obtain ⟨p, h1, h2⟩ := viewK_ok hk
          exact ⟨_, by unfold opR; rw [ho]; simp only [hc, ha, hat, hu, hx, Option.bind_some, h1, Option.map_some]; rfl, h2⟩
        · cases hk
      · rename_i hu
        split at hk
        · rename_i b hx
          refine ⟨_, ?_, hk⟩
          unfold opR
          rw [ho]
          simp only [hc, ha, hat, hu]
          unfold pureOp fastOp
          rw [ho]
          simp only [hc, ha, hat, hu, hx]
          rfl
        · cases hk
      · cases hk
    · rename_i x y tys hc ha
      split at hk
      · rename_i k a k' b hx hy
        refine ⟨_, ?_, hk⟩
        unfold opR
        rw [ho]
        simp only [hc]
        unfold pureOp fastOp
        rw [ho]
        simp only [hc, ha, hx, hy]
        rfl
      · cases hk
    · rename_i x y tys hc ha
      split at hk
      · rename_i k a k' b hx hy
        refine ⟨_, ?_, hk⟩
        unfold opR
        rw [ho]
        simp only [hc]
        unfold pureOp fastOp
        rw [ho]
        simp only [hc, ha, hx, hy]
        rfl
      · cases hk
    · cases hk
  · -- index
    rename_i t x i ho
    split at hk
    · rename_i len e xs p hu hx hp
      split at hk
      · rename_i sz hsz
        obtain ⟨j, h1, h2, h3⟩ := caseK_ok hk
        obtain ⟨y, h4, h5⟩ := partK_ok h3
        refine ⟨y, ?_, h5⟩
        unfold opR
        rw [ho]
        simp only [hu, hx, hp, Option.bind_some, hsz, h1]
        rw [if_pos ⟨by omega, by omega⟩]
        simpa using h4
      · cases hk
    · rename_i b p hu hx hp
      obtain ⟨h1, h2⟩ := chk_ok hk
      obtain ⟨u, h3, h4⟩ := bnd_ok h2
      have h1 := leI_ok.1 h1
      refine ⟨_, ?_, h4⟩
      have hi : ∃ k, s.rd i = ⟨.one, [.c (.v (.int k p.2))]⟩ := by
        unfold S.int at hp
        split at hp
        · rename_i k n hn
          cases hp
          exact ⟨k, hn⟩
        · cases hp
      obtain ⟨k, hi⟩ := hi
      unfold opR
      rw [ho]
      simp only [hu, hx]
      unfold pureOp fastOp
      rw [ho]
      simp only [hu, hx, hi, if_pos h1]
      rw [show p.2.toNat = natI p.2 from rfl, h3]
      rfl
    · cases hk
  · -- binOp
    rename_i op t x y z ho
    split at hk
    · rename_i k a k' b hx hy
      have i64 : ∀ {v : Value} {q : T}, k = k' → intBin op k a b = some v → kk q = some r → q = ⟨.one, [.c (.v v)]⟩ → ∃ t, opR P s o = some t ∧ kk t = some r := fun e hv h1 h2 => by
        subst e
        subst h2
        exact ⟨_, bin_int ho hx hy hv, h1⟩
      have slow : ∀ {v : Value} {q : T}, (∀ k a b, intBin op k a b = none) → intOp op k a k' b = some v → kk q = some r → q = ⟨.one, [.c (.v v)]⟩ → ∃ t, opR P s o = some t ∧ kk t = some r := fun hn hv h1 h2 => by
        subst h2
        exact ⟨_, fast_int ho hx hy (by split <;> simp [hn]) hv, h1⟩
      unfold binK at hk
      split at hk
      · obtain ⟨h1, h2⟩ := chk_ok hk
        have h1 := leI_ok.1 h1
        exact slow (fun _ _ _ => rfl) (by simp only [intOp]; rw [if_neg (by omega)]; rfl) h2 rfl
      · obtain ⟨h1, h2⟩ := chk_ok hk
        have h1 := leI_ok.1 h1
        exact slow (fun _ _ _ => rfl) (by simp only [intOp]; rw [if_neg (by omega)]; rfl) h2 rfl
      · split at hk
        case isFalse => cases hk
        rename_i hkk
        split at hk
        · exact i64 hkk rfl hk rfl
        · exact i64 hkk rfl hk rfl
        · exact i64 hkk rfl hk rfl
        · exact i64 hkk rfl hk rfl
        · exact i64 hkk rfl hk rfl
        · exact i64 hkk rfl hk rfl
        · exact i64 hkk rfl hk rfl
        · exact i64 hkk rfl hk rfl
        · exact i64 hkk rfl hk rfl
        · obtain ⟨h1, h2⟩ := chk_ok hk
          have h1 : b ≠ 0 := fun e => by subst e; simp [notB, eqI] at h1
          exact slow (fun _ _ _ => rfl) (by simp only [intOp]; rw [if_neg (by simp [h1, hkk])]; rfl) h2 rfl
        · obtain ⟨h1, h2⟩ := chk_ok hk
          have h1 : b ≠ 0 := fun e => by subst e; simp [notB, eqI] at h1
          exact slow (fun _ _ _ => rfl) (by simp only [intOp]; rw [if_neg (by simp [h1, hkk])]; rfl) h2 rfl
        · exact slow (fun _ _ _ => rfl) (by unfold intOp; exact if_pos hkk) hk rfl
        · exact slow (fun _ _ _ => rfl) (by unfold intOp; exact if_pos hkk) hk rfl
        · exact slow (fun _ _ _ => rfl) (by unfold intOp; exact if_pos hkk) hk rfl
        · exact slow (fun _ _ _ => rfl) (by unfold intOp; exact if_pos hkk) hk rfl
        · cases hk
    · rename_i a b hx hy
      split at hk
      · rename_i hu
        refine ⟨_, ?_, hk⟩
        unfold opR
        rw [ho]
        simp only [hx, hy]
        unfold pureOp fastOp
        rw [ho]
        simp only [hx, hy, hu]
        rfl
      · rename_i hu
        refine ⟨_, ?_, hk⟩
        unfold opR
        rw [ho]
        simp only [hx, hy]
        unfold pureOp fastOp
        rw [ho]
        simp only [hx, hy, hu]
        rfl
      · cases hk
    · rename_i a b hx hy
      split at hk
      · exact ⟨_, by unfold opR; rw [ho]; simp only [hx, hy]; rfl, hk⟩
      · exact ⟨_, by unfold opR; rw [ho]; simp only [hx, hy]; rfl, hk⟩
      · obtain ⟨h1, h2⟩ := chk_ok hk
        have h0 : vnum (encS a) + vnum (encS b) ≤ 9223372036854775807 := leN_ok.1 h1
        have hs : ∀ x : ByteArray, vnum (encS x) = x.size := fun x => List.length_map _
        rw [hs, hs] at h0
        have h1 : (a.size : Int) + (b.size : Int) ≤ 9223372036854775807 := by omega
        have e : (⟨⟨lapp a.data.toList b.data.toList⟩⟩ : ByteArray) = a ++ b := by
          obtain ⟨⟨a⟩⟩ := a
          obtain ⟨⟨b⟩⟩ := b
          exact (ByteArray.mk_append_mk a b).symm
        rw [e] at h2
        exact ⟨_, by unfold opR; rw [ho]; simp only [hx, hy]; exact if_pos h1, h2⟩
      · cases hk
    · rename_i xs ys hx hy
      split at hk
      · rename_i k hf
        split at hk
        · rename_i l m hl hm
          split at hk
          case isFalse => cases hk
          rename_i hlen
          split at hk
          · refine ⟨_, ?_, hk⟩
            unfold opR
            rw [ho]
            simp only [hx, hy]
            unfold pureOp fastOp
            rw [ho]
            simp only [hx, hy, hf, hl, hm, Option.bind_some, if_pos hlen]
            rfl
          · refine ⟨_, ?_, hk⟩
            unfold opR
            rw [ho]
            simp only [hx, hy]
            unfold pureOp fastOp
            rw [ho]
            simp only [hx, hy, hf, hl, hm, Option.bind_some, if_pos hlen]
            rfl
          · cases hk
        · cases hk
      · cases hk
    · exact otherK_ok hk
  · -- unOp
    rename_i op t x ho
    split at hk
    · rename_i b hx
      exact ⟨_, by unfold opR; rw [ho]; simp only [hx]; rfl, hk⟩
    · rename_i k a hx
      refine ⟨_, ?_, hk⟩
      unfold opR
      rw [ho]
      simp only
      unfold pureOp fastOp
      rw [ho]
      simp only [hx]
      rfl
    · cases hk
  · exact otherK_ok hk
end
end Go.Proofs.YtkdnbnkbnegckaaGreatDoor
