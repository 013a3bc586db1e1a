/- What is handed on is what the second machine comes to: operations that turn the heap, calls, code. -/
import Derived.Test.YtkdnbnkbnegckaaGreatDoorEvU
namespace Go.Proofs.YtkdnbnkbnegckaaGreatDoor
open Go.RowKit

section
variable {β : Type} {Q : Lift} {P : Program} {A : Ann} {s : S} {h : Hp} {r : β}
theorem freezeK_ok {x : X} {kk : C → Hp → Option β} (hk : freezeK x h kk = some r) : ∃ p, h.freeze x = some p ∧ kk p.1 p.2 = some r := by
  unfold freezeK at hk
  split at hk
  · exact ⟨_, rfl, hk⟩
  · rename_i rr off n
    split at hk
    · rename_i p hp
      obtain ⟨h1, h2⟩ := chk_ok hk
      have h1 := leN_ok.1 h1
      refine ⟨(.fz p.1 (vcut p.2 off n), ⟨h.bx, h.rw.set rr (.fro p.1 p.2)⟩), ?_, h2⟩
      simp only [Hp.freeze, hp, Option.bind_some]
      exact if_pos h1
    · cases hk
  · cases hk
theorem freezeLK_ok : ∀ {xs : List X} {h : Hp} {kk : List C → Hp → Option β}, freezeLK xs h kk = some r → ∃ p, h.freezeL xs = some p ∧ kk p.1 p.2 = some r
  | [], h, kk, hk => ⟨([], h), rfl, hk⟩
  | x :: xs, h, kk, hk => by
    obtain ⟨p, h1, h2⟩ := freezeK_ok (x := x) hk
    obtain ⟨q, h3, h4⟩ := freezeLK_ok h2
    exact ⟨(p.1 :: q.1, q.2), by simp only [Hp.freezeL, h1, Option.bind_some, h3, Option.map_some], h4⟩
theorem storeK_ok {t : TypeId} {x : X} {v : T} {kk : Hp → Option β} (hk : storeK Q P h t x v kk = some r) : ∃ h', storeX P h t x v = some h' ∧ kk h' = some r := by
  unfold storeK at hk
  split at hk
  · rename_i rr i off
    split at hk
    case isFalse => cases hk
    rename_i hw
    split at hk
    · rename_i n hn
      split at hk
      case isFalse => cases hk
      rename_i hl
      obtain ⟨p, h1, h2⟩ := freezeLK_ok hk
      split at h2
      · rename_i ty sz es hr
        split at h2
        · rename_i τ hτ
          obtain ⟨d, h3, h4⟩ := getE_ok h2
          split at h4
          · rename_i hle
            refine ⟨_, ?_, h4⟩
            unfold storeX
            simp only [hw, if_true, hn, Option.bind_some, hl, h1, hr, h3]
            exact if_pos hle
          · cases h4
        · cases h2
      · cases h2
    · cases hk
  · split at hk
    · exact ⟨_, by assumption, hk⟩
    · cases hk
theorem fillK_ok {sz : Nat} : ∀ {ps : List (Nat × Operand)} {h : Hp} {es : List (List C)} {kk : List (List C) → Hp → Option β}, fillK s sz h es ps kk = some r → ∃ q, fillRows s sz h es ps = some q ∧ kk q.1 q.2 = some r
  | [], h, es, kk, hk => ⟨_, rfl, hk⟩
  | (i, o) :: ps, h, es, kk, hk => by
    simp only [fillK] at hk
    split at hk
    · rename_i hc
      obtain ⟨p, h1, h2⟩ := freezeLK_ok hk
      obtain ⟨q, h3, h4⟩ := fillK_ok h2
      exact ⟨q, by simp only [fillRows]; rw [if_pos hc, h1]; exact h3, h4⟩
    · cases hk
theorem buildSliceK_ok {t : TypeId} {len : Nat} {parts : List (Nat × Operand)} {kk : T × Hp → Option β} (hk : buildSliceK P s t len parts kk = some r) : ∃ q, buildSliceX P s t len parts = some q ∧ kk q = some r := by
  unfold buildSliceK at hk
  split at hk
  · cases hk
  · rename_i e he
    split at hk
    · rename_i sz zc hs hz
      split at hk
      · rename_i hc
        obtain ⟨q, h1, h2⟩ := fillK_ok hk
        refine ⟨_, ?_, h2⟩
        unfold buildSliceX
        cases hz0 : zeroX P e with
        | none => simp [hz0] at hz
        | some z =>
          simp only [hz0, Option.bind_some] at hz
          simp only [he, hs, hz0, hz, Option.bind_some]
          rw [if_pos hc, h1]
          rfl
      · cases hk
    · cases hk
theorem srcK_ok {t : TypeId} {y : Operand} {sz : Nat} {kk : List (List C) → Option β} (hk : srcK P s t y sz kk = some r) : ∃ q, srcX P s t y sz = some q ∧ kk q = some r := by
  unfold srcK at hk
  unfold srcX
  split at hk
  · rename_i hu
    split at hk
    · rename_i x hx
      obtain ⟨p, h1, h2⟩ := viewK_ok hk
      split at h2
      · rename_i hs
        exact ⟨_, by simp only [hu, hx, h1, Option.bind_some]; exact if_pos hs, h2⟩
      · cases h2
    · cases hk
  · rename_i hu
    split at hk
    · rename_i b hx
      split at hk
      · rename_i hs
        exact ⟨_, by simp only [hu, hx]; exact if_pos hs, hk⟩
      · cases hk
    · cases hk
  · cases hk
theorem dstK_ok {e sz : Nat} {x : X} {kk : Option Nat → List (List C) → Option β} (hk : dstK h e sz x kk = some r) : ∃ p, dstX h e sz x = some p ∧ kk p.1 p.2 = some r := by
  unfold dstK at hk
  split at hk
  · exact ⟨_, rfl, hk⟩
  · rename_i rr n
    split at hk
    · rename_i ty sz' es hr
      split at hk
      · rename_i hc
        obtain ⟨h1, h2⟩ := chk_ok hk
        have h1 : n = es.length := eqN_ok.1 h1
        exact ⟨(some rr, es), by simp only [dstX, hr]; exact if_pos ⟨hc.1, hc.2, h1⟩, h2⟩
      · cases hk
    · cases hk
  · cases hk
theorem appendK_ok {t t' : TypeId} {x y : Operand} {kk : T × Hp → Option β} (hk : appendK P s t t' x y kk = some r) : ∃ q, appendX P s t t' x y = some q ∧ kk q = some r := by
  unfold appendK at hk
  split at hk
  · cases hk
  · rename_i e he
    split at hk
    · rename_i i x1 hi hx
      obtain ⟨news, h1, h2⟩ := srcK_ok hk
      obtain ⟨p, h3, h4⟩ := dstK_ok h2
      split at h4
      · rename_i ht
        obtain ⟨h5, h6⟩ := chk_ok h4
        have h5 : p.2.length + news.length ≤ maxLen ∧ (p.2.length + news.length) * i.2 ≤ 140737488355328 := of_decide_eq_true h5
        refine ⟨_, ?_, h6⟩
        unfold appendX
        simp only [he, hi, hx, h1, h3, Option.bind_some]
        exact if_pos ⟨ht, h5⟩
      · cases h4
    · cases hk
theorem argK_ok {ks rs : List Nat} : ∀ {xs : List X} {kk : List X → Option β}, argK h ks rs xs kk = some r → ∃ ys, xs.mapM (argX h ks rs) = some ys ∧ kk ys = some r
  | [], kk, hk => ⟨[], rfl, hk⟩
  | x :: xs, kk, hk => by
    have key : ∀ {y : X} {kk' : List X → Option β}, argX h ks rs x = some y → argK h ks rs xs kk' = some r → (∀ ys, kk' ys = kk (y :: ys)) → ∃ ys, (x :: xs).mapM (argX h ks rs) = some ys ∧ kk ys = some r := fun h1 h2 h3 => by
      obtain ⟨ys, h4, h5⟩ := argK_ok h2
      refine ⟨_ :: ys, ?_, (h3 ys).symm.trans h5⟩
      rw [List.mapM_cons, h1, h4]
      rfl
    unfold argK at hk
    split at hk
    · rename_i e
      cases e
    · rename_i rr off n xs' e
      cases e
      split at hk
      · rename_i hc
        exact key (by simp only [argX]; exact if_pos hc) hk fun _ => rfl
      · rename_i hc
        obtain ⟨p, h1, h2⟩ := viewK_ok hk
        simp only [Hp.view] at h1
        cases hr : h.row rr with
        | none => simp [hr] at h1
        | some q =>
          simp only [hr, Option.bind_some] at h1
          split at h1
          · rename_i hle
            cases h1
            exact key (y := .c (.fz q.1 ((q.2.drop off).take n))) (by simp only [argX]; rw [if_neg hc, hr]; exact if_pos hle) h2 fun _ => rfl
          · cases h1
    · rename_i x' xs' hne e
      cases e
      split at hk
      · rename_i y hy
        exact key hy hk fun _ => rfl
      · cases hk
theorem argsK_ok {ks rs : List Nat} : ∀ {ts : List T} {kk : List T → Option β}, argsK h ks rs ts kk = some r → ∃ ys, ts.mapM (argT h ks rs) = some ys ∧ kk ys = some r
  | [], kk, hk => ⟨[], rfl, hk⟩
  | t :: ts, kk, hk => by
    simp only [argsK] at hk
    obtain ⟨xs, h1, h2⟩ := argK_ok hk
    obtain ⟨ys, h3, h4⟩ := argsK_ok h2
    refine ⟨⟨t.k, xs⟩ :: ys, ?_, h4⟩
    rw [List.mapM_cons, h3]
    simp only [argT, h1, Option.map_some]
    rfl

/-- What a call hands on is what a plain one comes to. -/
def KOf (K : CallK β) (K' : CallFn) : Prop := ∀ f a h kk r, K f a h kk = some r → ∃ q, K' f a h = some q ∧ kk q = some r
variable {K : CallK β} {K' : CallFn}
theorem callXK_ok (hK : KOf K K') {f : FuncId} {tys : List TypeId} {vs : List T} {kk : T × Hp → Option β} (hk : callXK K P A f tys vs h kk = some r) : ∃ q, callX K' P A f tys vs h = some q ∧ kk q = some r := by
  unfold callXK at hk
  unfold callX
  split at hk
  · cases hk
  · rename_i p hp
    simp only [hp, Option.bind_some]
    simp only at hk
    split at hk
    · rename_i bx rw hbx hrw
      obtain ⟨args, h1, h2⟩ := argsK_ok hk
      obtain ⟨q, h3, h4⟩ := hK _ _ _ _ _ h2
      simp only [h1, hbx, hrw, Option.bind_some, h3, Option.map_some]
      refine ⟨_, rfl, ?_⟩
      split at h4
      · rename_i hc
        rw [if_pos hc]
        exact h4
      · rename_i hc
        rw [if_neg (by rw [hc]; decide)]
        exact h4
    · cases hk
theorem evOpK_ok (hK : KOf K K') {o : Oper} {kk : T × Hp → Option β} (hk : evOpK Q K P A s o kk = some r) : ∃ q, evOp K' P A s o = some q ∧ kk q = some r := by
  have plain : ∀ {kk' : T → Option β}, opK Q P s o kk' = some r → ∃ t, opR P s o = some t ∧ kk' t = some r := fun h => opK_ok h
  unfold evOpK at hk
  unfold evOp
  split at hk
  · rename_i t a x ho
    rw [ho]
    simp only
    split at hk
    · rename_i y hy
      obtain ⟨h', h1, h2⟩ := storeK_ok hk
      exact ⟨_, by simp only [hy, Option.bind_some, h1, Option.map_some], h2⟩
    · cases hk
  · rename_i t len parts ho
    rw [ho]
    exact buildSliceK_ok hk
  · rename_i t ho
    rw [ho]
    simp only
    split at hk
    · rename_i p hp
      unfold evOp at hp
      rw [ho] at hp
      exact ⟨p, hp, hk⟩
    · cases hk
  · rename_i t x ho
    rw [ho]
    simp only
    split at hk
    · rename_i p hp
      unfold evOp at hp
      rw [ho] at hp
      exact ⟨p, hp, hk⟩
    · cases hk
  · rename_i src dst x ho
    rw [ho]
    simp only
    split at hk
    · rename_i e hs hd
      rw [hs, hd]
      simp only
      split at hk
      · rename_i b he hx
        rw [ho] at hx
        simp only at hx
        exact ⟨_, by simp only [he, hx]; rfl, hk⟩
      · cases hk
    · rename_i hne
      obtain ⟨t, h1, h2⟩ := plain hk
      refine ⟨_, ?_, h2⟩
      split
      · rename_i e hs hd
        exact absurd hd (hne _ hs)
      · rw [h1]; rfl
  · rename_i c ho
    rw [ho]
    simp only
    split at hk
    · rename_i hc
      rw [hc]
      simp only
      split at hk
      · rename_i x y t t' ha hat
        rw [ha, hat]
        exact appendK_ok hk
      · cases hk
    · rename_i f hc
      rw [hc]
      simp only
      split at hk
      · rename_i b g hf
        rw [hf]
        exact callXK_ok hK hk
      · rename_i g ks hne hf
        rw [hf]
        cases ks with
        | nil => exact (hne rfl).elim
        | cons k ks => exact callXK_ok hK hk
      · rename_i g ks hne hf
        rw [hf]
        cases ks with
        | nil => exact (hne rfl).elim
        | cons k ks => exact callXK_ok hK hk
      · cases hk
    · rename_i h1 h2
      obtain ⟨t, h3, h4⟩ := plain hk
      refine ⟨_, ?_, h4⟩
      split
      · exact absurd (by assumption) h1
      · exact absurd (by assumption) (h2 _)
      · rw [h3]; rfl
  · rename_i h1 h2 h3 h4 h5 h6
    obtain ⟨t, h7, h8⟩ := plain hk
    refine ⟨_, ?_, h8⟩
    split
    all_goals first
      | (rw [h7]; rfl)
      | (exfalso; first | exact h1 _ _ _ (by assumption) | exact h2 _ _ _ (by assumption) | exact h3 _ (by assumption) | exact h4 _ _ (by assumption) | exact h5 _ _ _ (by assumption) | exact h6 _ (by assumption))

theorem set_same {e : List T} {d : Nat} {x : T} (h : e[d]? = some x) : e.set d x = e := by
  obtain ⟨hl, rfl⟩ := List.getElem?_eq_some_iff.1 h
  simp
theorem guardK_ok {ops : Array Oper} {o : Oper} {yes no : S → Option β} (hk : guardK ops s o yes no = some r) : ∃ g, guardX ops s o = some g ∧ (if g then yes s else no s) = some r := by
  unfold guardK at hk
  unfold guardX
  split at hk
  · rename_i hg
    exact ⟨true, by rw [hg], hk⟩
  · rename_i j want hg
    rw [hg]
    simp only
    split at hk
    · rename_i hd
      exact ⟨false, by rw [hd], hk⟩
    · rename_i d hd
      rw [hd]
      simp only
      split at hk
      · rename_i b hb
        rw [hb]
        refine ⟨b == want, rfl, ?_⟩
        obtain ⟨e, hp⟩ := s
        simp only at hb hk
        have hs : ∀ t, b = t → e.set d (boolV t) = e := fun t ht => set_same (by rw [hb, ht]; rfl)
        cases want with
        | true =>
          have := cnd_ok hk
          cases b with
          | true => simp only [if_true, hs true rfl] at this; exact this
          | false => simp only [Bool.false_eq_true, if_false, hs false rfl] at this; exact this
        | false =>
          have := cnd_ok hk
          cases b with
          | true => simp only [if_true, hs true rfl] at this; exact this
          | false => simp only [Bool.false_eq_true, if_false, hs false rfl] at this; exact this
      · rename_i hb
        rw [hb]
        exact ⟨false, rfl, hk⟩
      · cases hk
theorem evOpsK_ok (hK : KOf K K') {ops : Array Oper} : ∀ {os : List Oper} {s : S} {kk : S → Option β}, evOpsK Q K P A ops os s kk = some r → ∃ s', evOps K' P A ops os s = some s' ∧ kk s' = some r
  | [], s, kk, hk => ⟨s, rfl, hk⟩
  | o :: os, s, kk, hk => by
    simp only [evOpsK, fP_eq] at hk
    obtain ⟨g, h1, h2⟩ := guardK_ok hk
    simp only [evOps, h1]
    cases g with
    | true =>
      simp only [if_true] at h2
      obtain ⟨q, h3, h4⟩ := evOpK_ok hK h2
      obtain ⟨s', h5, h6⟩ := evOpsK_ok hK h4
      exact ⟨s', by simp only [h3, Option.bind_some, h5], h6⟩
    | false =>
      simp only [Bool.false_eq_true, if_false] at h2
      exact evOpsK_ok hK h2
theorem evPlanK_ok (hK : KOf K K') {ops : Array Oper} : ∀ {pl : List (Nat × Bool)} {pend : List (Nat × (List Nat × List Nat))} {s : S} {kk : S → Option β}, evPlanK Q K P A ops pl pend s kk = some r → ∃ s', evPlan K' P A ops pl pend s = some s' ∧ kk s' = some r
  | [], pend, s, kk, hk => ⟨s, rfl, hk⟩
  | (i, tk) :: pl, pend, s, kk, hk => by
    simp only [evPlanK, fP_eq] at hk
    split at hk
    · cases hk
    · rename_i o ho
      obtain ⟨g, h1, h2⟩ := guardK_ok hk
      simp only [evPlan, ho, Option.bind_some, h1]
      cases g with
      | true =>
        simp only [if_true] at h2
        simp only
        cases tk with
        | true =>
          simp only at h2
          obtain ⟨v, h3, h4⟩ := opK_ok h2
          obtain ⟨s', h5, h6⟩ := evPlanK_ok hK h4
          exact ⟨s', by rw [if_pos rfl, h3]; exact h5, h6⟩
        | false =>
          simp only at h2
          split at h2
          · rename_i ha
            obtain ⟨q, h3, h4⟩ := evOpK_ok hK h2
            obtain ⟨s', h5, h6⟩ := evPlanK_ok hK h4
            exact ⟨s', by rw [if_neg (by simp), if_pos ha, h3]; exact h5, h6⟩
          · cases h2
      | false =>
        simp only [Bool.false_eq_true, if_false] at h2
        exact evPlanK_ok hK h2

/-! Code -/
theorem iter_ok {α : Type} {f : α → (α → Option β) → Option β} {C : α → β → Prop} (hf : ∀ a again x, (∀ a' x', again a' = some x' → C a' x') → f a again = some x → C a x) : ∀ {n : Nat} {a : α} {x : β}, iter f n a = some x → C a x
  | 0, a, x, h => by cases h
  | n + 1, a, x, h => hf a _ x (fun a' x' h' => iter_ok hf h') h
theorem rounds_ok {f : S → (S → Option β) → Option β} {C : S → β → Prop} (hf : ∀ a again x, (∀ a' x', again a' = some x' → C a' x') → f a again = some x → C a x) : ∀ {n : Nat} {a : S} {x : β}, roundsK f n a = some x → C a x
  | 0, a, x, h => by cases h
  | n + 1, a, x, h => hf a _ x (fun a' x' h' => rounds_ok hf h') h
theorem runK_ok {K : ∀ β : Type, CallK β} (hK : ∀ β : Type, KOf (K β) K') {cx : Cx} (hP : cx.P = P) (hA : cx.A = A) {plan : Nat → List (Nat × Bool)} {N : Nat} : ∀ {c : Code} {β : Type} {s : S} {kk : Out → S → Option β} {r : β}, runK Q K cx plan N c β s kk = some r → ∃ n o s', run K' cx plan n (.code c) s = some (o, s') ∧ kk o s' = some r := by
  subst hP
  subst hA
  have mono : ∀ {n n' t s q}, n ≤ n' → run K' cx plan n t s = some q → run K' cx plan n' t s = some q := fun hn h => run_mono (fun _ _ _ _ h => h) _ _ _ hn h
  intro c
  induction c with
  | skip => intro β s kk r hk; exact ⟨1, _, _, rfl, hk⟩
  | label l => intro β s kk r hk; exact ⟨1, _, _, rfl, hk⟩
  | region id ops draw =>
    intro β s kk r hk
    simp only [runK, fS_eq] at hk
    cases draw with
    | true =>
      simp only at hk
      split at hk
      · cases hk
      · rename_i hne
        obtain ⟨s', h1, h2⟩ := evPlanK_ok (hK β) hk
        refine ⟨1, .normal, s', ?_, h2⟩
        simp only [run, if_true]
        rw [h1]
        rfl
    | false =>
      simp only at hk
      obtain ⟨s', h1, h2⟩ := evOpsK_ok (hK β) hk
      exact ⟨1, .normal, s', by simp only [run, Bool.false_eq_true, if_false, h1, Option.map_some], h2⟩
  | seq a b iha ihb =>
    intro β s kk r hk
    have one : ∀ {n s' s2 x}, run K' cx plan n (.code a) s = some (.normal, s') → joinS cx s.h.bx.length (jk a b) s' = some s2 → (∃ m o s3, run K' cx plan m (.code b) s2 = some (o, s3) ∧ kk o s3 = some x) →
        ∃ n o s', run K' cx plan n (.code (.seq a b)) s = some (o, s') ∧ kk o s' = some x := fun {n s' s2 x} h1 hj ⟨m, o, s3, h3, h4⟩ => by
      refine ⟨max n m + 1, o, s3, ?_, h4⟩
      simp only [run]
      rw [mono (Nat.le_max_left n m) h1]
      simp only [hj, Option.bind_some]
      exact mono (Nat.le_max_right n m) h3
    have two : ∀ {n o s' x}, run K' cx plan n (.code a) s = some (o, s') → o ≠ .normal → kk o s' = some x → ∃ n o s', run K' cx plan n (.code (.seq a b)) s = some (o, s') ∧ kk o s' = some x := fun {n o s' x} h1 ho h2 => by
      cases o with
      | normal => exact absurd rfl ho
      | exit i => exact ⟨n + 1, _, _, by simp only [run, h1], h2⟩
      | ret => exact ⟨n + 1, _, _, by simp only [run, h1], h2⟩
    simp only [runK, fS_eq] at hk
    split at hk
    · rename_i hj
      obtain ⟨n, o, s', h1, h2⟩ := iha hk
      cases o with
      | normal => exact one h1 (by unfold joinS; rw [hj]; rfl) (ihb h2)
      | exit i => exact two h1 (by simp) h2
      | ret => exact two h1 (by simp) h2
    · rename_i hj
      have hjn : ∀ {s' s2}, norm cx s.h.bx.length (jk a b) s' = some s2 → joinS cx s.h.bx.length (jk a b) s' = some s2 := fun h => by unfold joinS; rw [hj]; exact h
      split at hk
      · split at hk
        · cases hk
        · rename_i s0 hs0
          rcases joinK_ok hk with ⟨d, h1, h2⟩ | h1
          · obtain ⟨n, o, s', h3, h4⟩ := iha h1
            cases o with
            | normal =>
              simp only at h4
              split at h4
              · cases h4
              · rename_i s2 hs2
                obtain ⟨d', h5, h6⟩ := packK_ok h4
                cases h6
                exact one h3 (hjn hs2) (by rw [h5]; exact ihb h2)
            | exit i => obtain ⟨x, h5, _⟩ := rightK_ok h4; cases h5
            | ret => obtain ⟨x, h5, _⟩ := rightK_ok h4; cases h5
          · obtain ⟨n, o, s', h3, h4⟩ := iha h1
            cases o with
            | normal =>
              simp only at h4
              split at h4
              · cases h4
              · rename_i s2 hs2
                obtain ⟨d', h5, h6⟩ := packK_ok h4
                cases h6
            | exit i => obtain ⟨x, h5, h6⟩ := rightK_ok h4; cases h5; exact two h3 (by simp) h6
            | ret => obtain ⟨x, h5, h6⟩ := rightK_ok h4; cases h5; exact two h3 (by simp) h6
      · obtain ⟨n, o, s', h1, h2⟩ := iha hk
        cases o with
        | normal =>
          simp only at h2
          split at h2
          · cases h2
          · cases h2
        | exit i => exact two h1 (by simp) h2
        | ret => exact two h1 (by simp) h2
      · obtain ⟨n, o, s', h1, h2⟩ := iha hk
        cases o with
        | normal =>
          simp only at h2
          split at h2
          · cases h2
          · rename_i s2 hs2
            exact one h1 (hjn hs2) (ihb h2)
        | exit i => exact two h1 (by simp) h2
        | ret => exact two h1 (by simp) h2
  | cond o a b iha ihb =>
    intro β s kk r hk
    simp only [runK, fS_eq] at hk
    split at hk
    · rename_i t ht
      have := cnd_ok hk
      cases t with
      | true =>
        obtain ⟨n, o2, s', h1, h2⟩ := iha this
        exact ⟨n + 1, o2, s', by simp only [run, ht, Option.bind_some, if_true]; exact h1, h2⟩
      | false =>
        obtain ⟨n, o2, s', h1, h2⟩ := ihb this
        exact ⟨n + 1, o2, s', by simp only [run, ht, Option.bind_some, Bool.false_eq_true, if_false]; exact h1, h2⟩
    · cases hk
  | block id b ih =>
    intro β s kk r hk
    simp only [runK, fS_eq] at hk
    obtain ⟨n, o, s', h1, h2⟩ := ih hk
    cases o with
    | normal => exact ⟨n + 1, _, _, by simp only [run, h1], h2⟩
    | ret => exact ⟨n + 1, _, _, by simp only [run, h1], h2⟩
    | exit i =>
      simp only at h2
      split at h2
      · rename_i e
        exact ⟨n + 1, .normal, s', by simp only [run, h1]; rw [if_pos e], h2⟩
      · rename_i e
        exact ⟨n + 1, .exit i, s', by simp only [run, h1]; rw [if_neg e], h2⟩
  | loop b ih =>
    intro β s kk r hk
    simp only [runK, fS_eq] at hk
    -- what the rounds come to
    let R : S → β → Prop := fun s1 x => ∀ s0, norm cx s.h.bx.length (Code.key b) s0 = some s1 → ∃ n o s', run K' cx plan n (.round s.h.bx.length b) s0 = some (o, s') ∧
      kk o ⟨(compact s.h.bx.length cx.nr (maskE (cx.A.post cx.f (Code.key b)) 0 s'.env) s'.h).1, (compact s.h.bx.length cx.nr (maskE (cx.A.post cx.f (Code.key b)) 0 s'.env) s'.h).2⟩ = some x
    have fin : ∀ {x}, (∃ n o s', run K' cx plan n (.round s.h.bx.length b) s = some (o, s') ∧
      kk o ⟨(compact s.h.bx.length cx.nr (maskE (cx.A.post cx.f (Code.key b)) 0 s'.env) s'.h).1, (compact s.h.bx.length cx.nr (maskE (cx.A.post cx.f (Code.key b)) 0 s'.env) s'.h).2⟩ = some x) → ∃ n o s', run K' cx plan n (.code (.loop b)) s = some (o, s') ∧ kk o s' = some x := fun ⟨n, o, s', h1, h2⟩ => by
      refine ⟨n + 1, o, _, ?_, h2⟩
      simp only [run, h1, Option.map_some]
    have step : ∀ {s1 : S} {x : β} {g : Out → S → Option β}, runK Q K cx plan N b β s1 g = some x → (∀ s' x, g .normal s' = some x → ∃ s2, norm cx s.h.bx.length (Code.key b) s' = some s2 ∧ R s2 x) →
        (∀ o s', o ≠ .normal → g o s' = kk o ⟨(compact s.h.bx.length cx.nr (maskE (cx.A.post cx.f (Code.key b)) 0 s'.env) s'.h).1, (compact s.h.bx.length cx.nr (maskE (cx.A.post cx.f (Code.key b)) 0 s'.env) s'.h).2⟩) → R s1 x := fun hr hn ho s0 h0 => by
      obtain ⟨n, o, s', h1, h2⟩ := ih hr
      cases o with
      | normal =>
        obtain ⟨s2, h3, h4⟩ := hn _ _ h2
        obtain ⟨m, o2, s3, h5, h6⟩ := h4 _ h3
        refine ⟨max n m + 1, o2, s3, ?_, h6⟩
        simp only [run, h0, Option.bind_some]
        rw [mono (Nat.le_max_left n m) h1]
        exact mono (Nat.le_max_right n m) h5
      | exit i => exact ⟨n + 1, .exit i, s', by simp only [run, h0, Option.bind_some, h1], by rw [← ho _ _ (by simp)]; exact h2⟩
      | ret => exact ⟨n + 1, .ret, s', by simp only [run, h0, Option.bind_some, h1], by rw [← ho _ _ (by simp)]; exact h2⟩
    split at hk
    · rename_i t ht
      split at hk
      · cases hk
      · rename_i s1 hs1
        obtain ⟨d, h1, h2⟩ := packK_ok hk
        have := iter_ok (C := fun d x => R (unpack (fixT t s1) d) x) (fun d again x hag hf => step hf (fun s' x hg => by
          simp only at hg
          split at hg
          · cases hg
          · rename_i s2 hs2
            obtain ⟨d2, h3, h4⟩ := packK_ok hg
            exact ⟨s2, hs2, by rw [h3]; exact hag _ _ h4⟩) (fun o s' hne => by cases o <;> first | rfl | exact absurd rfl hne)) h2
        exact fin (this s (hs1.trans (congrArg some h1)))
    · split at hk
      · cases hk
      · cases hk
    · rename_i m hm
      have := rounds_ok (C := fun s0 x => ∃ n o s', run K' cx plan n (.round s.h.bx.length b) s0 = some (o, s') ∧
          kk o ⟨(compact s.h.bx.length cx.nr (maskE (cx.A.post cx.f (Code.key b)) 0 s'.env) s'.h).1, (compact s.h.bx.length cx.nr (maskE (cx.A.post cx.f (Code.key b)) 0 s'.env) s'.h).2⟩ = some x) (fun s0 again x hag hf => by
        split at hf
        · cases hf
        · rename_i s1 hs1
          obtain ⟨n, o, s', h1, h2⟩ := ih hf
          cases o with
          | normal =>
            obtain ⟨m2, o2, s3, h5, h6⟩ := hag _ _ h2
            refine ⟨max n m2 + 1, o2, s3, ?_, h6⟩
            simp only [run, hs1, Option.bind_some]
            rw [mono (Nat.le_max_left n m2) h1]
            exact mono (Nat.le_max_right n m2) h5
          | exit i => exact ⟨n + 1, .exit i, s', by simp only [run, hs1, Option.bind_some, h1], h2⟩
          | ret => exact ⟨n + 1, .ret, s', by simp only [run, hs1, Option.bind_some, h1], h2⟩) hk
      exact fin this
  | scope b ih =>
    intro β s kk r hk
    simp only [runK, fS_eq] at hk
    obtain ⟨n, o, s', h1, h2⟩ := ih hk
    exact ⟨n + 1, o, s', by simp only [run]; exact h1, h2⟩
  | exit id => intro β s kk r hk; exact ⟨1, _, _, rfl, hk⟩
  | ret => intro β s kk r hk; exact ⟨1, _, _, rfl, hk⟩
  | _ => intro β s kk r hk; simp [runK] at hk

theorem coerXK_ok {sz : Nat} {x : X} {kk : X → Hp → Option β} (hk : coerXK sz x h kk = some r) : ∃ p, coerX sz x h = some p ∧ kk p.1 p.2 = some r := by
  unfold coerXK at hk
  unfold coerX
  split at hk
  · exact ⟨_, rfl, hk⟩
  · obtain ⟨p, h1, h2⟩ := freezeK_ok hk
    exact ⟨(.c p.1, p.2), by simp only [h1, Option.map_some], h2⟩
  · rename_i h1 h2
    refine ⟨(x, h), ?_, hk⟩
    split
    · exact (h1 rfl).elim
    · exact (h2 _ _ _ rfl).elim
    · rfl
theorem coerXsK_ok {cs : List (Nat × Nat × Nat)} {j : Nat} : ∀ {xs : List X} {i : Nat} {h : Hp} {kk : List X → Hp → Option β}, coerXsK cs j i xs h kk = some r → ∃ p, coerXs cs j i xs h = some p ∧ kk p.1 p.2 = some r
  | [], i, h, kk, hk => ⟨_, rfl, hk⟩
  | x :: xs, i, h, kk, hk => by
    simp only [coerXsK] at hk
    simp only [coerXs]
    split at hk
    · rename_i hl
      obtain ⟨p, h1, h2⟩ := coerXsK_ok hk
      exact ⟨(x :: p.1, p.2), by rw [hl]; simp only [h1, Option.map_some], h2⟩
    · rename_i sz hl
      obtain ⟨p, h1, h2⟩ := coerXK_ok hk
      obtain ⟨q, h3, h4⟩ := coerXsK_ok h2
      exact ⟨(p.1 :: q.1, q.2), by rw [hl]; simp only [h1, Option.bind_some, h3, Option.map_some], h4⟩
theorem coerTsK_ok {cs : List (Nat × Nat × Nat)} : ∀ {ts : List T} {j : Nat} {h : Hp} {kk : List T → Hp → Option β}, coerTsK cs j ts h kk = some r → ∃ p, coerTs cs j ts h = some p ∧ kk p.1 p.2 = some r
  | [], j, h, kk, hk => ⟨_, rfl, hk⟩
  | ⟨k, xs⟩ :: ts, j, h, kk, hk => by
    cases k with
    | tup sh => simp [coerTsK] at hk
    | one =>
      simp only [coerTsK] at hk
      simp only [coerTs]
      obtain ⟨p, h1, h2⟩ := coerXsK_ok hk
      obtain ⟨q, h3, h4⟩ := coerTsK_ok h2
      exact ⟨(⟨.one, p.1⟩ :: q.1, q.2), by simp only [h1, Option.bind_some, h3, Option.map_some], h4⟩
    | agg =>
      simp only [coerTsK] at hk
      simp only [coerTs]
      obtain ⟨p, h1, h2⟩ := coerXsK_ok hk
      obtain ⟨q, h3, h4⟩ := coerTsK_ok h2
      exact ⟨(⟨.agg, p.1⟩ :: q.1, q.2), by simp only [h1, Option.bind_some, h3, Option.map_some], h4⟩
theorem leaveK_ok {cs : List (Nat × Nat × Nat)} {fn : Func} {nb nr : Nat} {kk : T × Hp → Option β} (hk : leaveK P cs fn nb nr s kk = some r) : ∃ q, leave P cs fn nb nr s = some q ∧ kk q = some r := by
  unfold leaveK at hk
  unfold leave
  split at hk
  · cases hk
  · rename_i vs hvs
    obtain ⟨p, h1, h2⟩ := coerTsK_ok hk
    simp only [hvs, Option.bind_some, h1]
    split at h2
    · cases h2
    · rename_i v hv
      simp only [hv, Option.bind_some]
      split at h2
      · rename_i v' h' hc
        exact ⟨_, by rw [hc], h2⟩
      · cases h2

/-! Functions -/
variable {plans : FuncId → Nat → List (Nat × Bool)} {N : Nat}
theorem bodyK_ok {K : ∀ β : Type, CallK β} (hK : ∀ β : Type, KOf (K β) (callW P A plans)) {f : FuncId} {args0 args : List T} {kk : T × Hp → Option β} (hw : wkL (A.wk f) args0 = args) (hb : A.base f args h = none) (hk : bodyK Q K P A plans N f args h kk = some r) : ∃ q, callW P A plans f args0 h = some q ∧ kk q = some r := by
  unfold bodyK at hk
  split at hk
  · cases hk
  · rename_i fn hf
    split at hk
    · cases hk
    · rename_i c hc
      split at hk
      case isFalse => cases hk
      rename_i hl
      rw [fS_eq] at hk
      obtain ⟨n, o, s', h1, h2⟩ := runK_ok hK rfl rfl hk
      have hr : Runs P A plans f h.rw.length (.code c) ⟨args ++ List.replicate (fn.ntmps - args.length) undefT, h⟩ (o, s') := ⟨n, h1⟩
      cases o with
      | normal =>
        obtain ⟨q, h3, h4⟩ := leaveK_ok h2
        rw [fQ_eq] at h4
        exact ⟨q, callW_intro hw hf hc hl hr (.inl rfl) h3 hb, h4⟩
      | ret =>
        obtain ⟨q, h3, h4⟩ := leaveK_ok h2
        rw [fQ_eq] at h4
        exact ⟨q, callW_intro hw hf hc hl hr (.inr rfl) h3 hb, h4⟩
      | exit i => cases h2
/-- A contract that holds: of what is seen of the arguments. -/
def Ctr.ok (P : Program) (A : Ann) (plans : FuncId → Nat → List (Nat × Bool)) (c : Ctr) : Prop :=
  ∀ d q, c.spec d = some q → ∀ args0, wkL (A.wk c.f) args0 = (unpack c.tin d).env → callW P A plans c.f args0 (unpack c.tin d).h = some (hdT (unpack c.tout q), (unpack c.tout q).h)
theorem ctrK_ok {f : FuncId} {args0 args : List T} {kk : T × Hp → Option β} {rest : Unit → Option β} (hw : wkL (A.wk f) args0 = args) : ∀ {cs : List Ctr}, (∀ c ∈ cs, c.ok P A plans) → (rest () = some r → ∃ q, callW P A plans f args0 h = some q ∧ kk q = some r) → ctrK cs rest f args h kk = some r → ∃ q, callW P A plans f args0 h = some q ∧ kk q = some r
  | [], _, hr, hk => hr hk
  | c :: cs, hcs, hr, hk => by
    simp only [ctrK] at hk
    split at hk
    · rename_i hc
      simp only [Bool.and_eq_true, beq_iff_eq] at hc
      obtain ⟨rfl, _⟩ := hc
      obtain ⟨d, h1, h2⟩ := packK_ok hk
      obtain ⟨q, h3, h4⟩ := bnd_ok h2
      have e1 : args = (unpack c.tin d).env := congrArg S.env h1
      have e2 : h = (unpack c.tin d).h := congrArg S.h h1
      subst e2
      exact ⟨_, hcs c (by simp) d q h3 args0 (hw.trans e1), h4⟩
    · exact ctrK_ok hw (fun c hc => hcs c (by simp [hc])) hr hk
theorem callK_ok (hQ : ∀ c ∈ Q.ctr, c.ok P A plans) (hB : ∀ f a h, (A.base f a h).isSome = true → Q.bs f = true) : ∀ (n : Nat) (β : Type), KOf (β := β) (callK Q P A plans N n β) (callW P A plans)
  | 0, β => fun f a h kk r hk => ctrK_ok rfl hQ (fun h => by cases h) hk
  | n + 1, β => fun f a h kk r hk => ctrK_ok rfl hQ (fun hk => by
      split at hk
      · cases hk
      · rename_i hb
        refine bodyK_ok (callK_ok hQ hB n) rfl ?_ hk
        cases hx : A.base f (wkL (A.wk f) a) h with
        | none => rfl
        | some q => exact absurd (hB f _ h (by rw [hx]; rfl)) (by rw [hb]; decide)) hk
theorem lifted_ok (hQ : ∀ c ∈ Q.ctr, c.ok P A plans) (hB : ∀ f a h, (A.base f a h).isSome = true → Q.bs f = true) {f : FuncId} (hbs : Q.bs f = false) {n : Nat} {tin tout : Tpl} {d : DT tin} {q : DT tout} (hk : lifted Q P A plans N n f tin tout d = some q)
    {args0 : List T} (hw : wkL (A.wk f) args0 = (unpack tin d).env) : callW P A plans f args0 (unpack tin d).h = some (hdT (unpack tout q), (unpack tout q).h) := by
  obtain ⟨p, h1, h2⟩ := bodyK_ok (callK_ok hQ hB n) hw (by
    cases hx : A.base f (unpack tin d).env (unpack tin d).h with
    | none => rfl
    | some q => have := hB f _ _ (by rw [hx]; rfl); rw [hbs] at this; cases this) hk
  obtain ⟨q', h3, h4⟩ := packK_ok h2
  cases h4
  rw [h1, ← h3]
  rfl
end
end Go.Proofs.YtkdnbnkbnegckaaGreatDoor
