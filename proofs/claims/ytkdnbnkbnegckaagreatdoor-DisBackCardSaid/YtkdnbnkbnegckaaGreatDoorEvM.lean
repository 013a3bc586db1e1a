/- The second machine without a bound: what it comes to, some time. -/
import Derived.Test.YtkdnbnkbnegckaaGreatDoorEvL
namespace Go.Proofs.YtkdnbnkbnegckaaGreatDoor
open Go.RowKit

def KLe (K K' : CallFn) : Prop := ∀ f a h r, K f a h = some r → K' f a h = some r

section
variable {P : Program} {A : Ann} {K K' : CallFn} {plans : FuncId → Nat → List (Nat × Bool)}

theorem callX_mono (hK : KLe K K') {f : FuncId} {tys : List TypeId} {vs : List T} {h : Hp} {r : T × Hp} (hc : callX K P A f tys vs h = some r) : callX K' P A f tys vs h = some r := by
  unfold callX at hc ⊢
  cases ha : adopt P (A.mv f) 0 tys vs h with
  | none => simp [ha] at hc
  | some p =>
  simp only [ha, Option.bind_some] at hc ⊢
  cases hargs : p.1.mapM (argT p.2.1 (ksOf p.2.1 p.1) (rsOf p.2.1 (ksOf p.2.1 p.1) p.2.2)) with
  | none => simp [hargs] at hc
  | some args =>
  cases hbx : (ksOf p.2.1 p.1).mapM fun k => (p.2.1.bx[k]?).bind fun xs => xs.mapM (boxX (ksOf p.2.1 p.1) (rsOf p.2.1 (ksOf p.2.1 p.1) p.2.2)) with
  | none => simp [hargs, hbx] at hc
  | some bx =>
  cases hrw : (rsOf p.2.1 (ksOf p.2.1 p.1) p.2.2).mapM fun r => p.2.1.rw[r]? with
  | none => simp [hargs, hbx, hrw] at hc
  | some rw =>
  simp only [hargs, hbx, hrw, Option.bind_some] at hc ⊢
  cases hq : K f args ⟨bx, rw⟩ with
  | none => simp [hq] at hc
  | some q =>
    rw [hK _ _ _ _ hq]
    rw [hq] at hc
    exact hc

theorem evOp_mono (hK : KLe K K') {s : S} {o : Oper} {r : T × Hp} (hv : evOp K P A s o = some r) : evOp K' P A s o = some r := by
  unfold evOp at hv ⊢
  split at hv <;> try exact hv
  rename_i c ho
  split at hv <;> try exact hv
  rename_i g hg
  split at hv <;> first | exact callX_mono hK hv | cases hv

theorem evOps_mono (hK : KLe K K') {ops : Array Oper} : ∀ (os : List Oper) {s r : S}, evOps K P A ops os s = some r → evOps K' P A ops os s = some r
  | [], _, _, h => h
  | o :: os, s, r, h => by
    simp only [evOps] at h ⊢
    split at h
    · cases hv : evOp K P A s o with
      | none => simp [hv] at h
      | some p =>
        simp only [hv, Option.bind_some] at h
        rw [evOp_mono hK hv]
        exact evOps_mono hK os h
    · exact evOps_mono hK os h
    · cases h
theorem evPlan_mono (hK : KLe K K') {ops : Array Oper} : ∀ (pl : List (Nat × Bool)) {pend : List (Nat × (List Nat × List Nat))} {s r : S}, evPlan K P A ops pl pend s = some r → evPlan K' P A ops pl pend s = some r
  | [], _, _, _, h => h
  | (i, tk) :: pl, pend, s, r, h => by
    simp only [evPlan] at h ⊢
    cases ho : ops[i]? with
    | none => simp [ho] at h
    | some o =>
      simp only [ho, Option.bind_some] at h ⊢
      split at h
      · cases h
      · exact evPlan_mono hK pl h
      · split at h
        · cases hv : opR P s o with
          | none => simp [hv] at h
          | some x =>
            simp only [hv, Option.bind_some] at h
            rename_i htk
            rw [if_pos htk]
            exact evPlan_mono hK pl h
        · rename_i htk
          rw [if_neg htk]
          split at h
          · rename_i hall
            rw [if_pos hall]
            cases hv : evOp K P A s o with
            | none => simp [hv] at h
            | some p =>
              simp only [hv, Option.bind_some] at h
              rw [evOp_mono hK hv]
              exact evPlan_mono hK pl h
          · cases h

theorem run_mono (hK : KLe K K') {cx : Cx} {plan : Nat → List (Nat × Bool)} : ∀ (n n' : Nat) (t : Task) {s : S} {r : Out × S}, n ≤ n' → run K cx plan n t s = some r → run K' cx plan n' t s = some r
  | 0, _, t, s, r, _, h => by simp [run] at h
  | n + 1, 0, t, s, r, hn, _ => by omega
  | n + 1, n' + 1, .round nb b, s, r, hn, h => by
    have ih := fun t {s r} => run_mono (cx := cx) (plan := plan) hK n n' t (s := s) (r := r) (by omega)
    simp only [run] at h ⊢
    cases hm : norm cx nb (Code.key b) s with
    | none => simp [hm] at h
    | some s1 =>
      simp only [hm, Option.bind_some] at h ⊢
      cases hx : run K cx plan n (.code b) s1 with
      | none => simp [hx] at h
      | some p =>
        obtain ⟨o, s2⟩ := p
        rw [ih _ hx]
        cases o with
        | normal => simp only [hx] at h ⊢; exact ih _ h
        | exit i => simp only [hx] at h ⊢; exact h
        | ret => simp only [hx] at h ⊢; exact h
  | n + 1, n' + 1, .code c, s, r, hn, h => by
    have ih := fun t {s r} => run_mono (cx := cx) (plan := plan) hK n n' t (s := s) (r := r) (by omega)
    simp only [run] at h ⊢
    cases c with
    | skip => exact h
    | label l => exact h
    | region id ops draw =>
      simp only at h ⊢
      split at h
      · rename_i hd
        rw [if_pos hd]
        split at h
        · cases h
        · rename_i hne
          cases hp : evPlan K cx.P cx.A ops (plan id) [] s with
          | none => simp [hp] at h
          | some s2 => rw [evPlan_mono hK _ hp]; rw [hp] at h; exact h
      · rename_i hd
        rw [if_neg hd]
        cases hp : evOps K cx.P cx.A ops ops.toList s with
        | none => simp [hp] at h
        | some s2 => rw [evOps_mono hK _ hp]; rw [hp] at h; exact h
    | seq x y =>
      simp only at h ⊢
      cases hx : run K cx plan n (.code x) s with
      | none => simp [hx] at h
      | some p =>
        obtain ⟨o, s2⟩ := p
        rw [ih _ hx]
        cases o with
        | normal =>
          simp only [hx] at h ⊢
          cases hj : joinS cx s.h.bx.length (jk x y) s2 with
          | none => simp [hj] at h
          | some s3 => simp only [hj, Option.bind_some] at h ⊢; exact ih _ h
        | exit i => simp only [hx] at h ⊢; exact h
        | ret => simp only [hx] at h ⊢; exact h
    | cond o x y =>
      simp only at h ⊢
      cases hb : s.bool o with
      | none => simp [hb] at h
      | some t => simp only [hb, Option.bind_some] at h ⊢; exact ih _ h
    | block id b =>
      simp only at h ⊢
      cases hx : run K cx plan n (.code b) s with
      | none => simp [hx] at h
      | some p =>
        obtain ⟨o, s2⟩ := p
        rw [ih _ hx]
        rw [hx] at h
        exact h
    | loop b =>
      simp only at h ⊢
      cases hx : run K cx plan n (.round s.h.bx.length b) s with
      | none => simp [hx] at h
      | some p => rw [ih _ hx]; rw [hx] at h; exact h
    | scope b => exact ih _ h
    | exit id => exact h
    | ret => exact h
    | rangeFunc f ps a b => cases h
    | goto l => cases h
    | refuse w => cases h

theorem callN_mono : ∀ (n n' : Nat), n ≤ n' → KLe (callN P A plans n) (callN P A plans n')
  | 0, _, _ => fun f a h r hc => by simp [callN] at hc
  | n + 1, 0, hn => by omega
  | n + 1, n' + 1, hn => fun f a h r hc => by
    have hK := callN_mono n n' (by omega)
    simp only [callN] at hc ⊢
    generalize wkL (A.wk f) a = a at hc ⊢
    split at hc
    · exact hc
    cases hf : P.funcs[f]? with
    | none => simp [hf] at hc
    | some fn =>
      cases hb : fn.body with
      | none => simp [hf, hb] at hc
      | some c =>
        simp only [hf, hb, Option.bind_some] at hc ⊢
        split at hc
        case isFalse => cases hc
        rename_i hl
        rw [if_pos hl]
        cases hr : run (callN P A plans n) ⟨P, A, f, h.rw.length⟩ (plans f) n (.code c) ⟨a ++ List.replicate (fn.ntmps - a.length) undefT, h⟩ with
        | none => simp [hr] at hc
        | some q => rw [run_mono hK _ _ _ (by omega) hr]; rw [hr] at hc; exact hc
end

/-! What it comes to, some time -/
open Classical in
noncomputable def callW (P : Program) (A : Ann) (plans : FuncId → Nat → List (Nat × Bool)) : CallFn := fun f a h =>
  if hx : ∃ n, (callN P A plans n f a h).isSome = true then callN P A plans (Classical.choose hx) f a h else none

section
variable {P : Program} {A : Ann} {plans : FuncId → Nat → List (Nat × Bool)}
theorem callW_of {n : Nat} {f : FuncId} {a : List T} {h : Hp} {r : T × Hp} (hc : callN P A plans n f a h = some r) : callW P A plans f a h = some r := by
  have hx : ∃ n, (callN P A plans n f a h).isSome = true := ⟨n, by rw [hc]; rfl⟩
  unfold callW
  rw [dif_pos hx]
  obtain ⟨q, hq⟩ := Option.isSome_iff_exists.1 (Classical.choose_spec hx)
  rw [hq]
  rcases Nat.le_total (Classical.choose hx) n with hle | hle
  · rw [callN_mono _ _ hle _ _ _ _ hq] at hc; exact hc
  · rw [callN_mono _ _ hle _ _ _ _ hc] at hq; exact hq.symm
theorem callW_some {f : FuncId} {a : List T} {h : Hp} {r : T × Hp} (hc : callW P A plans f a h = some r) : ∃ n, callN P A plans n f a h = some r := by
  unfold callW at hc
  split at hc
  · exact ⟨_, hc⟩
  · cases hc
theorem callW_base {f : FuncId} {a : List T} {h : Hp} {r : T × Hp} (hc : A.base f (wkL (A.wk f) a) h = some r) : callW P A plans f a h = some r := callW_of (n := 1) (by simp only [callN, hc])
theorem callW_ok (hB : KOk P A.base) (hP : progOk P plans = true) : KOk P (callW P A plans) := fun f a h res h' hc => by
  obtain ⟨n, hn⟩ := callW_some hc
  exact callN_ok P A plans hB hP n f a h res h' hn

/-- Of finitely many calls one bound serves all. -/
theorem callX_fin {f : FuncId} {tys : List TypeId} {vs : List T} {h : Hp} {r : T × Hp} (hc : callX (callW P A plans) P A f tys vs h = some r) : ∃ m, callX (callN P A plans m) P A f tys vs h = some r := by
  unfold callX at hc ⊢
  cases ha : adopt P (A.mv f) 0 tys vs h with
  | none => simp [ha] at hc
  | some p =>
  simp only [ha, Option.bind_some] at hc ⊢
  cases hargs : p.1.mapM (argT p.2.1 (ksOf p.2.1 p.1) (rsOf p.2.1 (ksOf p.2.1 p.1) p.2.2)) with
  | none => simp [hargs] at hc
  | some args =>
  cases hbx : (ksOf p.2.1 p.1).mapM fun k => (p.2.1.bx[k]?).bind fun xs => xs.mapM (boxX (ksOf p.2.1 p.1) (rsOf p.2.1 (ksOf p.2.1 p.1) p.2.2)) with
  | none => simp [hargs, hbx] at hc
  | some bx =>
  cases hrw : (rsOf p.2.1 (ksOf p.2.1 p.1) p.2.2).mapM fun r => p.2.1.rw[r]? with
  | none => simp [hargs, hbx, hrw] at hc
  | some rw =>
  simp only [hargs, hbx, hrw, Option.bind_some] at hc ⊢
  cases hq : callW P A plans f args ⟨bx, rw⟩ with
  | none => simp [hq] at hc
  | some q =>
    obtain ⟨m, hm⟩ := callW_some hq
    refine ⟨m, ?_⟩
    rw [hm]
    rw [hq] at hc
    exact hc
theorem evOp_fin {s : S} {o : Oper} {r : T × Hp} (hv : evOp (callW P A plans) P A s o = some r) : ∃ m, evOp (callN P A plans m) P A s o = some r := by
  unfold evOp at hv ⊢
  split at hv <;> try exact ⟨0, hv⟩
  rename_i c ho
  split at hv <;> try exact ⟨0, hv⟩
  rename_i g hg
  split at hv <;> first | exact callX_fin hv | cases hv
theorem evOps_fin {ops : Array Oper} : ∀ (os : List Oper) {s r : S}, evOps (callW P A plans) P A ops os s = some r → ∃ m, evOps (callN P A plans m) P A ops os s = some r
  | [], _, _, h => ⟨0, h⟩
  | o :: os, s, r, h => by
    simp only [evOps] at h ⊢
    split at h
    · cases hv : evOp (callW P A plans) P A s o with
      | none => simp [hv] at h
      | some p =>
        simp only [hv, Option.bind_some] at h
        obtain ⟨m1, h1⟩ := evOp_fin hv
        obtain ⟨m2, h2⟩ := evOps_fin os h
        refine ⟨max m1 m2, ?_⟩
        rw [evOp_mono (callN_mono _ _ (Nat.le_max_left m1 m2)) h1]
        exact evOps_mono (callN_mono _ _ (Nat.le_max_right m1 m2)) os h2
    · exact evOps_fin os h
    · cases h
theorem evPlan_fin {ops : Array Oper} : ∀ (pl : List (Nat × Bool)) {pend : List (Nat × (List Nat × List Nat))} {s r : S}, evPlan (callW P A plans) P A ops pl pend s = some r → ∃ m, evPlan (callN P A plans m) P A ops pl pend s = some r
  | [], _, _, _, h => ⟨0, h⟩
  | (i, tk) :: pl, pend, s, r, h => by
    simp only [evPlan] at h ⊢
    cases ho : ops[i]? with
    | none => simp [ho] at h
    | some o =>
      simp only [ho, Option.bind_some] at h ⊢
      split at h
      · cases h
      · exact evPlan_fin pl h
      · split at h
        · rename_i htk
          cases hv : opR P s o with
          | none => simp [hv] at h
          | some x =>
            simp only [hv, Option.bind_some] at h
            obtain ⟨m, hm⟩ := evPlan_fin pl h
            exact ⟨m, by rw [if_pos htk]; exact hm⟩
        · rename_i htk
          split at h
          · rename_i hall
            cases hv : evOp (callW P A plans) P A s o with
            | none => simp [hv] at h
            | some p =>
              simp only [hv, Option.bind_some] at h
              obtain ⟨m1, h1⟩ := evOp_fin hv
              obtain ⟨m2, h2⟩ := evPlan_fin pl h
              refine ⟨max m1 m2, ?_⟩
              rw [if_neg htk, if_pos hall, evOp_mono (callN_mono _ _ (Nat.le_max_left m1 m2)) h1]
              exact evPlan_mono (callN_mono _ _ (Nat.le_max_right m1 m2)) pl h2
          · cases h
theorem run_fin {cx : Cx} {plan : Nat → List (Nat × Bool)} (hcP : cx.P = P) (hcA : cx.A = A) : ∀ (n : Nat) (t : Task) {s : S} {r : Out × S}, run (callW P A plans) cx plan n t s = some r → ∃ m, run (callN P A plans m) cx plan n t s = some r
  | 0, t, s, r, h => by simp [run] at h
  | n + 1, .round nb b, s, r, h => by
    have ih := fun t {s r} => run_fin (cx := cx) (plan := plan) hcP hcA n t (s := s) (r := r)
    simp only [run] at h ⊢
    cases hm : norm cx nb (Code.key b) s with
    | none => simp [hm] at h
    | some s1 =>
      simp only [hm, Option.bind_some] at h ⊢
      cases hx : run (callW P A plans) cx plan n (.code b) s1 with
      | none => simp [hx] at h
      | some p =>
        obtain ⟨m1, h1⟩ := ih _ hx
        obtain ⟨o, s2⟩ := p
        cases o with
        | normal =>
          simp only [hx] at h
          obtain ⟨m2, h2⟩ := ih _ h
          refine ⟨max m1 m2, ?_⟩
          rw [run_mono (callN_mono _ _ (Nat.le_max_left m1 m2)) _ _ _ (Nat.le_refl _) h1]
          exact run_mono (callN_mono _ _ (Nat.le_max_right m1 m2)) _ _ _ (Nat.le_refl _) h2
        | exit i => simp only [hx] at h; exact ⟨m1, by rw [h1]; exact h⟩
        | ret => simp only [hx] at h; exact ⟨m1, by rw [h1]; exact h⟩
  | n + 1, .code c, s, r, h => by
    have ih := fun t {s r} => run_fin (cx := cx) (plan := plan) hcP hcA n t (s := s) (r := r)
    simp only [run] at h ⊢
    cases c with
    | skip => exact ⟨0, h⟩
    | label l => exact ⟨0, h⟩
    | region id ops draw =>
      simp only at h ⊢
      split at h
      · rename_i hd
        split at h
        · cases h
        · rename_i hne
          cases hp : evPlan (callW P A plans) cx.P cx.A ops (plan id) [] s with
          | none => simp [hp] at h
          | some s2 =>
            rw [hcP, hcA] at hp
            obtain ⟨m, hm⟩ := evPlan_fin _ hp
            refine ⟨m, ?_⟩
            rw [if_pos hd]
            rw [hcP, hcA, hm]; rw [hcP, hcA, hp] at h; exact h
      · rename_i hd
        cases hp : evOps (callW P A plans) cx.P cx.A ops ops.toList s with
        | none => simp [hp] at h
        | some s2 =>
          rw [hcP, hcA] at hp
          obtain ⟨m, hm⟩ := evOps_fin _ hp
          exact ⟨m, by rw [if_neg hd, hcP, hcA, hm]; rw [hcP, hcA, hp] at h; exact h⟩
    | seq x y =>
      simp only at h ⊢
      cases hx : run (callW P A plans) cx plan n (.code x) s with
      | none => simp [hx] at h
      | some p =>
        obtain ⟨m1, h1⟩ := ih _ hx
        obtain ⟨o, s2⟩ := p
        cases o with
        | normal =>
          simp only [hx] at h
          cases hj : joinS cx s.h.bx.length (jk x y) s2 with
          | none => simp [hj] at h
          | some s3 =>
            simp only [hj, Option.bind_some] at h
            obtain ⟨m2, h2⟩ := ih _ h
            refine ⟨max m1 m2, ?_⟩
            rw [run_mono (callN_mono _ _ (Nat.le_max_left m1 m2)) _ _ _ (Nat.le_refl _) h1]
            simp only [hj, Option.bind_some]
            exact run_mono (callN_mono _ _ (Nat.le_max_right m1 m2)) _ _ _ (Nat.le_refl _) h2
        | exit i => simp only [hx] at h; exact ⟨m1, by rw [h1]; exact h⟩
        | ret => simp only [hx] at h; exact ⟨m1, by rw [h1]; exact h⟩
    | cond o x y =>
      simp only at h ⊢
      cases hb : s.bool o with
      | none => simp [hb] at h
      | some t => simp only [hb, Option.bind_some] at h ⊢; exact ih _ h
    | block id b =>
      simp only at h ⊢
      cases hx : run (callW P A plans) cx plan n (.code b) s with
      | none => simp [hx] at h
      | some p =>
        obtain ⟨m1, h1⟩ := ih _ hx
        exact ⟨m1, by rw [h1]; rw [hx] at h; exact h⟩
    | loop b =>
      simp only at h ⊢
      cases hx : run (callW P A plans) cx plan n (.round s.h.bx.length b) s with
      | none => simp [hx] at h
      | some p =>
        obtain ⟨m1, h1⟩ := ih _ hx
        exact ⟨m1, by rw [h1]; rw [hx] at h; exact h⟩
    | scope b => exact ih _ h
    | exit id => exact ⟨0, h⟩
    | ret => exact ⟨0, h⟩
    | rangeFunc f ps a b => cases h
    | goto l => cases h
    | refuse w => cases h

/-- Code comes, some time, from s to r. -/
def Runs (P : Program) (A : Ann) (plans : FuncId → Nat → List (Nat × Bool)) (f nr : Nat) (t : Task) (s : S) (r : Out × S) : Prop := ∃ n, run (callW P A plans) ⟨P, A, f, nr⟩ (plans f) n t s = some r

theorem callW_intro {f : FuncId} {fn : Func} {c : Code} {a0 a : List T} {h : Hp} {o : Out} {s : S} {r : T × Hp} (hw : wkL (A.wk f) a0 = a) (hf : P.funcs[f]? = some fn) (hb : fn.body = some c) (hl : (decide (a.length ≤ fn.ntmps) && !(fn.name == "runtime.NumGoroutine")) = true)
    (hr : Runs P A plans f h.rw.length (.code c) ⟨a ++ List.replicate (fn.ntmps - a.length) undefT, h⟩ (o, s)) (ho : o = .normal ∨ o = .ret) (hlv : leave P (A.out f) fn h.bx.length h.rw.length s = some r) (hb0 : A.base f a h = none) : callW P A plans f a0 h = some r := by
  obtain ⟨n, hn⟩ := hr
  obtain ⟨m, hm⟩ := run_fin (P := P) (A := A) (plans := plans) (cx := ⟨P, A, f, h.rw.length⟩) rfl rfl n _ hn
  have h1 := run_mono (callN_mono _ _ (Nat.le_max_left m n)) _ _ _ (Nat.le_max_right m n) hm
  refine callW_of (n := max m n + 1) ?_
  simp only [callN, hw, hf, hb, hb0, Option.bind_some]
  rw [if_pos hl, h1]
  rcases ho with rfl | rfl <;> exact hlv
variable {f nr : Nat} {s s' s2 : S} {o : Out} {r : Out × S}
end
end Go.Proofs.YtkdnbnkbnegckaaGreatDoor
