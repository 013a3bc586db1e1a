/- The second machine's functions: what it says of a call holds of the first machine's. -/
import Derived.Test.YtkdnbnkbnegckaaGreatDoorEvK
namespace Go.Proofs.YtkdnbnkbnegckaaGreatDoor
open Go.RowKit

section
variable {P : Program} {W W' W0 : World} {who who' who0 : Nat → Who} {L L' L0 : Lay} {h h' h0 : Hp} {K : CallFn} {A : Ann}

def resRun (tmps : Array Value) : ResultVar → Sem Value
  | .tmp t => Sem.pure (tmps.getD t undef)
  | .cell a t => Sem.bind (asAddr (tmps.getD a undef)) fun ad => loadVar t ad
theorem results_eq (fn : Func) (tmps : Array Value) : results fn tmps = (fn.results.mapM (resRun tmps) >>= fun vs => Sem.pure (if h : vs.size = 1 then vs[0] else Value.tuple vs)) := by
  have e : (fun r => match r with | ResultVar.tmp t => pure (tmps.getD t undef) | ResultVar.cell a t => do loadVar t (← asAddr (tmps.getD a undef))) = resRun tmps := by
    funext r
    cases r <;> rfl
  unfold results
  rw [← e]
  rfl

theorem res_sound {s : S} {a : Act} (H : HSim W who L s.h) (E : ESim W who L s a.tmps) {r : ResultVar} {x : T} (hr : resT P s r = some x) : ∃ v, RepT W who L s.h x v ∧ (resRun a.tmps r).run P W = .ok v W := by
  cases r with
  | tmp t =>
    cases hr
    exact ⟨_, rep_rd E (.tmp t), rfl⟩
  | cell p t =>
    simp only [resT] at hr
    cases hx : s.x1 (.tmp p) with
    | none => simp [hx] at hr
    | some x1 =>
      simp only [hx, Option.bind_some] at hr
      have hrep := rep_x1 E hx
      obtain ⟨u, h1, h2⟩ := load_sound H hrep hr
      refine ⟨u, h1, ?_⟩
      have h3 := h2 W (Same.rf _ _ _ _)
      have h4 : a.eval (.tmp p) = a.tmps.getD p undef := rfl
      rw [h4] at h3 hrep
      have : ∃ b o, a.tmps.getD p undef = ptrV b o := by
        cases x1 with
        | ptr k off => exact ⟨_, _, hrep.2⟩
        | ep r i off => obtain ⟨_, b, o, h5, _⟩ := hrep; exact ⟨_, _, h5⟩
        | fp e off => obtain ⟨b, o, us, h5, _⟩ := hrep; exact ⟨_, _, h5⟩
        | c d => simp [loadX] at hr
        | own r off n => simp [loadX] at hr
        | clo bd f ks => simp [loadX] at hr
        | junk => simp [loadX] at hr
      obtain ⟨b, o, e⟩ := this
      rw [e] at h3
      simp only [Instr.loadAt, Instr.sureAddr, ptrV, Sem.run_bind, Sem.run_pure, Result.andThen_ok] at h3
      show (Sem.bind (asAddr (a.tmps.getD p undef)) fun ad => loadVar t ad).run P W = _
      rw [e]
      exact h3

theorem res_list {s : S} {a : Act} (H : HSim W who L s.h) (E : ESim W who L s a.tmps) : ∀ (l : List ResultVar) {xs : List T}, l.mapM (resT P s) = some xs → ∃ us, RepTs W who L s.h xs us ∧ (l.mapM (resRun a.tmps)).run P W = .ok us W
  | [], xs, h => by simp at h; subst h; exact ⟨[], ⟨rfl, fun i t u h => by simp at h⟩, by simp⟩
  | r :: l, xs, h => by
    rw [List.mapM_cons] at h
    cases h1 : resT P s r with
    | none => simp [h1] at h
    | some x =>
      cases h2 : l.mapM (resT P s) with
      | none => simp [h1, h2] at h
      | some xs' =>
        simp [h1, h2] at h
        subst h
        obtain ⟨v, h3, h4⟩ := res_sound H E h1
        obtain ⟨us, h5, h6⟩ := res_list H E l h2
        exact ⟨v :: us, RepTs.cons h3 h5, by rw [List.mapM_cons]; simp [h4, h6]⟩

theorem tup_rep : ∀ {vs : List T} {us : List Value} {sh : List (Bool × Nat)}, RepTs W who L h vs us → vs.mapM kdSh = some sh → RepTup W who L h sh (vs.flatMap (·.xs)) us
  | [], us, sh, R, hk => by
    simp at hk
    subst hk
    exact ⟨rfl, List.eq_nil_of_length_eq_zero (by simpa using R.1.symm)⟩
  | v :: vs, [], sh, R, hk => by have := R.1; simp at this
  | v :: vs, u :: us, sh, R, hk => by
    rw [List.mapM_cons] at hk
    cases h1 : kdSh v with
    | none => simp [h1] at hk
    | some q =>
      cases h2 : vs.mapM kdSh with
      | none => simp [h1, h2] at hk
      | some sh' =>
        simp [h1, h2] at hk
        subst hk
        have h3 := R.2 0 v u rfl rfl
        have hA : RepA W who L h q.1 v.xs u ∧ q.2 = v.xs.length := by
          obtain ⟨k, xs⟩ := v
          cases k <;> simp [kdSh] at h1
          · subst h1; exact ⟨h3, rfl⟩
          · subst h1; exact ⟨h3, rfl⟩
        refine ⟨u, us, rfl, ?_, ?_, ?_⟩
        · rw [hA.2, List.flatMap_cons]; simp
        · rw [hA.2, List.flatMap_cons, List.take_left]; exact hA.1
        · rw [hA.2, List.flatMap_cons, List.drop_left]
          exact tup_rep ⟨by simpa using R.1, fun i => R.2 (i + 1)⟩ h2

theorem wkL_rep {us : List Value} : ∀ (cs : List (Nat × Nat × Nat)) {ts : List T}, RepTs W who L h ts us → RepTs W who L h (wkL cs ts) us
  | [], _, H => H
  | (j, i, sz) :: cs, ts, H => by
    refine wkL_rep cs ⟨by simp [H.1], fun k t u h1 h2 => ?_⟩
    rw [List.getElem?_modify] at h1
    cases hx : ts[k]? with
    | none => simp [hx] at h1
    | some y =>
      simp only [hx, Option.map_eq_map, Option.map_some, Option.some.injEq] at h1
      have hy := H.2 k y u hx h2
      subst h1
      split
      · exact wkT_rep i sz hy
      · exact hy

theorem coerX_sound {sz : Nat} {x y : X} {u : Value} (H : HSim W who L h) (hx : RepX W who L h x u) (hc : coerX sz x h = some (y, h')) :
    ∃ who', HSim W who' L h' ∧ Step .no W who L h W who' L h' ∧ RepX W who' L h' y u := by
  unfold coerX at hc
  split at hc
  · cases hc
    exact ⟨who, H, Step.rf _ _ _ _, wkX_rep (sz := sz) hx⟩
  · rename_i r off n
    cases hf : h.freeze (.own r off n) with
    | none => simp [hf] at hc
    | some p =>
      simp only [hf, Option.map_some, Option.some.injEq, Prod.mk.injEq] at hc
      obtain ⟨rfl, rfl⟩ := hc
      obtain ⟨who', h1, h2, h3⟩ := freeze_sound H hx hf
      exact ⟨who', h1, h2, h3⟩
  · cases hc
    exact ⟨who, H, Step.rf _ _ _ _, hx⟩
theorem coerXs_sound {cs : List (Nat × Nat × Nat)} {j : Nat} : ∀ {xs : List X} {i : Nat} {h : Hp} {who : Nat → Who} {us : List Value} {ys : List X} {h' : Hp}, HSim W who L h → RepXs W who L h xs us → coerXs cs j i xs h = some (ys, h') →
    ∃ who', HSim W who' L h' ∧ Step .no W who L h W who' L h' ∧ RepXs W who' L h' ys us
  | [], i, h, who, us, ys, h', H, hx, hf => by
    simp only [coerXs, Option.some.injEq, Prod.mk.injEq] at hf
    obtain ⟨rfl, rfl⟩ := hf
    exact ⟨who, H, Step.rf _ _ _ _, hx⟩
  | x :: xs, i, h, who, [], ys, h', H, hx, hf => by have := hx.1; simp at this
  | x :: xs, i, h, who, u :: us, ys, h', H, hx, hf => by
    have hx0 := hx.2 0 x u rfl rfl
    have hx1 : RepXs W who L h xs us := ⟨by simpa using hx.1, fun i => hx.2 (i + 1)⟩
    have fin : ∀ {who1 : Nat → Who} {h1 : Hp} {y : X} {q : List X × Hp}, HSim W who1 L h1 → Step .no W who L h W who1 L h1 → RepX W who1 L h1 y u → coerXs cs j (i + 1) xs h1 = some q → (y :: q.1, q.2) = (ys, h') →
        ∃ who', HSim W who' L h' ∧ Step .no W who L h W who' L h' ∧ RepXs W who' L h' ys (u :: us) := fun H1 S1 hy hq e => by
      cases e
      obtain ⟨who2, H2, S2, R2⟩ := coerXs_sound H1 (S1.repXs hx1) hq
      refine ⟨who2, H2, S1.tr S2, by simpa using R2.1, fun k z w hz hw => ?_⟩
      cases k with
      | zero => cases hz; cases hw; exact ⟨S2.repX hy, hx0.2⟩
      | succ k => exact R2.2 k z w hz hw
    simp only [coerXs] at hf
    split at hf
    · cases hq : coerXs cs j (i + 1) xs h with
      | none => simp [hq] at hf
      | some q =>
        simp only [hq, Option.map_some, Option.some.injEq] at hf
        exact fin H (Step.rf _ _ _ _) hx0.1 hq hf
    · rename_i sz _
      cases hp : coerX sz x h with
      | none => simp [hp] at hf
      | some p =>
        cases hq : coerXs cs j (i + 1) xs p.2 with
        | none => simp [hp, hq] at hf
        | some q =>
          simp only [hp, hq, Option.bind_some, Option.map_some, Option.some.injEq] at hf
          obtain ⟨who1, H1, S1, R1⟩ := coerX_sound H hx0.1 hp
          exact fin H1 S1 R1 hq hf
theorem coerTs_sound {cs : List (Nat × Nat × Nat)} : ∀ {ts : List T} {j : Nat} {h : Hp} {who : Nat → Who} {us : List Value} {ys : List T} {h' : Hp}, HSim W who L h → RepTs W who L h ts us → coerTs cs j ts h = some (ys, h') →
    ∃ who', HSim W who' L h' ∧ Step .no W who L h W who' L h' ∧ RepTs W who' L h' ys us
  | [], j, h, who, us, ys, h', H, hx, hf => by
    simp only [coerTs, Option.some.injEq, Prod.mk.injEq] at hf
    obtain ⟨rfl, rfl⟩ := hf
    exact ⟨who, H, Step.rf _ _ _ _, hx⟩
  | t :: ts, j, h, who, [], ys, h', H, hx, hf => by have := hx.1; simp at this
  | t :: ts, j, h, who, u :: us, ys, h', H, hx, hf => by
    have hx0 := hx.2 0 t u rfl rfl
    have hx1 : RepTs W who L h ts us := ⟨by simpa using hx.1, fun i => hx.2 (i + 1)⟩
    obtain ⟨k, xs⟩ := t
    have fin : ∀ {who1 : Nat → Who} {h1 : Hp} {y : T} {q : List T × Hp}, HSim W who1 L h1 → Step .no W who L h W who1 L h1 → RepT W who1 L h1 y u → coerTs cs (j + 1) ts h1 = some q → (y :: q.1, q.2) = (ys, h') →
        ∃ who', HSim W who' L h' ∧ Step .no W who L h W who' L h' ∧ RepTs W who' L h' ys (u :: us) := fun H1 S1 hy hq e => by
      cases e
      obtain ⟨who2, H2, S2, R2⟩ := coerTs_sound H1 ⟨hx1.1, fun i t u h1 h2 => S1.repT (hx1.2 i t u h1 h2)⟩ hq
      refine ⟨who2, H2, S1.tr S2, by simpa using R2.1, fun k z w hz hw => ?_⟩
      cases k with
      | zero => cases hz; cases hw; exact S2.repT hy
      | succ k => exact R2.2 k z w hz hw
    cases k with
    | tup sh => simp [coerTs] at hf
    | one =>
      simp only [coerTs] at hf
      cases hp : coerXs cs j 0 xs h with
      | none => simp [hp] at hf
      | some p =>
        cases hq : coerTs cs (j + 1) ts p.2 with
        | none => simp [hp, hq] at hf
        | some q =>
          simp only [hp, hq, Option.bind_some, Option.map_some, Option.some.injEq] at hf
          obtain ⟨x, rfl, hx2⟩ := hx0
          simp only [coerXs] at hp
          split at hp
          · simp only [Option.map_some, Option.some.injEq] at hp
            subst hp
            exact fin (y := ⟨.one, [x]⟩) H (Step.rf _ _ _ _) ⟨x, rfl, hx2⟩ hq hf
          · rename_i sz _
            cases hp2 : coerX sz x h with
            | none => simp [hp2] at hp
            | some p2 =>
              simp only [hp2, Option.bind_some, Option.map_some, Option.some.injEq] at hp
              subst hp
              obtain ⟨who1, H1, S1, R1⟩ := coerX_sound H hx2 hp2
              exact fin (y := ⟨.one, [p2.1]⟩) H1 S1 ⟨_, rfl, R1⟩ hq hf
    | agg =>
      simp only [coerTs] at hf
      cases hp : coerXs cs j 0 xs h with
      | none => simp [hp] at hf
      | some p =>
        cases hq : coerTs cs (j + 1) ts p.2 with
        | none => simp [hp, hq] at hf
        | some q =>
          simp only [hp, hq, Option.bind_some, Option.map_some, Option.some.injEq] at hf
          obtain ⟨us2, rfl, hx2⟩ := hx0
          obtain ⟨who1, H1, S1, R1⟩ := coerXs_sound H hx2 hp
          exact fin (y := ⟨.agg, p.1⟩) H1 S1 ⟨us2, rfl, R1⟩ hq hf

theorem leave_sound {cs : List (Nat × Nat × Nat)} {s : S} {a : Act} {fn : Func} {nb nr : Nat} {x : T} (H : HSim W who L s.h) (E : ESim W who L s a.tmps) (S0 : Step .all W0 who0 L0 h0 W who L s.h) (hb0 : h0.bx.length ≤ nb) (hr0 : h0.rw.length = nr) (hl : leave P cs fn nb nr s = some (x, h')) :
    ∃ v who' L', (results fn a.tmps).run P W = .ok v W ∧ RepT W who' L' h' x v ∧ HSim W who' L' h' ∧ Step .all W0 who0 L0 h0 W who' L' h' := by
  unfold leave at hl
  cases hvs : fn.results.toList.mapM (resT P s) with
  | none => simp [hvs] at hl
  | some vs =>
    simp only [hvs, Option.bind_some] at hl
    obtain ⟨us, R0, hrun⟩ := res_list H E _ hvs
    cases hco : coerTs cs 0 vs s.h with
    | none => simp [hco] at hl
    | some q =>
    simp only [hco, Option.bind_some] at hl
    obtain ⟨who1, H1, S1, R⟩ := coerTs_sound H R0 hco
    have S0 := S0.tr S1.top
    clear hvs R0 E
    obtain ⟨vs, hq⟩ := q
    simp only at hl H1 S1 R S0
    have hres : (results fn a.tmps).run P W = .ok (if h : us.toArray.size = 1 then us.toArray[0] else .tuple us.toArray) W := by
      rw [results_eq, Array.mapM_eq_mapM_toList]
      simp only [Sem.run_bind, Sem.run_map, hrun, Result.andThen_ok]
      rfl
    generalize hr : joinT vs = r at hl
    have key : ∀ y, r = some y → ∃ v, (results fn a.tmps).run P W = .ok v W ∧ RepT W who1 L hq y v := fun y hy => by
      subst hy
      unfold joinT at hr
      split at hr
      · rename_i v
        cases hr
        obtain ⟨u, rfl⟩ : ∃ u, us = [u] := by
          have := R.1
          cases us with
          | nil => simp at this
          | cons u us => exact ⟨u, by simp at this; rw [← this]⟩
        exact ⟨u, by rw [hres]; simp, R.2 0 _ u rfl rfl⟩
      · rename_i hne
        cases hk : vs.mapM kdSh with
        | none => simp [hk] at hr
        | some sh =>
          simp only [hk, Option.map_some, Option.some.injEq] at hr
          subst hr
          refine ⟨.tuple us.toArray, ?_, us, rfl, tup_rep R hk⟩
          rw [hres, dif_neg]
          intro h1
          have h2 := R.1
          simp at h1
          rw [h1] at h2
          obtain ⟨v, rfl⟩ : ∃ v, vs = [v] := by
            cases vs with
            | nil => simp at h2
            | cons v vs => exact ⟨v, by simp at h2; rw [h2]⟩
          exact hne v rfl
    cases r with
    | none => simp at hl
    | some y =>
      simp only [Option.bind_some] at hl
      obtain ⟨v, h1, h2⟩ := key y rfl
      obtain ⟨who2, L2, H2, S2, hlen, hrep⟩ := compact_sound (nb := nb) (nr := nr) (ts := [y]) H1 (by rw [← hr0]; exact S0.rw) S0 hb0 (by omega)
      split at hl
      · rename_i v' h'' he
        simp only [Option.some.injEq, Prod.mk.injEq] at hl
        obtain ⟨rfl, rfl⟩ := hl
        have e1 : (compact nb nr [y] hq).2 = h'' := by rw [he]
        have e2 : (compact nb nr [y] hq).1 = [v'] := by rw [he]
        rw [e1] at H2 S2 hrep
        rw [e2] at hrep
        exact ⟨v, who2, L2, h1, hrep 0 y v' v rfl rfl h2, H2, S2⟩
      · cases hl

theorem enter_sim {args : List T} {vs : List Value} {n : Nat} (hn : args.length ≤ n) (R : RepTs W who L h args vs) : ESim W who L ⟨args ++ List.replicate (n - args.length) undefT, h⟩ (vs.toArray ++ Array.replicate (n - vs.toArray.size) undef) := by
  have hl := R.1
  refine ⟨by simp; omega, fun t x hx => ?_⟩
  rw [Array.getD_eq_getD_getElem?]
  by_cases ht : t < args.length
  · rw [List.getElem?_append_left ht] at hx
    rw [Array.getElem?_append_left (by simp; omega)]
    have : vs.toArray[t]? = some (vs[t]'(by omega)) := by simp [List.getElem?_eq_getElem (show t < vs.length by omega)]
    rw [this]
    exact R.2 t x _ hx (List.getElem?_eq_getElem (by omega))
  · rw [List.getElem?_append_right (by omega), List.getElem?_replicate] at hx
    split at hx
    · cases hx
      rw [Array.getElem?_append_right (by simp; omega), Array.getElem?_replicate]
      split
      · exact undef_rep
      · exact undef_rep
    · cases hx

theorem callN_ok (P : Program) (A : Ann) (plans : FuncId → Nat → List (Nat × Bool)) (hB : KOk P A.base) (hP : progOk P plans = true) : ∀ n, KOk P (callN P A plans n)
  | 0 => fun f args h res h' hc => by simp [callN] at hc
  | n + 1 => fun f args h res h' hc => by
    have hK := callN_ok P A plans hB hP n
    simp only [progOk, Bool.and_eq_true] at hP
    simp only [callN] at hc
    generalize hargs : wkL (A.wk f) args = args' at hc
    split at hc
    · rename_i r hr
      have hb := hB f args' h res h' (hr.trans hc)
      refine ⟨hb.1, fun W who L vs H hal R => ?_⟩
      have hw : RepTs W who L h args' vs := hargs ▸ wkL_rep (A.wk f) ⟨hal, R⟩
      exact hb.2 W who L vs H hw.1 hw.2
    rename_i hbase
    cases hf : P.funcs[f]? with
    | none => simp [hf] at hc
    | some fn =>
      cases hb : fn.body with
      | none => simp [hf, hb] at hc
      | some c =>
        simp only [hf, hb, Option.bind_some] at hc
        split at hc
        case isFalse => cases hc
        rename_i hlen
        simp only [Bool.and_eq_true, decide_eq_true_eq, Bool.not_eq_true'] at hlen
        refine ⟨⟨fn, rfl, by rw [hb]; rfl, hlen.2⟩, fun W who L vs H hal0 R0 => ?_⟩
        have hw : RepTs W who L h args' vs := hargs ▸ wkL_rep (A.wk f) ⟨hal0, R0⟩
        obtain ⟨hal, R⟩ := hw
        cases hr : run (callN P A plans n) ⟨P, A, f, h.rw.length⟩ (plans f) n (.code c) ⟨args' ++ List.replicate (fn.ntmps - args'.length) undefT, h⟩ with
        | none => simp [hr] at hc
        | some r =>
          obtain ⟨o, s'⟩ := r
          simp only [hr, Option.bind_some] at hc
          have hleave : leave P (A.out f) fn h.bx.length h.rw.length s' = some (res, h') ∧ (o = .normal ∨ o = .ret) := by
            cases o with
            | normal => exact ⟨hc, .inl rfl⟩
            | ret => exact ⟨hc, .inr rfl⟩
            | exit i => cases hc
          refine calls_of_wp hf hb ?_
          have hcode : codeOk P (plans f) c = true := by
            have h1 := List.all_eq_true.1 hP.2 (fn, f) (by
              rw [List.mem_zipIdx_iff_getElem?]
              simpa using hf)
            simpa [hb] using h1
          refine run_sound (cx := ⟨P, A, f, h.rw.length⟩) (plan := plans f) (h0 := h) (W0 := W) (who0 := who) (L0 := L) hK hP.1 rfl n (.code c) (s := ⟨args' ++ List.replicate (fn.ntmps - args'.length) undefT, h⟩) H (enter_sim hlen.1 ⟨hal, R⟩) (Step.rf _ _ _ _) (by simp) hcode hr ?_
          intro a' W' who' L' H' E' S' hd
          obtain ⟨v, who2, L2, h1, h2, h3, h4⟩ := leave_sound H' E' S' (Nat.le_refl _) rfl hleave.1
          have fin : bodyPost P fn (fun e W' => ∃ v who' L', e = .returned v ∧ RepT W' who' L' h' res v ∧ HSim W' who' L' h' ∧ Step .all W who L h W' who' L' h') .normal a' W' := ⟨hd, v, h1, v, who2, L2, rfl, h2, h3, h4⟩
          rcases hleave.2 with rfl | rfl
          · exact fin
          · exact fin
end
end Go.Proofs.YtkdnbnkbnegckaaGreatDoor
