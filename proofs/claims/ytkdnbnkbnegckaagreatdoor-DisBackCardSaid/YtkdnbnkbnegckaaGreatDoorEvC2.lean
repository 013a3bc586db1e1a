/- The second machine's operations that leave the heap as it is, all of them. -/
import Derived.Test.YtkdnbnkbnegckaaGreatDoorEvC
namespace Go.Proofs.YtkdnbnkbnegckaaGreatDoor
open Go.RowKit

section
variable {P : Program} {W : World} {who : Nat → Who} {L : Lay}

theorem runPure_run {α : Type} : ∀ (s : Sem α) (a : α), runPure P s = some a → ∀ W', s.run P W' = .ok a W' := by
  intro s
  induction s with
  | pure b => intro a h W'; simp only [runPure, Option.some.injEq] at h; subst h; rfl
  | program k ih => intro a h W'; exact ih P a h W'
  | mark m k ih => intro a h W'; exact ih a h W'
  | _ => intro a h; simp [runPure] at h

theorem pureV_sound {s : S} {a : Act} {o : Oper} {x : T} (hs : ∀ cs b, o.op ≠ .select cs b) (E : ESim W who L s a.tmps) (h : pureV P s o = some x) :
    ∃ v, RepT W who L s.h x v ∧ ∀ W', (execOp a.eval o).run P W' = .ok (.value v) W' := by
  unfold pureV at h
  split at h
  · rename_i hall
    split at h
    · rename_i v hv
      simp only [Option.some.injEq] at h
      subst h
      refine ⟨v, rep_ofVal v, fun W' => ?_⟩
      rw [execOp_congr (ρ' := valOf s) o hs ?_]
      · exact runPure_run _ _ hv W'
      · intro y hy
        have := List.all_eq_true.1 hall y (by simpa using hy)
        obtain ⟨u, hu⟩ := Option.isSome_iff_exists.1 this
        rw [rep_val (rep_rd E y) hu, valOf, hu]
        rfl
    · cases h
  · cases h

theorem run_size {t : TypeId} {n : Nat} (h : szT P t = some n) (W' : World) : (sizeOf t).run P W' = .ok n W' := by
  unfold szT at h
  cases hq : P.info? t with
  | none => simp [hq] at h
  | some q => simp [hq] at h; simp [sizeOf, typeInfo, hq, h]
theorem rep_one {h : Hp} {u v : Value} (R : RepT W who L h ⟨.one, [.c (.v u)]⟩ v) : v = u := by
  obtain ⟨x, e, h1⟩ := R
  cases e; cases h1; rfl
theorem rep_mk {h : Hp} (u : Value) (hu : scalar u = true) : RepT W who L h ⟨.one, [.c (.v u)]⟩ u := ⟨_, rfl, .v u hu⟩
theorem intsOf_rep {h : Hp} {k : IntKind} : ∀ {xs : List X} {us : List Value} {l : List Int}, RepXs W who L h xs us → intsOf k xs = some l → us = l.map (Value.int k) ∧ l.length = xs.length
  | [], us, l, R, hl => by
    simp only [intsOf, Option.some.injEq] at hl
    subst hl
    exact ⟨List.eq_nil_of_length_eq_zero R.1.symm, rfl⟩
  | x :: xs, [], l, R, hl => by simp [RepXs] at R
  | x :: xs, u :: us, l, R, hl => by
    unfold intsOf at hl
    split at hl
    · cases ‹_ :: _ = []›
    · rename_i a1 k' a xs' he
      cases he
      split at hl
      case isFalse => cases hl
      rename_i hk
      subst hk
      cases hr : intsOf k' xs with
      | none => simp [hr] at hl
      | some m =>
        simp only [hr, Option.map_some, Option.some.injEq] at hl
        subst hl
        obtain ⟨h1, h2⟩ := intsOf_rep (us := us) ⟨by simpa using R.1, fun i y w hy hw => R.2 (i + 1) y w (by simpa using hy) (by simpa using hw)⟩ hr
        have h3 := (R.2 0 _ u rfl rfl).1
        have h4 : u = .int k' a := by cases h3; rfl
        exact ⟨by rw [h4, h1]; rfl, by simp [h2]⟩
    · cases hl
theorem flatI_eq {t : TypeId} {n : Nat} {k : IntKind} (hf : flatI P t n = some k) (l m : List Int) (hl : l.length = n) (hm : m.length = n) :
    P.eqGuardType P.depth t = false ∧ ∀ W', (binOp .eql t (.agg (l.map (Value.int k)).toArray) (.agg (m.map (Value.int k)).toArray)).run P W' = .ok (.bool (decide (l = m))) W' ∧
      (binOp .neq t (.agg (l.map (Value.int k)).toArray) (.agg (m.map (Value.int k)).toArray)).run P W' = .ok (.bool (!decide (l = m))) W' := by
  unfold flatI at hf
  split at hf
  · cases hf
  · rename_i hg
    simp only [Bool.or_eq_true, beq_iff_eq, not_or, Bool.not_eq_true] at hg
    refine ⟨hg.1, fun W' => ?_⟩
    split at hf
    · split at hf
      · split at hf
        · split at hf
          · rename_i hi
            cases hf
            exact ⟨run_eql_ints (by omega) hi W' l m hl hm, run_neq_ints (by omega) hi W' l m hl hm⟩
          · cases hf
        · cases hf
      · cases hf
    · rename_i len e hu
      split at hf
      · rename_i k' he
        split at hf
        · rename_i hc
          cases hf
          obtain ⟨rfl, hs⟩ := hc
          exact ⟨run_eql_arr hu he (fun w => run_size hs w) W' l m hl hm, run_neq_arr hu he (fun w => run_size hs w) W' l m hl hm⟩
        · cases hf
      · cases hf
    · cases hf

theorem fastOp_sound {s : S} {a : Act} {o : Oper} {x : T} (E : ESim W who L s a.tmps) (h : fastOp P s o = some x) :
    ∃ v, RepT W who L s.h x v ∧ ∀ W', (execOp a.eval o).run P W' = .ok (.value v) W' := by
  unfold fastOp at h
  split at h
  · rename_i op t y z t2 ho
    have hy := rep_rd E y
    have hz := rep_rd E z
    split at h
    · rename_i k i k' j e1 e2
      rw [e1] at hy
      rw [e2] at hz
      have hy := rep_one hy
      have hz := rep_one hz
      have hg : ∀ W', (eqGuard op t y z (.int k i) (.int k' j)).run P W' = .ok () W' := fun W' => by
        unfold eqGuard
        cases op <;> simp
      cases hi : intOp op k i k' j with
      | none => simp [hi] at h
      | some v =>
        simp only [hi, Option.map_some, Option.some.injEq] at h
        subst h
        have key : scalar v = true ∧ ∀ W', (binOp op t (.int k i) (.int k' j)).run P W' = .ok v W' := by
          cases op with
          | shl =>
            simp only [intOp] at hi
            split at hi
            · cases hi
            · rename_i hc
              cases hi
              exact ⟨rfl, fun W' => by simp [binOp, Op.shift, hc]⟩
          | shr =>
            simp only [intOp] at hi
            split at hi
            · cases hi
            · rename_i hc
              cases hi
              exact ⟨rfl, fun W' => by simp [binOp, Op.shift, hc]⟩
          | quo =>
            simp only [intOp] at hi
            split at hi
            · cases hi
            · rename_i hc
              cases hi
              simp only [not_or, ne_eq, Decidable.not_not] at hc
              exact ⟨rfl, fun W' => by simp [binOp, Op.intDiv, hc.1, hc.2]⟩
          | rem =>
            simp only [intOp] at hi
            split at hi
            · cases hi
            · rename_i hc
              cases hi
              simp only [not_or, ne_eq, Decidable.not_not] at hc
              exact ⟨rfl, fun W' => by simp [binOp, Op.intDiv, hc.1, hc.2]⟩
          | and =>
            simp only [intOp] at hi
            split at hi
            · rename_i hc
              cases hi
              exact ⟨rfl, fun W' => by simp [binOp, Op.intBits, bits, hc]⟩
            · cases hi
          | or =>
            simp only [intOp] at hi
            split at hi
            · rename_i hc
              cases hi
              exact ⟨rfl, fun W' => by simp [binOp, Op.intBits, bits, hc]⟩
            · cases hi
          | xor =>
            simp only [intOp] at hi
            split at hi
            · rename_i hc
              cases hi
              exact ⟨rfl, fun W' => by simp [binOp, Op.intBits, bits, hc]⟩
            · cases hi
          | andNot =>
            simp only [intOp] at hi
            split at hi
            · rename_i hc
              cases hi
              exact ⟨rfl, fun W' => by simp [binOp, Op.intBits, bits, hc]⟩
            · cases hi
          | _ => simp [intOp] at hi
        refine ⟨v, rep_mk v key.1, fun W' => ?_⟩
        unfold execOp
        rw [ho]
        simp only [Sem.run_bind, hy, hz, hg, Result.andThen_ok, key.2, Sem.run_pure]
    · rename_i b c e1 e2
      rw [e1] at hy
      rw [e2] at hz
      have hy := rep_one hy
      have hz := rep_one hz
      have key : ∀ (hu : P.underlying t = some .bool) W', (Op.equal t (.bool b) (.bool c)).run P W' = .ok (b == c) W' := fun hu W' => by
        have : ∀ d, (Op.equalIn (d + 1) t (.bool b) (.bool c)).run P W' = .ok (b == c) W' := fun d => by
          simp only [Op.equalIn, Sem.run_bind, run_underlying hu, Result.andThen_ok, Sem.run_pure]
        exact this 9999
      split at h
      · rename_i hu
        simp only [Option.some.injEq] at h
        subst h
        refine ⟨_, rep_mk _ rfl, fun W' => ?_⟩
        unfold execOp
        rw [ho]
        simp only [Sem.run_bind, hy, hz, eqGuard, binOp, key hu, Result.andThen_ok, Sem.run_pure]
        rfl
      · rename_i hu
        simp only [Option.some.injEq] at h
        subst h
        refine ⟨_, rep_mk _ rfl, fun W' => ?_⟩
        unfold execOp
        rw [ho]
        simp only [Sem.run_bind, hy, hz, eqGuard, binOp, key hu, Result.andThen_ok, Sem.run_pure]
        rfl
      · cases h
    · rename_i xs ys e1 e2
      rw [e1] at hy
      rw [e2] at hz
      cases hk : flatI P t xs.length with
      | none => simp [hk] at h
      | some k =>
        cases hl : intsOf k xs with
        | none => simp [hk, hl] at h
        | some l =>
          cases hm : intsOf k ys with
          | none => simp [hk, hl, hm] at h
          | some m =>
            simp only [hk, hl, hm, Option.bind_some] at h
            split at h
            case isFalse => cases h
            rename_i hlen
            obtain ⟨us, hu, R1⟩ := hy
            obtain ⟨vs, hv, R2⟩ := hz
            obtain ⟨rfl, l1⟩ := intsOf_rep R1 hl
            obtain ⟨rfl, l2⟩ := intsOf_rep R2 hm
            obtain ⟨hg, hq⟩ := flatI_eq hk l m l1 (by omega)
            split at h
            · simp only [Option.some.injEq] at h
              subst h
              refine ⟨_, rep_mk _ rfl, fun W' => ?_⟩
              unfold execOp
              rw [ho]
              simp only [Sem.run_bind, hu, hv, run_eqGuard_agg (hm := hg), (hq _).1, Result.andThen_ok, Sem.run_pure]
            · simp only [Option.some.injEq] at h
              subst h
              refine ⟨_, rep_mk _ rfl, fun W' => ?_⟩
              unfold execOp
              rw [ho]
              simp only [Sem.run_bind, hu, hv, run_eqGuard_agg (hm := hg), (hq _).2, Result.andThen_ok, Sem.run_pure]
            · cases h
    · cases h
  · rename_i t y ho
    split at h
    · rename_i k n e1
      have hy := rep_rd E y
      rw [e1] at hy
      have hy := rep_one hy
      simp only [Option.some.injEq] at h
      subst h
      refine ⟨_, rep_mk _ rfl, fun W' => ?_⟩
      unfold execOp
      rw [ho]
      simp only [Sem.run_bind, hy, Op.unary, Op.intArith, Result.andThen_ok, Sem.run_pure]
    · cases h
  · rename_i src dst y ho
    split at h
    · rename_i u k k' n hs hd e1
      have hy := rep_rd E y
      rw [e1] at hy
      have hy := rep_one hy
      simp only [Option.some.injEq] at h
      subst h
      refine ⟨_, rep_mk _ rfl, fun W' => ?_⟩
      unfold execOp
      rw [ho]
      simp only [Sem.run_bind, hy, convert, run_underlying hs, run_underlying hd, Conv.intToInt, Result.andThen_ok, Sem.run_pure]
    · cases h
  · rename_i t y i ho
    split at h
    · rename_i b k n hu e1 e2
      have hy := rep_rd E y
      rw [e1] at hy
      have hy := rep_one hy
      have hi := rep_rd E i
      rw [e2] at hi
      have hi := rep_one hi
      split at h
      case isFalse => cases h
      rename_i hn
      cases hb : b.data[n.toNat]? with
      | none => simp [hb] at h
      | some u =>
        simp only [hb, Option.map_some, Option.some.injEq] at h
        subst h
        refine ⟨_, rep_mk _ rfl, fun W' => ?_⟩
        unfold execOp
        rw [ho]
        have hb2 : b[n.toNat]? = some u := by
          obtain ⟨hlt, hq⟩ := Array.getElem?_eq_some_iff.1 hb
          have hlt' : n.toNat < b.size := hlt
          rw [getElem?_pos b n.toNat hlt']
          exact congrArg some hq
        simp only [Sem.run_bind, hy, hi, Instr.index, asIntOf, run_underlying hu, Result.andThen_ok, Sem.run_pure, hn, if_true, hb2]
    · cases h
  · rename_i c ho
    split at h
    · rename_i y t hc ha ht
      have e1 : c.args = #[y] := by apply Array.ext'; simpa using ha
      have e2 : c.argTypes = #[t] := by apply Array.ext'; simpa using ht
      split at h
      · rename_i b hu e3
        have hy := rep_rd E y
        rw [e3] at hy
        have hy := rep_one hy
        simp only [Option.some.injEq] at h
        subst h
        refine ⟨_, rep_mk _ rfl, fun W' => ?_⟩
        unfold execOp
        rw [ho]
        simp [resolve, hc, e1, e2, invoke, builtin, Builtin.len_, run_underlying hu, hy, goInt]
      · cases h
    · rename_i ts y z hc ha
      have e1 : c.args = #[y, z] := by apply Array.ext'; simpa using ha
      split at h
      · rename_i k i k' j e3 e4
        have hy := rep_rd E y
        rw [e3] at hy
        have hy := rep_one hy
        have hz := rep_rd E z
        rw [e4] at hz
        have hz := rep_one hz
        simp only [Option.some.injEq] at h
        subst h
        refine ⟨_, rep_mk _ rfl, fun W' => ?_⟩
        unfold execOp
        rw [ho]
        simp [resolve, hc, e1, invoke, builtin, Builtin.max_, Builtin.max2, hy, hz]
      · cases h
    · rename_i ts y z hc ha
      have e1 : c.args = #[y, z] := by apply Array.ext'; simpa using ha
      split at h
      · rename_i k i k' j e3 e4
        have hy := rep_rd E y
        rw [e3] at hy
        have hy := rep_one hy
        have hz := rep_rd E z
        rw [e4] at hz
        have hz := rep_one hz
        simp only [Option.some.injEq] at h
        subst h
        refine ⟨_, rep_mk _ rfl, fun W' => ?_⟩
        unfold execOp
        rw [ho]
        simp [resolve, hc, e1, invoke, builtin, Builtin.min_, Builtin.min2, hy, hz]
      · cases h
    · cases h
  · cases h
theorem pureOp_sound {s : S} {a : Act} {o : Oper} {x : T} (hs : ∀ cs b, o.op ≠ .select cs b) (E : ESim W who L s a.tmps) (h : pureOp P s o = some x) :
    ∃ v, RepT W who L s.h x v ∧ ∀ W', (execOp a.eval o).run P W' = .ok (.value v) W' := by
  unfold pureOp at h
  split at h
  · rename_i t hf
    cases h
    exact fastOp_sound E hf
  · exact pureV_sound hs E h

theorem repA_part {h : Hp} {ag : Bool} {xs : List X} {x : T} {v : Value} (H : RepA W who L h ag xs v) (hm : mkT ag xs = some x) : RepT W who L h x v := by
  unfold mkT at hm
  cases ag with
  | true => simp at hm; subst hm; exact H
  | false =>
    simp at hm
    split at hm
    · cases hm; exact H
    · cases hm

theorem extract_rep {h : Hp} : ∀ {sh : List (Bool × Nat)} {xs : List X} {vs : List Value} {i : Nat} {x : T}, RepTup W who L h sh xs vs → extractX sh xs i = some x → ∃ v, vs[i]? = some v ∧ RepT W who L h x v
  | [], xs, vs, i, x, _, h => by simp [extractX] at h
  | (ag, n) :: sh, xs, vs, 0, x, H, h => by
    obtain ⟨v, vs', rfl, hn, hA, _⟩ := H
    simp only [extractX, hn, if_true] at h
    exact ⟨v, rfl, repA_part hA h⟩
  | (ag, n) :: sh, xs, vs, i + 1, x, H, h => by
    obtain ⟨v, vs', rfl, hn, hA, hT⟩ := H
    obtain ⟨u, h1, h2⟩ := extract_rep hT h
    exact ⟨u, h1, h2⟩

/-- Cells laid into an array one behind the other. -/
theorem foldl_set : ∀ (us : List Value) (cells : Array Value) (off k : Nat), off + k + us.length ≤ cells.size →
    ((us.zipIdx k).foldl (fun cs (p : Value × Nat) => cs.setIfInBounds (off + p.2) p.1) cells).toList = cells.toList.take (off + k) ++ us ++ cells.toList.drop (off + k + us.length)
  | [], cells, off, k, h => by simp
  | u :: us, cells, off, k, h => by
    rw [List.zipIdx_cons, List.foldl_cons, foldl_set us _ off (k + 1) (by simp at h ⊢; omega)]
    simp only [Array.toList_setIfInBounds, List.length_cons]
    have hlt : off + k < cells.toList.length := by simp at h ⊢; omega
    have e1 : (cells.toList.set (off + k) u).take (off + (k + 1)) = cells.toList.take (off + k) ++ [u] := by
      rw [show off + (k + 1) = off + k + 1 by omega, List.take_add_one, List.take_set_of_le (Nat.le_refl _), List.getElem?_set_self hlt]; rfl
    have e2 : (cells.toList.set (off + k) u).drop (off + (k + 1) + us.length) = cells.toList.drop (off + k + (us.length + 1)) := by
      rw [List.drop_set_of_lt (by omega)]; congr 1; omega
    rw [e1, e2]
    simp

theorem RepT.cells {h : Hp} {x : T} {v : Value} (H : RepT W who L h x v) (hw : x.whole = true) : RepXs W who L h x.xs v.cells.toList := by
  unfold T.whole at hw
  split at hw
  · cases hw
  · rename_i xs hne
    obtain ⟨y, rfl, hy⟩ := H
    have hj : y ≠ .junk := fun e => hne (by rw [e])
    have h1 := hy.one hj
    have : v.cells = #[v] := by cases v <;> first | rfl | simp [Value.oneCell'] at h1
    rw [this]
    refine ⟨rfl, fun i x u h2 h3 => ?_⟩
    cases i with
    | zero => cases h2; cases h3; exact ⟨hy, h1⟩
    | succ i => simp at h2
  · obtain ⟨us, rfl, hx⟩ := H
    simpa [Value.cells] using hx
  · cases hw

theorem fill_sound {h : Hp} {place : Nat → Option (Nat × Nat)} : ∀ (ps : List (Nat × T)) (vs : List (Nat × Value)) (cells : List X) (us : Array Value) (ys : List X), RepXs W who L h cells us.toList →
    ps.length = vs.length → (∀ (i : Nat) p q, ps[i]? = some p → vs[i]? = some q → p.1 = q.1 ∧ RepXs W who L h p.2.xs q.2.cells.toList) → fillX place cells ps = some ys →
    ∃ us', Instr.fill place us vs = some us' ∧ RepXs W who L h ys us'.toList
  | [], [], cells, us, ys, H, _, _, hf => by
    simp only [fillX, Option.some.injEq] at hf
    subst hf
    exact ⟨us, rfl, H⟩
  | (i, x) :: ps, (j, v) :: vs, cells, us, ys, H, hl, hp, hf => by
    obtain ⟨hij, hx⟩ := hp 0 _ _ rfl rfl
    simp only at hij hx
    subst hij
    simp only [fillX] at hf
    cases hpl : place i with
    | none => simp [hpl] at hf
    | some p =>
      simp only [hpl, Option.bind_some] at hf
      split at hf
      · rename_i hc
        have hus := H.1
        have hxl := hx.1
        simp only [Instr.fill, hpl]
        rw [if_neg (by simp at hus hxl; simp; omega)]
        refine fill_sound ps vs _ _ ys ?_ (by simpa using hl) (fun k p q h1 h2 => hp (k + 1) p q h1 h2) hf
        have := foldl_set v.cells.toList us p.1 0 (by simp at hus hxl ⊢; omega)
        have e : (v.cells.zipIdx.foldl (fun cs x => cs.setIfInBounds (p.1 + x.2) x.1) us) = (v.cells.toList.zipIdx 0).foldl (fun cs (q : Value × Nat) => cs.setIfInBounds (p.1 + q.2) q.1) us := by
          rw [← Array.foldl_toList]; simp
        rw [e, this, Nat.add_zero]
        have hl2 : v.cells.toList.length = p.2 := by simp at hxl ⊢; omega
        rw [hl2]
        exact ((H.take p.1).append hx).append (H.drop (p.1 + p.2))
      · cases hf
  | [], _ :: _, _, _, _, _, hl, _, _ => by simp at hl
  | _ :: _, [], _, _, _, _, hl, _, _ => by simp at hl

theorem run_zero {t : TypeId} {z : List X} (h : zeroX P t = some z) : ∃ v, (∀ W', (zeroValue t).run P W' = .ok v W') ∧ ∀ hp : Hp, RepXs W who L hp z v.cells.toList := by
  unfold zeroX at h
  cases hi : P.info? t with
  | none => simp [hi] at h
  | some i =>
    cases hz : i.zero with
    | none => simp [hi, hz] at h
    | some v =>
      simp only [hi, hz, Option.bind_some] at h
      split at h
      · rename_i hw
        simp only [Option.some.injEq] at h
        subst h
        exact ⟨v, fun W' => by simp [zeroValue, typeInfo, hi, hz], fun hp => (rep_ofVal v).cells hw⟩
      · cases h
theorem run_mapM {α β : Type} {f : α → Sem β} {g : α → β} {W' : World} : ∀ (l : List α), (∀ x ∈ l, (f x).run P W' = .ok (g x) W') → (l.mapM f).run P W' = .ok (l.map g) W'
  | [], _ => by simp
  | x :: l, h => by
    rw [List.mapM_cons]
    simp [h x (by simp), run_mapM l (fun y hy => h y (by simp [hy]))]

theorem build_sound {s : S} {a : Act} {t : TypeId} {parts : Array (Nat × Operand)} {ys : List X} {z : List X} (E : ESim W who L s a.tmps) (hw : parts.toList.all (fun p => (s.rd p.2).whole) = true) (hz : zeroX P t = some z)
    (hf : fillX (placeT P t) z (parts.toList.map fun p => (p.1, s.rd p.2)) = some ys)
    (ht : (∃ fs, P.underlying t = some (.struct fs) ∧ fs.toList.all (fun f => (szT P f.type).isSome) = true) ∨ ∃ n e, P.underlying t = some (.array n e) ∧ (szT P e).isNone = false) :
    ∃ v, RepT W who L s.h ⟨.agg, ys⟩ v ∧ ∀ W', (Instr.build t (parts.map fun (i, x) => (i, a.eval x))).run P W' = .ok v W' := by
  obtain ⟨v, hv, hrep⟩ := run_zero (W := W) (who := who) (L := L) hz
  have hfs := fill_sound (place := placeT P t) (W := W) (who := who) (L := L) (h := s.h) (parts.toList.map fun p => (p.1, s.rd p.2)) (parts.toList.map fun p => (p.1, a.eval p.2)) z v.cells ys (hrep s.h) (by simp) (fun i p q h1 h2 => by
    rw [List.getElem?_map] at h1 h2
    cases hp : parts.toList[i]? with
    | none => simp [hp] at h1
    | some r =>
      simp only [hp, Option.map_some, Option.some.injEq] at h1 h2
      subst h1
      subst h2
      exact ⟨rfl, (rep_rd E r.2).cells (List.all_eq_true.1 hw r (List.mem_of_getElem? hp))⟩) hf
  obtain ⟨us', h1, h2⟩ := hfs
  refine ⟨.agg us', ⟨us'.toList, by simp, h2⟩, fun W' => ?_⟩
  have e : (parts.map fun (i, x) => (i, a.eval x)).toList = parts.toList.map fun p => (p.1, a.eval p.2) := by simp
  unfold Instr.build
  simp only [Sem.run_bind, hv, Result.andThen_ok]
  rcases ht with ⟨fs, hu, hall⟩ | ⟨n, el, hu, hel⟩
  · rw [run_underlying hu]
    simp only [Result.andThen_ok]
    have hm : (fs.mapM fun (f : Field) => (do pure (f.offset, ← sizeOf f.type) : Sem (Nat × Nat))).run P W' = .ok (fs.map fun (f : Field) => (f.offset, (szT P f.type).getD 0)) W' := by
      rw [Array.mapM_eq_mapM_toList]
      rw [Sem.run_map, run_mapM (g := fun (f : Field) => (f.offset, (szT P f.type).getD 0)) fs.toList ?_]
      · simp only [Result.andThen_ok]; congr 1; exact Array.ext' (by simp)
      · intro f hmem
        have := List.all_eq_true.1 hall f hmem
        obtain ⟨n, hn⟩ := Option.isSome_iff_exists.1 this
        simp [run_size hn, hn]
    rw [Sem.run_bind, hm]
    simp only [Result.andThen_ok]
    have hp : (fun i => (fs.map fun (f : Field) => (f.offset, (szT P f.type).getD 0))[i]?) = placeT P t := by
      funext i
      simp only [placeT, hu, Array.getElem?_map]
      cases hi : fs[i]? with
      | none => rfl
      | some f =>
        have := List.all_eq_true.1 hall f (List.mem_of_getElem? (by rw [Array.getElem?_toList]; exact hi))
        obtain ⟨n, hn⟩ := Option.isSome_iff_exists.1 this
        simp [hn]
    rw [hp, e, h1]
    rfl
  · rw [run_underlying hu]
    simp only [Result.andThen_ok, Sem.run_bind]
    obtain ⟨n2, hn2⟩ | hnone : (∃ n2, szT P el = some n2) ∨ szT P el = none := by cases szT P el <;> simp
    · simp only [run_size hn2, Result.andThen_ok]
      have hp : (fun i => some (i * n2, n2)) = placeT P t := by
        funext i
        simp [placeT, hu, hn2]
      rw [hp, e, h1]
      rfl
    · simp [hnone] at hel

theorem fldT_some {t : TypeId} {f : Nat} {p : Nat × TypeId} (h : fldT P t f = some p) : ∃ fs fd, P.underlying t = some (.struct fs) ∧ fs[f]? = some fd ∧ p = (fd.offset, fd.type) := by
  unfold fldT at h
  split at h
  · rename_i fs hu
    cases hf : fs[f]? with
    | none => simp [hf] at h
    | some fd => simp [hf] at h; exact ⟨fs, fd, hu, hf, h.symm⟩
  · cases h
theorem optInt_some {s : S} {a : Act} (E : ESim W who L s a.tmps) {o : Option Operand} {l : Option Int} (h : optInt s o = some l) : ∃ k : IntKind, o.map a.eval = l.map (Value.int k) := by
  cases o with
  | none => cases h; exact ⟨.i64, rfl⟩
  | some o =>
    simp only [optInt] at h
    cases hi : s.int o with
    | none => simp [hi] at h
    | some p => simp [hi] at h; subst h; exact ⟨p.1, by simp [rep_int E hi]⟩

theorem equal_ptr_nil {t e : TypeId} {b : Addr} {W' : World} (hu : P.underlying t = some (.pointer e)) : (Op.equal t (.pointer (some b)) (.pointer none)).run P W' = .ok false W' := by
  have key : ∀ d, (Op.equalIn (d + 1) t (.pointer (some b)) (.pointer none)).run P W' = .ok false W' := fun d => by
    simp only [Op.equalIn, Sem.run_bind, run_underlying hu, Result.andThen_ok, Sem.run_pure]
  exact key 9999
theorem opR_sound {s : S} {a : Act} {o : Oper} {x : T} (H : HSim W who L s.h) (E : ESim W who L s a.tmps) (h : opR P s o = some x) :
    ∃ v, RepT W who L s.h x v ∧ ∀ W', Same W who L (deps s o) W' → (execOp a.eval o).run P W' = .ok (.value v) W' := by
  have pure_case : ∀ {y : T}, (∀ cs b, o.op ≠ .select cs b) → pureOp P s o = some y → ∃ v, RepT W who L s.h y v ∧ ∀ W', Same W who L (deps s o) W' → (execOp a.eval o).run P W' = .ok (.value v) W' := fun hs hy => by
    obtain ⟨v, h1, h2⟩ := pureOp_sound hs E hy
    exact ⟨v, h1, fun W' _ => h2 W'⟩
  unfold opR at h
  split at h
  · rename_i y ho
    cases h
    exact ⟨_, rep_rd E y, fun W' _ => by unfold execOp; rw [ho]; rfl⟩
  · rename_i y ho
    cases h
    exact ⟨_, rep_rd E y, fun W' _ => by unfold execOp; rw [ho]; rfl⟩
  · rename_i c y z ho
    cases hc : s.bool c with
    | none => simp [hc] at h
    | some t =>
      simp only [hc, Option.map_some, Option.some.injEq] at h
      subst h
      have hb := rep_bool E hc
      cases t with
      | true => exact ⟨_, rep_rd E y, fun W' _ => by unfold execOp; rw [ho]; simp [hb, asBool]⟩
      | false => exact ⟨_, rep_rd E z, fun W' _ => by unfold execOp; rw [ho]; simp [hb, asBool]⟩
  · rename_i y ho
    have fin : ∀ {x1 : X}, s.x1 y = some x1 → ((∃ b o, a.eval y = ptrV b o) ∨ ∃ bd f us, a.eval y = cloV bd f us) → ∃ v, RepT W who L s.h ⟨.one, [x1]⟩ v ∧ ∀ W', Same W who L (deps s o) W' → (execOp a.eval o).run P W' = .ok (.value v) W' := fun {x1} hy hv => by
      refine ⟨a.eval y, ⟨_, rfl, rep_x1 E hy⟩, fun W' _ => ?_⟩
      unfold execOp
      rw [ho]
      rcases hv with ⟨b, o, hv⟩ | ⟨bd, f, us, hv⟩
      · simp only [hv, ptrV]; rfl
      · cases bd <;> (simp only [hv, cloV]; rfl)
    split at h <;> cases h
    · rename_i hy
      obtain ⟨_, hv⟩ := rep_x1 E hy
      exact fin hy (.inl ⟨_, _, hv⟩)
    · rename_i hy
      obtain ⟨_, _, _, hv, _⟩ := rep_x1 E hy
      exact fin hy (.inl ⟨_, _, hv⟩)
    · rename_i hy
      obtain ⟨_, _, _, hv, _⟩ := rep_x1 E hy
      exact fin hy (.inl ⟨_, _, hv⟩)
    · rename_i hy
      obtain ⟨_, hv⟩ := rep_x1 E hy
      exact fin hy (.inr ⟨_, _, _, hv⟩)
  · rename_i t y ho
    cases hy : s.x1 y with
    | none => simp [hy] at h
    | some x1 =>
      simp only [hy, Option.bind_some] at h
      obtain ⟨u, h1, h2⟩ := load_sound H (rep_x1 E hy) h
      refine ⟨u, h1, fun W' hs => ?_⟩
      unfold execOp
      rw [ho]
      simp only [Sem.run_bind]
      rw [h2 W' (by simpa [deps, ho, hy] using hs)]
      rfl
  · rename_i t y f ho
    cases hf : fldT P t f with
    | none => simp [hf] at h
    | some p =>
      simp only [hf, Option.bind_some] at h
      cases hz : szT P p.2 with
      | none => simp [hz] at h
      | some n =>
        simp only [hz, Option.bind_some] at h
        split at h
        · cases h
        · rename_i hn
          cases hy : s.x1 y with
          | none => simp [hy] at h
          | some x1 =>
            simp only [hy, Option.bind_some] at h
            cases ha : addOff x1 p.1 with
            | none => simp [ha] at h
            | some y1 =>
              simp only [ha, Option.map_some, Option.some.injEq] at h
              subst h
              obtain ⟨b, off, hv, hr⟩ := addOff_rep (rep_x1 E hy) ha
              obtain ⟨fs, fd, hu, hfd, rfl⟩ := fldT_some hf
              refine ⟨_, ⟨_, rfl, hr⟩, fun W' _ => ?_⟩
              unfold execOp
              rw [ho]
              simp [Instr.fieldAt, run_underlying hu, hfd, hv, ptrV, Instr.sureAddr, fieldPlace, run_size hz, hn, add_mid]
  · rename_i t y f ho
    cases hf : fldT P t f with
    | none => simp [hf] at h
    | some p =>
      simp only [hf, Option.bind_some] at h
      split at h
      · rename_i xs hy
        have hr := rep_rd E y
        rw [hy] at hr
        obtain ⟨us, hv, hx⟩ := hr
        obtain ⟨fs, fd, hu, hfd, rfl⟩ := fldT_some hf
        obtain ⟨u, h1, h2, _⟩ := part_rep hx h
        refine ⟨u, h1, fun W' _ => ?_⟩
        unfold execOp
        rw [ho]
        simp only [Instr.field, Sem.run_bind, run_underlying hu, Result.andThen_ok, hfd, hv, asAgg, Sem.run_pure]
        rw [h2]
        rfl
      · cases h
  · rename_i t y i ho
    cases hi : s.int i with
    | none => simp [hi] at h
    | some p =>
      simp only [hi, Option.bind_some] at h
      cases hy : s.x1 y with
      | none => simp [hy] at h
      | some x1 =>
        simp only [hy, Option.bind_some] at h
        cases ha : indexAddrX P s.h t x1 p.2 with
        | none => simp [ha] at h
        | some y1 =>
          simp only [ha, Option.map_some, Option.some.injEq] at h
          subst h
          obtain ⟨u, h1, h2⟩ := indexAddr_sound (k := p.1) H (rep_x1 E hy) ha
          refine ⟨u, ⟨_, rfl, h1⟩, fun W' _ => ?_⟩
          unfold execOp
          rw [ho]
          simp only [Sem.run_bind, rep_int E hi, h2]
          rfl
  · rename_i y i ho
    split at h
    · rename_i sh xs hy
      have hr := rep_rd E y
      rw [hy] at hr
      obtain ⟨vs, hv, ht⟩ := hr
      obtain ⟨u, h1, h2⟩ := extract_rep ht h
      refine ⟨u, h2, fun W' _ => ?_⟩
      unfold execOp
      rw [ho]
      simp [hv, Instr.extract, h1]
    · cases h
  · rename_i t parts ho
    have fin : ∀ (ht : (∃ fs, P.underlying t = some (.struct fs) ∧ fs.toList.all (fun f => (szT P f.type).isSome) = true) ∨ ∃ n e, P.underlying t = some (.array n e) ∧ (szT P e).isNone = false)
        (h : (if parts.toList.all (fun p => (s.rd p.2).whole) then (zeroX P t).bind fun z => (fillX (placeT P t) z (parts.toList.map fun p => (p.1, s.rd p.2))).map fun xs => (⟨.agg, xs⟩ : T) else none) = some x),
        ∃ v, RepT W who L s.h x v ∧ ∀ W', Same W who L (deps s o) W' → (execOp a.eval o).run P W' = .ok (.value v) W' := fun ht h => by
      split at h
      · rename_i hw
        cases hz : zeroX P t with
        | none => simp [hz] at h
        | some z =>
          simp only [hz, Option.bind_some] at h
          cases hf : fillX (placeT P t) z (parts.toList.map fun p => (p.1, s.rd p.2)) with
          | none => simp [hf] at h
          | some ys =>
            simp only [hf, Option.map_some, Option.some.injEq] at h
            subst h
            obtain ⟨v, h1, h2⟩ := build_sound E hw hz hf ht
            refine ⟨v, h1, fun W' _ => ?_⟩
            unfold execOp
            rw [ho]
            simp only [Sem.run_bind]
            rw [h2 W']
            rfl
      · cases h
    split at h
    · rename_i fs hu
      split at h
      · cases h
      · rename_i hall
        exact fin (.inl ⟨fs, hu, by simpa only [Bool.not_eq_true', Bool.not_eq_false] using hall⟩) h
    · rename_i n e hu
      split at h
      · cases h
      · rename_i hall
        exact fin (.inr ⟨n, e, hu, by simpa only [Bool.not_eq_true] using hall⟩) h
    · cases h
  · rename_i t y lo hi ho
    split at h
    · rename_i e he
      cases hy : s.x1 y with
      | none => simp [hy] at h
      | some x1 =>
        cases hlo : optInt s lo with
        | none => simp [hy, hlo] at h
        | some l =>
          cases hhi : optInt s hi with
          | none => simp [hy, hlo, hhi] at h
          | some u =>
            cases hv : s.h.view x1 with
            | none => simp [hy, hlo, hhi, hv] at h
            | some p =>
              simp only [hy, hlo, hhi, hv, Option.bind_some] at h
              cases hz : szT P e with
              | none => simp [hz] at h
              | some sz =>
                simp only [hz, Option.any_some] at h
                split at h
                · rename_i hok
                  cases hs : sliceX s.h x1 l u with
                  | none => simp [hs] at h
                  | some y1 =>
                    simp only [hs, Option.map_some, Option.some.injEq] at h
                    subst h
                    obtain ⟨kl, el⟩ := optInt_some E hlo
                    obtain ⟨ku, eu⟩ := optInt_some E hhi
                    have hu : P.underlying t = some (.slice e) := by
                      unfold elemT at he
                      split at he
                      · cases he; assumption
                      · cases he
                    obtain ⟨v', h1, h2⟩ := slice_sound (kl := kl) (ku := ku) H hu hz (rep_x1 E hy) hv hok hs
                    refine ⟨v', ⟨_, rfl, h1⟩, fun W' _ => ?_⟩
                    unfold execOp
                    rw [ho]
                    simp only [Sem.run_bind, el, eu, Option.map_none]
                    rw [h2 W']
                    rfl
                · cases h
    · exact pure_case (fun cs b e => by rw [ho] at e; cases e) h
  · rename_i src dst y ho
    split at h
    · rename_i e hsrc hdst
      split at h
      · rename_i he
        cases hy : s.x1 y with
        | none => simp [hy] at h
        | some x1 =>
          simp only [hy, Option.bind_some] at h
          cases hv : s.h.view x1 with
          | none => simp [hv] at h
          | some p =>
            simp only [hv, Option.bind_some] at h
            cases hb : bytesOf p.2 with
            | none => simp [hb] at h
            | some bs =>
              simp only [hb, Option.map_some, Option.some.injEq] at h
              subst h
              refine ⟨.string ⟨bs.toArray⟩, ⟨_, rfl, .v _ rfl⟩, fun W' hs => ?_⟩
              unfold execOp
              rw [ho]
              simp only [Sem.run_bind]
              rw [bytes_sound H (rep_x1 E hy) hv hb hsrc he hdst W' (by simpa [deps, ho, hy] using hs)]
              rfl
      · cases h
    · exact pure_case (fun cs b e => by rw [ho] at e; cases e) h
  · rename_i c ho
    split at h
    · rename_i hc
      split at h
      · rename_i y t hargs htys
        have e1 : c.args = #[y] := by apply Array.ext'; simpa using hargs
        have e2 : c.argTypes = #[t] := by apply Array.ext'; simpa using htys
        split at h
        · rename_i e hu
          cases hy : s.x1 y with
          | none => simp [hy] at h
          | some x1 =>
            simp only [hy, Option.bind_some] at h
            cases hv : s.h.view x1 with
            | none => simp [hv] at h
            | some p =>
              simp only [hv, Option.map_some, Option.some.injEq] at h
              subst h
              obtain ⟨sz, _, hrd, _⟩ := view_rep H (rep_x1 E hy) hv
              obtain ⟨ao, cap, us, he, _⟩ := hrd.ex
              refine ⟨.int .i64 p.2.length, ⟨_, rfl, .v _ rfl⟩, fun W' _ => ?_⟩
              unfold execOp
              rw [ho]
              simp [resolve, hc, e1, e2, invoke, builtin, Builtin.len_, run_underlying hu, he, goInt]
        · exact pure_case (fun cs b e => by rw [ho] at e; cases e) h
      · cases h
    · exact pure_case (fun cs b e => by rw [ho] at e; cases e) h
    · exact pure_case (fun cs b e => by rw [ho] at e; cases e) h
    · cases h
  · rename_i fn first caps ho
    have key : ∀ (cs : List Operand) (ks : List Nat), cs.mapM s.capBox = some ks → (∀ k ∈ ks, k < s.h.bx.length) ∧ cs.map a.eval = ks.map fun k => ptrV (L.box k) 0 := by
      intro cs
      induction cs with
      | nil => intro ks h; simp at h; subst h; simp
      | cons c cs ih =>
        intro ks h
        rw [List.mapM_cons] at h
        cases hc : s.capBox c with
        | none => simp [hc] at h
        | some k =>
            cases hcs : cs.mapM s.capBox with
            | none => simp [hcs] at h
            | some ks' =>
              simp [hc, hcs] at h
              subst h
              obtain ⟨h1, h2⟩ := ih ks' hcs
              have hc2 : s.x1 c = some (.ptr k 0) := by
                unfold S.capBox at hc
                split at hc
                · cases hc; assumption
                · cases hc
              obtain ⟨h3, h4⟩ := rep_x1 E hc2
              refine ⟨fun k' hk' => ?_, by simp [h4, h2]⟩
              rcases List.mem_cons.1 hk' with rfl | hk'
              · exact h3
              · exact h1 k' hk'
    split at h
    · rename_i f hfirst
      have e1 : first = #[] := by apply Array.ext'; simpa using hfirst
      subst e1
      cases hm : caps.toList.mapM s.capBox with
      | none => simp [hm] at h
      | some ks =>
        simp only [hm, Option.map_some, Option.some.injEq] at h
        subst h
        obtain ⟨h1, h2⟩ := key _ _ hm
        refine ⟨_, ⟨_, rfl, h1, rfl⟩, fun W' _ => ?_⟩
        unfold execOp
        rw [ho]
        have h3 : caps.map a.eval = (ks.map fun k => ptrV (L.box k) 0).toArray := by apply Array.ext'; simpa using h2
        simp [Instr.makeFunc, h3, cloV]
    · rename_i f fs hne hfirst
      split at h
      case isFalse => cases h
      rename_i hcaps
      have e1 : caps = #[] := by apply Array.ext'; simpa using hcaps
      subst e1
      cases hm : first.toList.mapM s.capBox with
      | none => simp [hm] at h
      | some ks =>
        simp only [hm, Option.map_some, Option.some.injEq] at h
        subst h
        obtain ⟨h1, h2⟩ := key _ _ hm
        refine ⟨_, ⟨_, rfl, h1, rfl⟩, fun W' _ => ?_⟩
        unfold execOp
        rw [ho]
        have h3 : first.map a.eval = (ks.map fun k => ptrV (L.box k) 0).toArray := by apply Array.ext'; simpa using h2
        simp [Instr.makeFunc, h3, cloV]
    · cases h
  · rename_i t y i ho
    split at h
    · rename_i len e xs hu hy
      cases hi : s.int i with
      | none => simp [hi] at h
      | some p =>
      cases hz : szT P e with
      | none => simp [hi, hz] at h
      | some sz =>
      simp only [hi, hz, Option.bind_some] at h
      split at h
      case isFalse => cases h
      rename_i hc
      have hr := rep_rd E y
      rw [hy] at hr
      obtain ⟨us, hv, hx⟩ := hr
      obtain ⟨u, h1, h2, _⟩ := part_rep hx h
      refine ⟨u, h1, fun W' _ => ?_⟩
      unfold execOp
      rw [ho]
      simp only [Instr.index, asIntOf, Sem.run_bind, rep_int E hi, run_underlying hu, Result.andThen_ok, hv, Sem.run_pure, hc.1, hc.2, and_self, if_true, run_size hz]
      rw [h2]
      rfl
    · exact pure_case (fun cs b e => by rw [ho] at e; cases e) h
  · rename_i op t x y t2 ho
    have hx := rep_rd E x
    have hy := rep_rd E y
    split at h
    · rename_i kb ko e1 e2
      rw [e1] at hx
      rw [e2] at hy
      have hx' : ∃ b, a.eval x = .pointer (some b) := by
        generalize a.eval x = u at *
        obtain ⟨x', e, h1⟩ := hx
        cases e; obtain ⟨_, rfl⟩ := h1; exact ⟨_, rfl⟩
      have hy' : a.eval y = .pointer none := by
        generalize a.eval y = u at *
        obtain ⟨x', e, h1⟩ := hy
        cases e; cases h1; rfl
      obtain ⟨b, hx'⟩ := hx'
      split at h
      · rename_i pt hu
        simp only [Option.some.injEq] at h
        subst h
        refine ⟨_, ⟨_, rfl, .v _ rfl⟩, fun W' _ => ?_⟩
        unfold execOp
        rw [ho]
        simp only [Sem.run_bind, hx', hy', eqGuard, binOp, equal_ptr_nil hu, Result.andThen_ok, Sem.run_pure]
        rfl
      · rename_i pt hu
        simp only [Option.some.injEq] at h
        subst h
        refine ⟨_, ⟨_, rfl, .v _ rfl⟩, fun W' _ => ?_⟩
        unfold execOp
        rw [ho]
        simp only [Sem.run_bind, hx', hy', eqGuard, binOp, equal_ptr_nil hu, Result.andThen_ok, Sem.run_pure]
        rfl
      · cases h
    · rename_i k i k' j e1 e2
      rw [e1] at hx
      rw [e2] at hy
      split at h
      · rename_i v hv
        simp only [Option.some.injEq] at h
        subst h
        have hx' : a.eval x = .int k i := by
          generalize a.eval x = u at *
          obtain ⟨x', e, h1⟩ := hx
          cases e; cases h1; rfl
        have hy' : a.eval y = .int k' j := by
          generalize a.eval y = u at *
          obtain ⟨x', e, h1⟩ := hy
          cases e; cases h1; rfl
        have hsc : scalar v = true ∧ ∀ W', (execOp a.eval o).run P W' = .ok (.value v) W' := by
          split at hv
          · rename_i hk
            subst hk
            have hg : ∀ W', (eqGuard op t x y (.int k i) (.int k j)).run P W' = .ok () W' := fun W' => by
              unfold eqGuard
              cases op <;> simp
            cases op <;> simp only [intBin, Option.some.injEq] at hv <;> first
              | (subst hv
                 refine ⟨rfl, fun W' => ?_⟩
                 unfold execOp
                 rw [ho]
                 simp only [Sem.run_bind, hx', hy', hg, Result.andThen_ok, binOp, ne_eq, not_true_eq_false, if_false, Op.intArith, Op.intCmp, Sem.run_pure])
              | cases hv
          · cases hv
        exact ⟨v, ⟨_, rfl, .v v hsc.1⟩, fun W' _ => hsc.2 W'⟩
      · exact pure_case (fun cs b e => by rw [ho] at e; cases e) h
    · rename_i s1 s2 e1 e2
      rw [e1] at hx
      rw [e2] at hy
      have hx' : a.eval x = .string s1 := by
        generalize a.eval x = u at *
        obtain ⟨x', e, h1⟩ := hx
        cases e; cases h1; rfl
      have hy' : a.eval y = .string s2 := by
        generalize a.eval y = u at *
        obtain ⟨x', e, h1⟩ := hy
        cases e; cases h1; rfl
      have hg : ∀ W', (eqGuard op t x y (.string s1) (.string s2)).run P W' = .ok () W' := fun W' => by
        unfold eqGuard
        cases op <;> simp
      split at h
      · simp only [Option.some.injEq] at h
        subst h
        refine ⟨_, ⟨_, rfl, .v _ rfl⟩, fun W' _ => ?_⟩
        unfold execOp
        rw [ho]
        simp only [Sem.run_bind, hx', hy', hg, Result.andThen_ok, binOp, Op.stringOp, Sem.run_pure]
      · simp only [Option.some.injEq] at h
        subst h
        refine ⟨_, ⟨_, rfl, .v _ rfl⟩, fun W' _ => ?_⟩
        unfold execOp
        rw [ho]
        simp only [Sem.run_bind, hx', hy', hg, Result.andThen_ok, binOp, Op.stringOp, Sem.run_pure]
      · split at h
        case isFalse => cases h
        rename_i hle
        simp only [Option.some.injEq] at h
        subst h
        refine ⟨_, ⟨_, rfl, .v _ rfl⟩, fun W' _ => ?_⟩
        unfold execOp
        rw [ho]
        simp only [Sem.run_bind, hx', hy', hg, Result.andThen_ok, binOp, run_string_add_sum W' s1 s2 (by omega), Sem.run_pure]
      · exact pure_case (fun cs b e => by rw [ho] at e; cases e) h
    · exact pure_case (fun cs b e => by rw [ho] at e; cases e) h
  · rename_i op t x ho
    split at h
    · rename_i b e1
      have hx := rep_rd E x
      rw [e1] at hx
      simp only [Option.some.injEq] at h
      subst h
      have hx' : a.eval x = .bool b := by
        generalize a.eval x = u at *
        obtain ⟨x', e, h1⟩ := hx
        cases e; cases h1; rfl
      refine ⟨_, ⟨_, rfl, .v _ rfl⟩, fun W' _ => ?_⟩
      unfold execOp
      rw [ho]
      simp only [Sem.run_bind, hx', Op.unary, Sem.run_pure, Result.andThen_ok]
    · exact pure_case (fun cs b e => by rw [ho] at e; cases e) h
  · cases h
end
end Go.Proofs.YtkdnbnkbnegckaaGreatDoor
