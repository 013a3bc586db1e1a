/- The second machine's regions, in the first machine's terms. -/
import Derived.Test.YtkdnbnkbnegckaaGreatDoorEvI
namespace Go.Proofs.YtkdnbnkbnegckaaGreatDoor
open Go.RowKit

section
variable {P : Program} {W W' : World} {who who' : Nat → Who} {L L' : Lay} {h h' : Hp} {K : CallFn} {A : Ann} {ops : Array Oper}

theorem ESim.put {s : S} {a : Act} {d : Option Tmp} {x : T} {v : Value} (E : ESim W who L s a.tmps) (hx : RepT W who L s.h x v) : ESim W who L (s.put d x) (a.put d v).tmps := by
  cases d with
  | none => exact E
  | some d =>
    refine ⟨by simp [Act.put, S.put, E.1], fun t y hy => ?_⟩
    simp only [S.put] at hy
    by_cases e : d = t
    · subst e
      have hl : d < s.env.length := by have := (List.getElem?_eq_some_iff.1 hy).1; simpa using this
      rw [List.getElem?_set_self hl] at hy
      cases hy
      have hl2 : d < a.tmps.size := by rw [E.1]; exact hl
      simp only [Act.put, Array.getD_eq_getD_getElem?]
      rw [Array.getElem?_setIfInBounds_self_of_lt hl2]
      exact hx
    · rw [List.getElem?_set_ne e] at hy
      have := E.2 t y hy
      simp only [Act.put, Array.getD_eq_getD_getElem?] at this ⊢
      rw [Array.getElem?_setIfInBounds_ne e]
      exact this
theorem put_h (s : S) (d : Option Tmp) (x : T) : (s.put d x).h = s.h := by cases d <;> rfl
theorem put_defers (a : Act) (d : Option Tmp) (v : Value) : (a.put d v).defers = a.defers := by cases d <;> rfl

theorem guard_sound {s : S} {a : Act} {o : Oper} {t : Bool} (E : ESim W who L s a.tmps) (hg : guardX ops s o = some t) : Region.wanted o (yielded ops a.tmps) = t := by
  unfold guardX at hg
  unfold Region.wanted
  split at hg
  · rename_i h0; cases hg; simp [h0]
  · rename_i j want h0
    rw [h0]
    simp only
    split at hg
    · rename_i hd
      cases hg
      simp [yielded, hd]
    · rename_i d hd
      have hq : ∀ x, s.env[d]? = some x → RepT W who L s.h x (a.tmps.getD d undef) ∧ d < a.tmps.size := fun x hx => ⟨E.2 d x hx, by rw [E.1]; exact (List.getElem?_eq_some_iff.1 hx).1⟩
      have hy : ∀ hlt : d < a.tmps.size, yielded ops a.tmps j = match a.tmps.getD d undef with | .bool b => some b | _ => none := fun hlt => by
        unfold yielded
        simp only [hd, Option.bind_some, Array.getElem?_eq_getElem hlt, Array.getD_eq_getD_getElem?, Option.getD_some]
        cases a.tmps[d] <;> rfl
      split at hg
      · rename_i b hb
        obtain ⟨h1, h2⟩ := hq _ hb
        simp only [Option.some.injEq] at hg
        rw [hy h2]
        generalize a.tmps.getD d undef = u at *
        obtain ⟨x, e, hx⟩ := h1
        cases e; cases hx
        rw [← hg]
        cases b <;> cases want <;> rfl
      · rename_i hb
        obtain ⟨h1, h2⟩ := hq _ hb
        simp only [Option.some.injEq] at hg
        rw [hy h2]
        generalize a.tmps.getD d undef = u at *
        obtain ⟨vs, e, h3, h4⟩ := h1
        subst h4
        subst e
        rw [← hg]
        rfl
      · cases hg

theorem undef_rep : RepT W who L h undefT undef := ⟨[], rfl, rfl, rfl⟩

/-- What a region is to come to. -/
def Then (W : World) (who : Nat → Who) (L : Lay) (h : Hp) (s' : S) (df : List Deferred) (N : Act → World → Prop) : Prop :=
  ∀ a' W' who' L', HSim W' who' L' s'.h → ESim W' who' L' s' a'.tmps → Step .all W who L h W' who' L' s'.h → a'.defers = df → N a' W'

theorem evOps_sound (hK : KOk P K) {Q : Exit → Act → World → Prop} : ∀ (is : List Nat) (os : List Oper) {s s' : S} {a : Act} {W : World} {who : Nat → Who} {L : Lay}, is.map (fun i => ops[i]?) = os.map some → HSim W who L s.h → ESim W who L s a.tmps →
    evOps K P A ops os s = some s' → Then W who L s.h s' a.defers (Q .normal) → wpOps P ops Q is a W
  | [], [], s, s', a, W, who, L, _, H, E, he, hT => by
    simp only [evOps, Option.some.injEq] at he
    subst he
    exact hT a W who L H E (Step.rf _ _ _ _) rfl
  | i :: is, o :: os, s, s', a, W, who, L, hi, H, E, he, hT => by
    simp only [List.map_cons, List.cons.injEq] at hi
    simp only [wpOps, hi.1]
    simp only [evOps] at he
    cases hg : guardX ops s o with
    | none => simp [hg] at he
    | some t =>
      have hw := guard_sound E hg
      cases t with
      | true =>
        simp only [hg] at he
        cases hv : evOp K P A s o with
        | none => simp [hv] at he
        | some r =>
          simp only [hv, Option.bind_some] at he
          rw [if_pos hw]
          refine .inl (evOp_sound hK H E hv _ _ fun v W' who' L' h1 h2 h3 => ?_)
          refine evOps_sound hK is os hi.2 (by rw [put_h]; exact h2) (ESim.put (s := ⟨s.env, r.2⟩) (h3.env E) h1) he ?_
          intro a' W2 who2 L2 h4 h5 h6 h7
          rw [put_h] at h6
          exact hT a' W2 who2 L2 h4 h5 ((Step.top h3).tr h6) (h7.trans (put_defers _ _ _))
      | false =>
        simp only [hg] at he
        rw [if_neg (by rw [hw]; simp)]
        refine evOps_sound hK is os hi.2 (by rw [put_h]; exact H) (E.put undef_rep) he ?_
        intro a' W2 who2 L2 h4 h5 h6 h7
        rw [put_h] at h6
        exact hT a' W2 who2 L2 h4 h5 h6 (h7.trans (put_defers _ _ _))
  | [], o :: os, s, s', a, W, who, L, hi, _, _, _, _ => by simp at hi
  | i :: is, [], s, s', a, W, who, L, hi, _, _, _, _ => by simp at hi

theorem range_ops (ops : Array Oper) : (List.range ops.size).map (fun i => ops[i]?) = ops.toList.map some := by
  apply List.ext_getElem?
  intro i
  simp only [List.getElem?_map, List.getElem?_range]
  by_cases h : i < ops.size
  · simp [h]
  · simp [h]

/-! Regions that draw -/
def after (md : Region.Mode) (ops : Array Oper) (j i : Nat) : Prop := ∃ o, ops[j]? = some o ∧ ∃ e ∈ o.after, Region.binds md e = true ∧ e.on = i
theorem afterB_iff {j i : Nat} : afterB ops j i = true ↔ after .any ops j i := by
  unfold afterB after
  cases h : ops[j]? with
  | none => simp
  | some o =>
    simp only [Option.any_some, Option.some.injEq, Array.any_eq_true', Bool.and_eq_true, beq_iff_eq]
    exact ⟨fun ⟨e, h1, h2⟩ => ⟨o, rfl, e, h1, h2⟩, fun ⟨o', h0, e, h1, h2⟩ => ⟨e, by rw [h0]; exact h1, h2⟩⟩

abbrev Pend := List (Nat × (World → Prop))
/-- Whatever order is picked; what is pending holds behind each operation that does not wait for it. -/
def wpP (P : Program) (ops : Array Oper) (Q : Exit → Act → World → Prop) : Nat → Pend → Array Bool → Act → World → Prop
  | 0, _, listed, a, w => Region.ready .any ops listed = [] ∧ Q .normal a w
  | fuel + 1, pend, listed, a, w =>
    (Region.ready .any ops listed = [] → Q .normal a w) ∧
    ∀ j ∈ Region.ready .any ops listed, wpOp P ops Q j (fun a' w' => (∀ q ∈ pend.filter (fun q => !afterB ops j q.1), q.2 w') ∧ wpP P ops Q fuel (pend.filter fun q => !afterB ops j q.1) (listed.setIfInBounds j true) a' w') a w

theorem wpP_any {Q : Exit → Act → World → Prop} : ∀ (fuel : Nat) (pend : Pend) (listed : Array Bool) (a : Act) (w : World), wpP P ops Q fuel pend listed a w → wpAny P .any ops Q fuel listed a w
  | 0, _, _, _, _, h => h
  | fuel + 1, _, _, _, _, h => ⟨h.1, fun i hi => wpOp_mono (fun a' w' h' => wpP_any fuel _ _ a' w' h'.2) (h.2 i hi)⟩
theorem wpP_less {Q : Exit → Act → World → Prop} : ∀ (fuel : Nat) (pend pend' : Pend) (listed : Array Bool) (a : Act) (w : World), (∀ q ∈ pend', q ∈ pend) → wpP P ops Q fuel pend listed a w → wpP P ops Q fuel pend' listed a w
  | 0, _, _, _, _, _, _, h => h
  | fuel + 1, pend, pend', _, _, _, hs, h => ⟨h.1, fun i hi => wpOp_mono (fun a' w' h' => by
      have hsub : ∀ q ∈ pend'.filter (fun q => !afterB ops i q.1), q ∈ pend.filter (fun q => !afterB ops i q.1) := fun q hq => by
        rw [List.mem_filter] at hq ⊢
        exact ⟨hs q hq.1, hq.2⟩
      exact ⟨fun q hq => h'.1 q (hsub q hq), wpP_less fuel _ _ _ a' w' hsub h'.2⟩) (h.2 i hi)⟩

theorem wpP_first {Q : Exit → Act → World → Prop} {i : Nat} {oi : Oper} {v : Value} {Y : World → Prop} (hi : ops[i]? = some oi) (hsel : ∀ (j : Nat) (o : Oper) cs b, ops[j]? = some o → o.op ≠ .select cs b)
    (hQ : ∀ c a w, Q (.panic c) (a.put oi.dst v) w → Q (.panic c) a w) :
    ∀ (fuel : Nat) (pend : Pend) (listed : Array Bool) (a : Act) (w : World),
      (∀ j oj, ops[j]? = some oj → j ≠ i → listed.getD j true = false → (∀ e ∈ oj.after, Region.binds .any e = true → e.on ≠ i) → oi.apart ops oj = true) →
      i ∈ Region.ready .any ops listed → YieldsIf P ops Y oi v a → Y w → (∀ q ∈ pend, q.2 w) →
      wpP P ops Q fuel ((i, Y) :: pend) (listed.setIfInBounds i true) (a.put oi.dst v) w → wpP P ops Q (fuel + 1) pend listed a w := by
  intro fuel
  induction fuel with
  | zero =>
    intro pend listed a w _ hr hy hY hp H
    refine ⟨fun h => (by rw [h] at hr; cases hr), fun j hj => ?_⟩
    by_cases hji : j = i
    · subst hji
      exact hy.wpOp hi hY ⟨fun q hq => hp q (List.mem_filter.1 hq).1, H⟩
    · have := ready_mono hj hji
      rw [H.1] at this
      cases this
  | succ fuel ih =>
    intro pend listed a w hfree hr hy hY hp H
    refine ⟨fun h => (by rw [h] at hr; cases hr), fun j hj => ?_⟩
    by_cases hji : j = i
    · subst hji
      refine hy.wpOp hi hY ⟨fun q hq => hp q (List.mem_filter.1 hq).1, wpP_less _ _ _ _ _ _ (fun q hq => List.mem_cons_of_mem _ (List.mem_filter.1 hq).1) H⟩
    · have h1 := H.2 j (ready_mono hj hji)
      obtain ⟨hjun, oj, hoj, hall⟩ := mem_ready.1 hj
      have hnot : ∀ e ∈ oj.after, Region.binds .any e = true → e.on ≠ i := fun e he hb heq => by
        have h1 := hall e he hb
        have h0 := (mem_ready.1 hr).1
        rw [heq] at h1
        rcases Nat.lt_or_ge i listed.size with h' | h'
        · simp [h'] at h0 h1; rw [h0] at h1; cases h1
        · simp [Array.getElem?_eq_none h'] at h1
      have hnaf : afterB ops j i = false := by
        cases hb : afterB ops j i with
        | false => rfl
        | true =>
          obtain ⟨o, ho, e, he, hbd, hon⟩ := afterB_iff.1 hb
          rw [hoj] at ho
          cases ho
          exact absurd hon (hnot e he hbd)
      have h2 := wpOp_putIf hoj (hfree j oj hoj hji hjun hnot) (fun cs b => hsel i oi cs b hi) (fun cs b => hsel j oj cs b hoj) hQ hy h1
      have hfree' : ∀ k ok, ops[k]? = some ok → k ≠ i → (listed.setIfInBounds j true).getD k true = false →
          (∀ e ∈ ok.after, Region.binds .any e = true → e.on ≠ i) → oi.apart ops ok = true := fun k ok hk hki hun hno => by
        refine hfree k ok hk hki ?_ hno
        by_cases hjk : j = k
        · subst hjk; exact hjun
        · rw [getD_set_ne true hjk] at hun; exact hun
      refine wpOp_mono (fun a' w' h3 => ?_) h2
      obtain ⟨h4, h5, h6⟩ := h3
      have hf : ((i, Y) :: pend).filter (fun q => !afterB ops j q.1) = (i, Y) :: pend.filter (fun q => !afterB ops j q.1) := by simp [hnaf]
      rw [hf] at h5 h6
      refine ⟨fun q hq => h5 q (List.mem_cons_of_mem _ hq), ih _ (listed.setIfInBounds j true) a' w' hfree' (ready_mono hr (Ne.symm hji)) h4 (h5 _ List.mem_cons_self) (fun q hq => h5 q (List.mem_cons_of_mem _ hq)) ?_⟩
      rw [Array.setIfInBounds_comm _ _ hji]
      exact h6

/-- What a pending operation leans on is as it was, and stays so while nothing touches it. -/
def Held (W : World) (who : Nat → Who) (D : List Nat × List Nat) (Y : World → Prop) : Prop :=
  ∃ W0 who0 L0, Y = Same W0 who0 L0 D ∧ Y W ∧ W0.heap.size ≤ W.heap.size ∧ (∀ b, who0 b = .frozen → b < W0.heap.size → who b = .frozen) ∧ (∀ k ∈ D.1, L0.box k < W.heap.size ∧ who (L0.box k) = .box k) ∧
    ∀ r ∈ D.2, ∀ g, (L0.row r).ownBlock = some g → g < W.heap.size ∧ (who g = .row r ∨ who g = .frozen)

theorem Held.step {D : List Nat × List Nat} {Y : World → Prop} {Md : List Nat × List Nat} (H : Held W who D Y) (hap : apartD D Md = true) (S : Step ⟨(· ∈ Md.1), (· ∈ Md.2)⟩ W who L h W' who' L' h') : Held W' who' D Y := by
  obtain ⟨W0, who0, L0, rfl, hY, hsz, hf, hb, hr⟩ := H
  unfold apartD at hap
  simp only [Bool.and_eq_true, List.all_eq_true, Bool.not_eq_true', List.contains_eq_mem, decide_eq_false_iff_not] at hap
  have hb' : ∀ k ∈ D.1, W'.heap[L0.box k]? = W.heap[L0.box k]? ∧ who' (L0.box k) = .box k := fun k hk => by
    obtain ⟨h1, h2⟩ := hb k hk
    exact S.keepB _ h1 k h2 (hap.1 k hk)
  have hr' : ∀ r ∈ D.2, ∀ g, (L0.row r).ownBlock = some g → W'.heap[g]? = W.heap[g]? ∧ (who' g = .row r ∨ who' g = .frozen) := fun r hk g hg => by
    obtain ⟨h1, h2⟩ := hr r hk g hg
    rcases h2 with h2 | h2
    · exact S.keepR _ h1 r h2 (hap.2 r hk)
    · obtain ⟨h3, h4⟩ := S.fro g h2 h1
      exact ⟨h3, .inr h4⟩
  refine ⟨W0, who0, L0, rfl, ⟨fun b h1 h2 => ?_, fun k hk => ((hb' k hk).1).trans (hY.box k hk), fun r hk g hg => ((hr' r hk g hg).1).trans (hY.row r hk g hg)⟩, Nat.le_trans hsz S.size, fun b h1 h2 => (S.fro b (hf b h1 h2) (Nat.lt_of_lt_of_le h2 hsz)).2, fun k hk => ⟨Nat.lt_of_lt_of_le (hb k hk).1 S.size, (hb' k hk).2⟩, fun r hk g hg => ⟨Nat.lt_of_lt_of_le (hr r hk g hg).1 S.size, (hr' r hk g hg).2⟩⟩
  exact ((S.fro b (hf b h1 h2) (Nat.lt_of_lt_of_le h2 hsz)).1).trans (hY.fro b h1 h2)

theorem deps_ok {s : S} {a : Act} {o : Oper} {x : T} (E : ESim W who L s a.tmps) (hv : opR P s o = some x) : (∀ k ∈ (deps s o).1, k < s.h.bx.length) ∧ ∀ r ∈ (deps s o).2, ∃ p, s.h.row r = some p := by
  unfold deps
  split
  · rename_i t y ho
    unfold opR at hv
    rw [ho] at hv
    simp only at hv
    cases hy : s.x1 y with
    | none => simp
    | some x1 =>
      simp only [hy, Option.bind_some] at hv
      have hr := rep_x1 E hy
      cases x1 with
      | ptr k off => simp [depsX]; exact hr.1
      | ep r i off =>
        simp only [loadX] at hv
        cases hp : s.h.row r with
        | none => simp [hp] at hv
        | some p => exact ⟨by simp [depsX], fun q hq => ⟨p, by simp [depsX] at hq; rw [hq]; exact hp⟩⟩
      | own r off n => simp [loadX] at hv
      | c d => simp [depsX]
      | fp e off => simp [depsX]
      | clo bd f ks => simp [depsX]
      | junk => simp [depsX]
  · rename_i src dst y ho
    unfold opR at hv
    rw [ho] at hv
    simp only at hv
    cases hy : s.x1 y with
    | none => simp
    | some x1 =>
      have hr := rep_x1 E hy
      have hpure : pureOp P s o = some x → ∃ c, x1 = .c c := fun hp => by
        unfold pureOp at hp
        split at hp
        · rename_i hf
          unfold fastOp at hf
          rw [ho] at hf
          simp only at hf
          split at hf
          · rename_i e1
            unfold S.x1 at hy
            rw [e1] at hy
            cases hy
            exact ⟨_, rfl⟩
          · cases hf
        unfold pureV at hp
        split at hp
        · rename_i hall
          unfold allVal at hall
          rw [ho] at hall
          have h1 := List.all_eq_true.1 hall y (by simp [Op.operands])
          unfold S.x1 at hy
          split at hy
          · rename_i z hz
            cases hy
            rw [hz] at h1
            cases x1 <;> first | exact ⟨_, rfl⟩ | simp [T.val, X.val] at h1
          · cases hy
        · cases hp
      split at hv
      · split at hv
        · simp only [hy, Option.bind_some] at hv
          cases x1 with
          | own r off n =>
            cases hp : s.h.row r with
            | none => simp [Hp.view, hp] at hv
            | some p => exact ⟨by simp [depsX], fun q hq => ⟨p, by simp [depsX] at hq; rw [hq]; exact hp⟩⟩
          | ptr k off => simp [Hp.view] at hv
          | ep r i off => simp [Hp.view] at hv
          | c d => simp [depsX]
          | fp e off => simp [depsX]
          | clo bd f ks => simp [depsX]
          | junk => simp [depsX]
        · cases hv
      · obtain ⟨c, rfl⟩ := hpure hv
        simp [depsX]
  · simp

theorem Held.new {s : S} {a : Act} {o : Oper} {x : T} (H : HSim W who L s.h) (E : ESim W who L s a.tmps) (hv : opR P s o = some x) : Held W who (deps s o) (Same W who L (deps s o)) := by
  obtain ⟨h1, h2⟩ := deps_ok E hv
  refine ⟨W, who, L, rfl, Same.rf _ _ _ _, Nat.le_refl _, fun b hb _ => hb, fun k hk => H.box_lt (h1 k hk), fun r hr g hg => ?_⟩
  obtain ⟨p, hp⟩ := h2 r hr
  unfold Hp.row at hp
  split at hp
  · rename_i ty sz es he
    have hmu := H.mu r ty sz es he
    exact ⟨hmu.lt hg, .inl (hmu.who g hg)⟩
  · rename_i sz es he
    have hf := (H.frz r sz es he).who g hg
    exact ⟨hf.2, .inr hf.1⟩
  · cases hp

theorem wpP_done {Q : Exit → Act → World → Prop} {pend : Pend} {listed : Array Bool} {a : Act} {w : World} (hr : Region.ready .any ops listed = []) (h : Q .normal a w) : ∀ fuel, wpP P ops Q fuel pend listed a w
  | 0 => ⟨hr, h⟩
  | _ + 1 => ⟨fun _ => h, by rw [hr]; simp⟩

/-! A call, and the making of a text's bytes: one ahead of the other -/
theorem rd_put {s : S} {d x : Tmp} {v : T} (h : d ≠ x) : (s.put (some d) v).rd (.tmp x) = s.rd (.tmp x) := by
  simp [S.put, S.rd, List.getD_eq_getElem?_getD, List.getElem?_set, h]
theorem rd_op {s : S} {d : Tmp} {v : T} {a : Operand} (h : (match a with | .tmp t => t != d | _ => true) = true) : (s.put (some d) v).rd a = s.rd a := by
  cases a with
  | tmp t => exact rd_put fun e => by simp [e] at h
  | _ => rfl
theorem strBy_ev {K : CallFn} {A : Ann} {s : S} {d : Tmp} {src dst : TypeId} {x : Operand} {ty : TypeId} {pos : String} {af : Array Edge} (h : strBy P src dst = true) :
    evOp K P A s ⟨some d, .convert src dst x, ty, pos, af, none⟩ = match s.rd x with | ⟨.one, [.c (.v (.string b))]⟩ => some (⟨.one, [.c (.fz 1 (encB b.data.toList))]⟩, s.h) | _ => none := by
  unfold strBy at h
  split at h
  · rename_i e h1 h2
    split at h
    · rename_i h3
      simp only [evOp, h1, h2, h3]
      split
      · rename_i h4; rw [h4]
      · rename_i h4
        split
        · rename_i b h5; exact absurd h5 (h4 b rfl)
        · rfl
    · cases h
  · cases h
theorem pair_swap {K : CallFn} {A : Ann} {i j : Nat} {pl : List (Nat × Bool)} {pend : List (Nat × (List Nat × List Nat))} {s s' : S} (hp : pairOk P ops i j = true) (he : evPlan K P A ops ((i, false) :: (j, false) :: pl) pend s = some s') : evPlan K P A ops ((j, false) :: (i, false) :: pl) pend s = some s' := by
  unfold pairOk at hp
  split at hp
  case h_2 => cases hp
  rename_i di f ar tys tyi posi afi dj src dst x tyj posj afj hi hj
  simp only [Bool.and_eq_true, bne_iff_ne, ne_eq] at hp
  obtain ⟨⟨⟨h1, h2⟩, h3⟩, h4⟩ := hp
  have hargs : ∀ v, ar.toList.map (s.put (some dj) v).rd = ar.toList.map s.rd := fun v => List.map_congr_left fun a ha => rd_op (List.all_eq_true.1 h3 a ha)
  have hcall : ∀ v, evOp K P A (s.put (some dj) v) ⟨some di, .call ⟨.value (.func f), ar, tys⟩, tyi, posi, afi, none⟩ = evOp K P A s ⟨some di, .call ⟨.value (.func f), ar, tys⟩, tyi, posi, afi, none⟩ := fun v => by
    have e1 : (s.put (some dj) v).x1 (.func f) = s.x1 (.func f) := rfl
    simp only [evOp, e1, hargs, put_h]
  have hmods : ∀ v, modsX P A (s.put (some dj) v) ⟨some di, .call ⟨.value (.func f), ar, tys⟩, tyi, posi, afi, none⟩ = modsX P A s ⟨some di, .call ⟨.value (.func f), ar, tys⟩, tyi, posi, afi, none⟩ := fun v => by
    have e1 : (s.put (some dj) v).x1 (.func f) = s.x1 (.func f) := rfl
    simp only [modsX, e1, hargs, put_h]
  have hfl : ∀ l : List (Nat × (List Nat × List Nat)), (l.filter fun q => !afterB ops j q.1).filter (fun q => !afterB ops i q.1) = (l.filter fun q => !afterB ops i q.1).filter fun q => !afterB ops j q.1 := fun l => by
    rw [List.filter_filter, List.filter_filter]
    exact List.filter_congr fun q _ => Bool.and_comm _ _
  have hnil : ∀ (l : List (Nat × (List Nat × List Nat))) (t : S), (l.all fun q => apartD q.2 (modsX P A t ⟨some dj, .convert src dst (.tmp x), tyj, posj, afj, none⟩)) = true := fun l t => List.all_eq_true.2 fun q _ => by simp [modsX, apartD]
  simp only [evPlan, hi, hj, Option.bind_some, guardX, Bool.false_eq_true, if_false, hnil, if_true] at he ⊢
  split at he
  case isFalse => cases he
  rename_i hap
  cases hv : evOp K P A s ⟨some di, .call ⟨.value (.func f), ar, tys⟩, tyi, posi, afi, none⟩ with
  | none => rw [hv] at he; cases he
  | some r =>
    obtain ⟨r, h'⟩ := r
    rw [hv] at he
    simp only [Option.bind_some] at he
    rw [strBy_ev h4] at he ⊢
    have hx : (S.put ⟨s.env, h'⟩ (some di) r).rd (.tmp x) = s.rd (.tmp x) := rd_put (s := ⟨s.env, h'⟩) h2
    rw [hx] at he
    split at he
    case h_2 => cases he
    rename_i b hb
    simp only [Option.bind_some] at he ⊢
    have e1 : S.put ⟨s.env, s.h⟩ (some dj) ⟨.one, [.c (.fz 1 (encB b.data.toList))]⟩ = s.put (some dj) ⟨.one, [.c (.fz 1 (encB b.data.toList))]⟩ := rfl
    rw [e1, hmods, hcall, hv, hfl]
    have hap2 : (((pend.filter fun q => !afterB ops i q.1).filter fun q => !afterB ops j q.1).all fun q => apartD q.2 (modsX P A s ⟨some di, .call ⟨.value (.func f), ar, tys⟩, tyi, posi, afi, none⟩)) = true := List.all_eq_true.2 fun q hq => List.all_eq_true.1 hap q (List.mem_filter.1 hq).1
    rw [if_pos hap2]
    simp only [Option.bind_some]
    have e2 : S.put ⟨(s.put (some dj) ⟨.one, [.c (.fz 1 (encB b.data.toList))]⟩).env, h'⟩ (some di) r = S.put ⟨(S.put ⟨s.env, h'⟩ (some di) r).env, (S.put ⟨s.env, h'⟩ (some di) r).h⟩ (some dj) ⟨.one, [.c (.fz 1 (encB b.data.toList))]⟩ := by
      simp only [S.put]
      rw [List.set_comm _ _ h1]
    rw [e2]
    exact he
theorem evPlan_sound (hK : KOk P K) {Q : Exit → Act → World → Prop} (hsel : Region.noSelect ops = true) : ∀ (pl : List (Nat × Bool)) (pend : List ((Nat × (List Nat × List Nat)) × (World → Prop))) (fuel : Nat) (listed : Array Bool) {s s' : S} {a : Act} {W : World} {who : Nat → Who} {L : Lay},
    planOk P ops pl listed = true → pl.length ≤ fuel → HSim W who L s.h → ESim W who L s a.tmps → (∀ q ∈ pend, Held W who q.1.2 q.2) →
    evPlan K P A ops pl (pend.map (·.1)) s = some s' → Then W who L s.h s' a.defers (Q .normal) → wpP P ops (NoPanic Q) fuel (pend.map fun q => (q.1.1, q.2)) listed a W
  | [], pend, fuel, listed, s, s', a, W, who, L, hp, hf, H, E, hh, he, hT => by
    simp only [evPlan, Option.some.injEq] at he
    subst he
    exact wpP_done (by simpa [planOk] using hp) (NoPanic.normal (hT a W who L H E (Step.rf _ _ _ _) rfl)) fuel
  | (i, tk) :: pl, pend, 0, listed, s, s', a, W, who, L, hp, hf, H, E, hh, he, hT => by simp at hf
  | (i, true) :: pl, pend, fuel + 1, listed, s, s', a, W, who, L, hp, hf, H, E, hh, he, hT => by
    simp only [planOk, Bool.and_eq_true] at hp
    obtain ⟨⟨hr, hfree⟩, hp⟩ := hp
    simp only [evPlan] at he
    cases ho : ops[i]? with
    | none => simp [ho] at he
    | some o =>
      simp only [ho, Option.bind_some] at he
      cases hg : guardX ops s o with
      | none => simp [hg] at he
      | some t =>
        have hw := guard_sound E hg
        cases t with
        | false =>
          simp only [hg, if_true] at he
          have h1 : Held W who ([], []) (Same W who L ([], [])) := ⟨W, who, L, rfl, Same.rf _ _ _ _, Nat.le_refl _, fun b hb _ => hb, by simp, by simp⟩
          refine wpP_first (v := undef) (Y := Same W who L ([], [])) ho (Region.noSelect_spec hsel) (fun _ _ _ h => h) fuel _ listed a W (Region.free_spec ho hfree) (by simpa using hr) (.inr ⟨hw, rfl⟩) (Same.rf _ _ _ _)
            (fun q hq => by obtain ⟨q', hq', rfl⟩ := List.mem_map.1 hq; obtain ⟨_, _, _, _, hY, _⟩ := hh q' hq'; exact hY) ?_
          refine evPlan_sound hK hsel pl (((i, ([], [])), Same W who L ([], [])) :: pend) fuel _ (s := s.put o.dst undefT) hp (by simpa using hf) (by rw [put_h]; exact H) (E.put undef_rep) ?_ he ?_
          · intro q hq
            rcases List.mem_cons.1 hq with rfl | hq
            · exact h1
            · exact hh q hq
          · intro a' W2 who2 L2 h4 h5 h6 h7
            rw [put_h] at h6
            exact hT a' W2 who2 L2 h4 h5 h6 (h7.trans (put_defers _ _ _))
        | true =>
          simp only [hg, if_true] at he
          cases hv : opR P s o with
          | none => simp [hv] at he
          | some x =>
            simp only [hv, Option.bind_some] at he
            obtain ⟨v, h2, h3⟩ := opR_sound H E hv
            refine wpP_first (v := v) (Y := Same W who L (deps s o)) ho (Region.noSelect_spec hsel) (fun _ _ _ h => h) fuel _ listed a W (Region.free_spec ho hfree) (by simpa using hr) (.inl ⟨hw, h3⟩) (Same.rf _ _ _ _)
              (fun q hq => by obtain ⟨q', hq', rfl⟩ := List.mem_map.1 hq; obtain ⟨_, _, _, _, hY, _⟩ := hh q' hq'; exact hY) ?_
            refine evPlan_sound hK hsel pl (((i, deps s o), Same W who L (deps s o)) :: pend) fuel _ (s := s.put o.dst x) hp (by simpa using hf) (by rw [put_h]; exact H) (E.put h2) ?_ he ?_
            · intro q hq
              rcases List.mem_cons.1 hq with rfl | hq
              · exact Held.new H E hv
              · exact hh q hq
            · intro a' W2 who2 L2 h4 h5 h6 h7
              rw [put_h] at h6
              exact hT a' W2 who2 L2 h4 h5 h6 (h7.trans (put_defers _ _ _))
  | (i, false) :: pl, pend, fuel + 1, listed, s, s', a, W, who, L, hp, hf, H, E, hh, he, hT => by
    have hstep : ∀ (m : Nat) (rest : List (Nat × Bool)), planOk P ops rest (listed.setIfInBounds m true) = true → rest.length ≤ fuel → evPlan K P A ops ((m, false) :: rest) (pend.map (·.1)) s = some s' →
        wpOp P ops (NoPanic Q) m (fun a' w' => (∀ q ∈ (pend.map fun q => (q.1.1, q.2)).filter (fun q => !afterB ops m q.1), q.2 w') ∧ wpP P ops (NoPanic Q) fuel ((pend.map fun q => (q.1.1, q.2)).filter fun q => !afterB ops m q.1) (listed.setIfInBounds m true) a' w') a W := by
      intro m rest hp2 hf2 he
      simp only [evPlan] at he
      cases ho : ops[m]? with
      | none => simp [ho] at he
      | some o =>
        simp only [ho, Option.bind_some] at he
        have hmap : (pend.map fun q => (q.1.1, q.2)).filter (fun q => !afterB ops m q.1) = (pend.filter fun q => !afterB ops m q.1.1).map fun q => (q.1.1, q.2) := by rw [List.filter_map]; rfl
        have hmap2 : (pend.map (·.1)).filter (fun q => !afterB ops m q.1) = (pend.filter fun q => !afterB ops m q.1.1).map (·.1) := by rw [List.filter_map]; rfl
        unfold wpOp
        simp only [ho]
        cases hg : guardX ops s o with
        | none => simp [hg] at he
        | some t =>
          have hw := guard_sound E hg
          cases t with
          | false =>
            simp only [hg, Bool.false_eq_true, if_false] at he
            rw [if_neg (by rw [hw]; simp), hmap]
            refine ⟨fun q hq => ?_, evPlan_sound hK hsel rest (pend.filter fun q => !afterB ops m q.1.1) fuel _ (s := s.put o.dst undefT) hp2 hf2 (by rw [put_h]; exact H) (E.put undef_rep) (fun q hq => hh q (List.mem_filter.1 hq).1) (by rw [← hmap2]; exact he) ?_⟩
            · obtain ⟨q', hq', rfl⟩ := List.mem_map.1 hq
              obtain ⟨_, _, _, _, hY, _⟩ := hh q' (List.mem_filter.1 hq').1
              exact hY
            · intro a' W2 who2 L2 h4 h5 h6 h7
              rw [put_h] at h6
              exact hT a' W2 who2 L2 h4 h5 h6 (h7.trans (put_defers _ _ _))
          | true =>
            simp only [hg, Bool.false_eq_true, if_false] at he
            split at he
            case isFalse => cases he
            rename_i hap
            cases hv : evOp K P A s o with
            | none => simp [hv] at he
            | some r =>
              simp only [hv, Option.bind_some] at he
              rw [if_pos hw]
              refine .inl (evOp_sound hK H E hv _ _ fun v W' who' L' h1 h2 h3 => ?_)
              have hheld : ∀ q ∈ pend.filter fun q => !afterB ops m q.1.1, Held W' who' q.1.2 q.2 := fun q hq => by
                have h5 := List.all_eq_true.1 hap q.1 (by rw [hmap2]; exact List.mem_map.2 ⟨q, hq, rfl⟩)
                exact (hh q (List.mem_filter.1 hq).1).step h5 h3
              rw [hmap]
              refine ⟨fun q hq => ?_, evPlan_sound hK hsel rest (pend.filter fun q => !afterB ops m q.1.1) fuel _ (s := S.put ⟨s.env, r.2⟩ o.dst r.1) hp2 hf2 (by rw [put_h]; exact h2) (ESim.put (s := ⟨s.env, r.2⟩) (h3.env E) h1) hheld (by rw [← hmap2]; exact he) ?_⟩
              · obtain ⟨q', hq', rfl⟩ := List.mem_map.1 hq
                obtain ⟨_, _, _, _, hY, _⟩ := hheld q' hq'
                exact hY
              · intro a' W2 who2 L2 h4 h5 h6 h7
                rw [put_h] at h6
                exact hT a' W2 who2 L2 h4 h5 ((Step.top h3).tr h6) (h7.trans (put_defers _ _ _))
    simp only [planOk, Bool.and_eq_true, Bool.or_eq_true, decide_eq_true_eq] at hp
    obtain ⟨hr, hp⟩ := hp
    rcases hr with hr | hr
    · refine ⟨fun h0 => absurd (hr ▸ h0) (by simp), fun j hj => ?_⟩
      rw [hr, List.mem_singleton] at hj
      subst hj
      exact hstep j pl hp (by simpa using hf) he
    · split at hr
      case h_2 => cases hr
      rename_i j pl
      simp only [Bool.and_eq_true, decide_eq_true_eq] at hr
      obtain ⟨⟨hr, hpair⟩, hri⟩ := hr
      refine ⟨fun h0 => absurd (hr ▸ h0) (by simp), fun k hk => ?_⟩
      rw [hr, List.mem_cons, List.mem_singleton] at hk
      rcases hk with rfl | rfl
      · exact hstep k _ hp (by simpa using hf) he
      · refine hstep k ((i, false) :: pl) ?_ (by simpa using hf) (pair_swap hpair he)
        simp only [planOk, Bool.and_eq_true] at hp
        have hc : (listed.setIfInBounds k true).setIfInBounds i true = (listed.setIfInBounds i true).setIfInBounds k true := by
          by_cases e : i = k
          · rw [e]
          · exact Array.setIfInBounds_comm _ _ (fun e2 => e e2.symm)
        simp only [planOk, hri, hc, hp.2, decide_true, Bool.true_or, Bool.and_self]
end
end Go.Proofs.YtkdnbnkbnegckaaGreatDoor
