/- The second machine's operations, all of them, in the first machine's terms. -/
import Derived.Test.YtkdnbnkbnegckaaGreatDoorEvH
namespace Go.Proofs.YtkdnbnkbnegckaaGreatDoor
open Go.RowKit

section
variable {P : Program} {W W' : World} {who who' : Nat → Who} {L L' : Lay} {h h' : Hp} {K : CallFn} {A : Ann}

def RepTs (W : World) (who : Nat → Who) (L : Lay) (h : Hp) (ts : List T) (us : List Value) : Prop := ts.length = us.length ∧ ∀ (i : Nat) t u, ts[i]? = some t → us[i]? = some u → RepT W who L h t u
theorem Step.repTs {M : Mods} (S : Step M W who L h W' who' L' h') {ts : List T} {us : List Value} (H : RepTs W who L h ts us) : RepTs W' who' L' h' ts us := ⟨H.1, fun i t u h1 h2 => S.repT (H.2 i t u h1 h2)⟩
theorem RepTs.cons {t : T} {u : Value} {ts : List T} {us : List Value} (h1 : RepT W who L h t u) (h2 : RepTs W who L h ts us) : RepTs W who L h (t :: ts) (u :: us) :=
  ⟨by simp [h2.1], fun i x v hx hv => by cases i with | zero => cases hx; cases hv; exact h1 | succ i => exact h2.2 i x v hx hv⟩

theorem RepTs.append {ts ts' : List T} {us us' : List Value} (H : RepTs W who L h ts us) (H' : RepTs W who L h ts' us') : RepTs W who L h (ts ++ ts') (us ++ us') :=
  ⟨by simp [H.1, H'.1], fun i t u h1 h2 => by
    by_cases hi : i < ts.length
    · rw [List.getElem?_append_left hi] at h1
      rw [List.getElem?_append_left (by rw [← H.1]; exact hi)] at h2
      exact H.2 i t u h1 h2
    · rw [List.getElem?_append_right (by omega)] at h1
      rw [List.getElem?_append_right (by rw [← H.1]; omega), ← H.1] at h2
      exact H'.2 _ t u h1 h2⟩

theorem adopt1_sound (H : HSim W who L h) {t : TypeId} {v : T} {u : Value} {r : T × Hp × List Nat} (hv : RepT W who L h v u) (ha : adopt1 P h t v = some r) :
    ∃ who' L', HSim W who' L' r.2.1 ∧ Step .no W who L h W who' L' r.2.1 ∧ RepT W who' L' r.2.1 r.1 u := by
  unfold adopt1 at ha
  split at ha
  · obtain ⟨x, e, hx⟩ := hv
    cases e
    cases hx
    cases he : elemT P t with
    | none => simp [he] at ha
    | some e =>
      cases hi : elemI P e with
      | none => simp [he, hi] at ha
      | some i =>
        simp only [he, hi, Option.bind_some, Option.map_some, Option.some.injEq] at ha
        subst ha
        obtain ⟨who', H', S'⟩ := grow_sim (W' := W) (e := e) (sz := i.1) (v := .slice none 0 0) (v' := .slice none 0 0) (rid := none) (es := []) (news := []) (us := []) (vs := []) H (.inl ⟨rfl, rfl⟩) (by simp) (World.ownsRow_nil _ _ _ _) (Grow.rf _ _) ⟨rfl, fun i c u h => by simp at h⟩ ⟨rfl, fun i c u h => by simp at h⟩
        refine ⟨who', _, H', S'.up (fun _ h => h) (fun k hk => by cases hk), _, rfl, ?_⟩
        have := rep_own H' (r := h.rw.length) (ty := e) (sz := i.1) (es := [] ++ []) (by simp [kill])
        simpa [kill] using this
  · cases ha; exact ⟨who, L, H, Step.rf _ _ _ _, hv⟩
  · cases ha; exact ⟨who, L, H, Step.rf _ _ _ _, hv⟩

theorem adopt_sound (mv : List Nat) : ∀ (vs : List T) (j : Nat) (tys : List TypeId) {h : Hp} {who : Nat → Who} {L : Lay} {us : List Value} {r : List T × Hp × List Nat}, HSim W who L h → RepTs W who L h vs us → adopt P mv j tys vs h = some r →
    ∃ who' L', HSim W who' L' r.2.1 ∧ Step .no W who L h W who' L' r.2.1 ∧ RepTs W who' L' r.2.1 r.1 us
  | [], j, tys, h, who, L, us, r, H, R, ha => by
    have : r = ([], h, []) := by cases tys <;> simpa [adopt] using ha.symm
    subst this
    exact ⟨who, L, H, Step.rf _ _ _ _, R⟩
  | v :: vs, j, [], h, who, L, us, r, H, R, ha => by
    have : r = (v :: vs, h, []) := by simpa [adopt] using ha.symm
    subst this
    exact ⟨who, L, H, Step.rf _ _ _ _, R⟩
  | v :: vs, j, t :: tys, h, who, L, [], r, H, R, ha => by have := R.1; simp at this
  | v :: vs, j, t :: tys, h, who, L, u :: us, r, H, R, ha => by
    have h0 := R.2 0 v u rfl rfl
    have hr : RepTs W who L h vs us := ⟨by simpa using R.1, fun i => R.2 (i + 1)⟩
    rw [adopt] at ha
    split at ha
    · cases h1 : adopt1 P h t v with
      | none => simp [h1] at ha
      | some p =>
        cases h2 : adopt P mv (j + 1) tys vs p.2.1 with
        | none => simp [h1, h2] at ha
        | some q =>
          simp only [h1, h2, Option.bind_some, Option.map_some, Option.some.injEq] at ha
          subst ha
          obtain ⟨who1, L1, H1, S1, R1⟩ := adopt1_sound H h0 h1
          obtain ⟨who2, L2, H2, S2, R2⟩ := adopt_sound mv vs (j + 1) tys H1 (S1.repTs hr) h2
          exact ⟨who2, L2, H2, S1.tr S2, RepTs.cons (S2.repT R1) R2⟩
    · cases h2 : adopt P mv (j + 1) tys vs h with
      | none => simp [h2] at ha
      | some q =>
        simp only [h2, Option.map_some, Option.some.injEq] at ha
        subst ha
        obtain ⟨who2, L2, H2, S2, R2⟩ := adopt_sound mv vs (j + 1) tys H hr h2
        exact ⟨who2, L2, H2, S2, RepTs.cons (S2.repT h0) R2⟩

theorem plain_T {t : T} {v : Value} (hp : t.xs.all X.plain = true) (H : RepT W who L h t v) : RepT W' who' L' h' t v := by
  obtain ⟨k, xs⟩ := t
  have : Map2 (Turns W who L h W' who' L' h') xs (xs.map id) := Map2.map fun x hx v hv => by
    have h1 := List.all_eq_true.1 hp x hx
    unfold X.plain at h1
    split at h1
    · cases hv; exact .v _ (by assumption)
    · cases h1
  simpa using map2_T this H

theorem callX_sound (hK : KOk P K) (H : HSim W who L h) {f : FuncId} {tys : List TypeId} {vs : List T} {us : List Value} {r : T × Hp} (R : RepTs W who L h vs us) (hc : callX K P A f tys vs h = some r) :
    (∃ fn, P.funcs[f]? = some fn ∧ fn.body.isSome = true ∧ (fn.name == "runtime.NumGoroutine") = false) ∧
    Calls P f us.toArray W fun e W' => ∃ v who' L', e = .returned v ∧ RepT W' who' L' r.2 r.1 v ∧ HSim W' who' L' r.2 ∧ Step ⟨(· ∈ (callMods P A f tys vs h).1), (· ∈ (callMods P A f tys vs h).2)⟩ W who L h W' who' L' r.2 := by
  unfold callX at hc
  cases ha : adopt P (A.mv f) 0 tys vs h with
  | none => simp [ha] at hc
  | some p =>
  simp only [ha, Option.bind_some] at hc
  obtain ⟨who1, L1, H1, S1, R1⟩ := adopt_sound (A.mv f) vs 0 tys H R ha
  have hmods : callMods P A f tys vs h = (ksOf p.2.1 p.1, rsOf p.2.1 (ksOf p.2.1 p.1) p.2.2) := by unfold callMods; rw [ha]
  rw [hmods]
  generalize p.2.1 = h1 at *
  generalize p.1 = vs1 at *
  generalize hks : ksOf h1 vs1 = ks at *
  generalize hrs : rsOf h1 ks p.2.2 = rs at *
  have hnk : ks.Nodup := hks ▸ closeB_nodup _ _ _ _ (by simp)
  have hnr : rs.Nodup := hrs ▸ (dedup_ok 0 _ [] (by simp) (by simp)).1
  cases hargs : vs1.mapM (argT h1 ks rs) with
  | none => simp [hargs] at hc
  | some args =>
  cases hbx : ks.mapM fun k => (h1.bx[k]?).bind fun xs => xs.mapM (boxX ks rs) with
  | none => simp [hargs, hbx] at hc
  | some bx =>
  cases hrw : rs.mapM fun r => h1.rw[r]? with
  | none => simp [hargs, hbx, hrw] at hc
  | some rw =>
  simp only [hargs, hbx, hrw, Option.bind_some] at hc
  cases hq : K f args ⟨bx, rw⟩ with
  | none => simp [hq] at hc
  | some q =>
  simp only [hq, Option.map_some, Option.some.injEq] at hc
  generalize hbor : (((vs1.flatMap (·.xs)).flatMap X.rows).filter fun r => !rs.contains r) = bor at hc
  obtain ⟨HC, hrow, hbl, hrl, hkl, hrsl⟩ := call_sim (bor := bor) H1 hnk hnr hbx hrw
  have hborn : ∀ r ∈ bor, r ∉ rs := fun r hr => by rw [← hbor] at hr; have := (List.mem_filter.1 hr).2; simpa using this
  obtain ⟨hfn, hcall⟩ := hK f args ⟨bx, rw⟩ q.1 q.2 hq
  obtain ⟨hal, hag⟩ := mapM_get hargs
  refine ⟨hfn, ?_⟩
  have hargrep : ∀ (i : Nat) t v, args[i]? = some t → us[i]? = some v → RepT W (callWho who1 ks rs bor) (callLay L1 ks rs) ⟨bx, rw⟩ t v := fun i t v ht hv => by
    have hi : i < vs1.length := by rw [hal]; exact (List.getElem?_eq_some_iff.1 ht).1
    obtain ⟨y, h2, h3⟩ := hag i _ (List.getElem?_eq_getElem hi)
    rw [ht] at h2
    cases h2
    have hr := R1.2 i _ v (List.getElem?_eq_getElem hi) hv
    have hmem : vs1[i] ∈ vs1 := List.getElem_mem hi
    generalize vs1[i] = w at *
    obtain ⟨k, xs⟩ := w
    unfold argT at h3
    cases hm : xs.mapM (argX h1 ks rs) with
    | none => simp [hm] at h3
    | some ys =>
      simp only [hm, Option.map_some, Option.some.injEq] at h3
      subst h3
      refine map2_T (Map2.mapM hm fun x hx y hxy => arg_turns H1 hbl hrl hrow (fun r hr' => ?_) hxy) hr
      by_cases hrm : r ∈ rs
      · exact .inl hrm
      · refine .inr ?_
        rw [← hbor]
        refine List.mem_filter.2 ⟨List.mem_flatMap.2 ⟨x, List.mem_flatMap.2 ⟨_, hmem, hx⟩, hr'⟩, by simpa using hrm⟩
  refine (hcall W _ _ us HC (by rw [← hal]; exact R1.1) hargrep).mono fun e W' => ?_
  rintro ⟨v, whoD, LD, rfl, hv, HD, SD⟩
  split at hc
  · rename_i hcond
    subst hc
    simp only [Bool.and_eq_true, List.isEmpty_iff] at hcond
    obtain ⟨⟨rfl, rfl⟩, hplain⟩ := hcond
    -- nothing but scalars: all is as it was
    have hsame : ∀ b, b < W.heap.size → W'.heap[b]? = W.heap[b]? := fun b hb => by
      by_cases hf : callWho who1 [] [] bor b = .frozen
      · exact (SD.fro b hf hb).1
      · refine (SD.oth b ?_ hb).1
        unfold callWho at hf ⊢
        cases hw : who1 b with
        | frozen => rw [hw] at hf; exact absurd rfl hf
        | other => rfl
        | box k => simp
        | row r =>
          rw [hw] at hf
          simp at hf
          simp [hf]
    let who2 : Nat → Who := fun b => if b < W.heap.size then who1 b else .frozen
    have hw2 : ∀ b, b < W.heap.size → who2 b = who1 b := fun b hb => if_pos hb
    have S2 : Step .no W who1 L1 h1 W' who2 L1 h1 :=
      { os := SD.os, tape := SD.tape, output := SD.output, size := SD.size
        fro := fun b hb hlt => ⟨hsame b hlt, (hw2 b hlt).trans hb⟩
        oth := fun b hb hlt => ⟨hsame b hlt, (hw2 b hlt).trans hb⟩
        bx := Nat.le_refl _, box := fun _ _ => rfl
        rw := Nat.le_refl _, row := fun r _ sz es he => ⟨⟨es, he, rfl⟩, rfl⟩
        keepB := fun b hlt k hb _ => ⟨hsame b hlt, (hw2 b hlt).trans hb⟩
        keepR := fun b hlt k hb _ => ⟨hsame b hlt, .inl ((hw2 b hlt).trans hb)⟩ }
    refine ⟨v, who2, L1, rfl, plain_T hplain hv, ⟨fun k xs hk => ?_, fun r ty sz es hr => ?_, fun r sz es hr => ?_⟩, S1.any.tr S2.any⟩
    · have hb := (H1.box_lt (List.getElem?_eq_some_iff.1 hk).1).1
      exact box_same S2 H1 hk (hsame _ hb) (hw2 _ hb)
    · have hmu := H1.mu r ty sz es hr
      exact own_same S2 hmu fun g hg => ⟨hsame g (hmu.lt hg), (hw2 g (hmu.lt hg)).trans (hmu.who g hg)⟩
    · exact S2.froR (H1.frz r sz es hr)
  · subst hc
    obtain ⟨HE, SE, TE⟩ := ret_sim H1 HC hnk hnr hbl hrl hkl hrsl hrow hborn HD SD
    refine ⟨v, _, _, rfl, ?_, HE, S1.any.tr SE⟩
    obtain ⟨⟨k, xs⟩, q2⟩ := q
    exact map2_T (Map2.map fun x _ => TE x) hv

/-- One operation, as the first machine's. -/
def OpOk (M : Mods) (P : Program) (W : World) (who : Nat → Who) (L : Lay) (h : Hp) (o : Oper) (a : Act) (r : T × Hp) : Prop :=
  ∀ (next : Act → World → Prop) (Q : Exit → Act → World → Prop), (∀ v W' who' L', RepT W' who' L' r.2 r.1 v → HSim W' who' L' r.2 → Step M W who L h W' who' L' r.2 → next (a.put o.dst v) W') → Oper.wp P o a W next Q

theorem OpOk.run {M : Mods} {o : Oper} {a : Act} {r : T × Hp} {v : Value} {W' : World} {who' : Nat → Who} {L' : Lay} (hr : (execOp a.eval o).run P W = .ok (.value v) W') (h1 : RepT W' who' L' r.2 r.1 v) (h2 : HSim W' who' L' r.2) (h3 : Step M W who L h W' who' L' r.2) : OpOk M P W who L h o a r :=
  fun next Q hn => by unfold Oper.wp; rw [hr]; exact hn v W' who' L' h1 h2 h3

theorem evOp_sound (hK : KOk P K) {s : S} {a : Act} {o : Oper} {r : T × Hp} (H : HSim W who L s.h) (E : ESim W who L s a.tmps) (hv : evOp K P A s o = some r) : OpOk ⟨(· ∈ (modsX P A s o).1), (· ∈ (modsX P A s o).2)⟩ P W who L s.h o a r := by
  have hR : ((opR P s o).map fun v => (v, s.h)) = some r → OpOk ⟨(· ∈ (modsX P A s o).1), (· ∈ (modsX P A s o).2)⟩ P W who L s.h o a r := fun hr => by
    cases h1 : opR P s o with
    | none => simp [h1] at hr
    | some x =>
      simp only [h1, Option.map_some, Option.some.injEq] at hr
      subst hr
      obtain ⟨v, h2, h3⟩ := opR_sound H E h1
      exact OpOk.run (h3 W (Same.rf _ _ _ _)) h2 H (Step.rf _ _ _ _)
  unfold evOp at hv
  split at hv
  · rename_i t ho
    cases hz : zeroX P t with
    | none => simp [hz] at hv
    | some z =>
      simp only [hz, Option.map_some, Option.some.injEq] at hv
      subst hv
      obtain ⟨u, h1, h2⟩ := run_zero (W := W) (who := who) (L := L) hz
      obtain ⟨who', L', h3, h4, h5⟩ := new_box H t (h2 s.h)
      refine OpOk.run (v := ptrV W.heap.size 0) ?_ ⟨_, rfl, h3⟩ h4 h5.any
      unfold execOp
      rw [ho]
      simp only [Instr.alloc, Sem.run_bind, h1, Result.andThen_ok, newVar, newRow, run_newObj, Sem.run_pure]
      rfl
  · rename_i t x ho
    split at hv
    · rename_i hw
      simp only [Option.some.injEq] at hv
      subst hv
      have hr := (rep_rd E x).cells hw
      obtain ⟨who', L', h3, h4, h5⟩ := new_box H t hr
      refine OpOk.run (v := ptrV W.heap.size 0) ?_ ⟨_, rfl, h3⟩ h4 h5.any
      unfold execOp
      rw [ho]
      simp only [Instr.box, Sem.run_bind, Result.andThen_ok, newVar, newRow, run_newObj, Sem.run_pure]
      rfl
    · cases hv
  · rename_i t x y ho
    cases hx : s.x1 x with
    | none => simp [hx] at hv
    | some x1 =>
      simp only [hx, Option.bind_some] at hv
      cases hs : storeX P s.h t x1 (s.rd y) with
      | none => simp [hs] at hv
      | some h1 =>
        simp only [hs, Option.map_some, Option.some.injEq] at hv
        subst hv
        obtain ⟨W', who', h2, h3, h4⟩ := store_sound H (rep_x1 E hx) (rep_rd E y) hs
        intro next Q hn
        unfold Oper.wp execOp
        rw [ho]
        simp only [Sem.run_bind, h2, Result.andThen_ok, Sem.run_pure]
        have e : modsX P A s o = depsX x1 := by unfold modsX; rw [ho]; simp only [hx]; rfl
        exact hn undef W' who' L ⟨[], rfl, rfl, rfl⟩ h3 (by rw [e]; exact h4)
  · rename_i t len parts ho
    obtain ⟨v, W', who', L', h1, h2, h3, h4⟩ := buildSlice_sound H E hv
    refine OpOk.run ?_ h2 h3 h4.any
    unfold execOp
    rw [ho]
    simp only [Sem.run_bind, h1, Result.andThen_ok, Sem.run_pure]
  · rename_i src dst x ho
    split at hv
    · rename_i e hsrc hdst
      split at hv
      · rename_i b he hb
        simp only [Option.some.injEq] at hv
        subst hv
        have hx : a.eval x = .string b := by
          have := rep_rd E x
          rw [hb] at this
          generalize a.eval x = vx at *
          obtain ⟨x', e1, h1⟩ := this
          cases e1; cases h1; rfl
        have hrun : (execOp a.eval o).run P W = .ok (.value (.slice (some ⟨W.heap.size, 0, none⟩) b.size (grownCap W b.size 0 e))) (Lib.bytesWorld W e b) := by
          unfold execOp
          rw [ho]
          simp only [Sem.run_bind, hx, Lib.run_convert_string_bytes W src dst e b hsrc hdst he, Result.andThen_ok, Sem.run_pure]
        have hext := bytesWorld_ext W e b
        have hcells := bytesWorld_cells W e b
        let who2 : Nat → Who := fun b => if b < W.heap.size then who b else .frozen
        have hw2 : ∀ b, b < W.heap.size → who2 b = who b := fun b hb => if_pos hb
        have hsame : ∀ k, k < W.heap.size → (Lib.bytesWorld W e b).heap[k]? = W.heap[k]? := fun k hk => hext.block hk
        have S2 : Step .no W who L s.h (Lib.bytesWorld W e b) who2 L s.h :=
          { os := hext.b.os, tape := hext.b.tape, output := hext.b.output, size := hext.size
            fro := fun b hb hlt => ⟨hsame b hlt, (hw2 b hlt).trans hb⟩
            oth := fun b hb hlt => ⟨hsame b hlt, (hw2 b hlt).trans hb⟩
            bx := Nat.le_refl _, box := fun _ _ => rfl
            rw := Nat.le_refl _, row := fun r _ sz es he => ⟨⟨es, he, rfl⟩, rfl⟩
            keepB := fun b hlt k hb _ => ⟨hsame b hlt, (hw2 b hlt).trans hb⟩
            keepR := fun b hlt k hb _ => ⟨hsame b hlt, .inl ((hw2 b hlt).trans hb)⟩ }
        refine OpOk.run (v := .slice (some ⟨W.heap.size, 0, none⟩) b.size (grownCap W b.size 0 e)) hrun ⟨_, rfl, ?_⟩ (who' := who2) (L' := L) ⟨fun k xs hk => ?_, fun r ty sz es hr => ?_, fun r sz es hr => ?_⟩ S2.any
        · have hlen : (encB b.data.toList).length = b.size := by simp [encB]
          rw [← hlen]
          refine RepC.fz 1 _ _ _ (b.data.toList.map byteC) (fun e he => by simp [encB] at he; obtain ⟨_, _, rfl⟩ := he; rfl) ?_ (fun _ => ⟨_, _, rfl⟩) (fun b' off hne e2 => ?_) (fun b' off e2 j u hj => hcells.cell b' off e2 j u hj) (byteC_rep (W := Lib.bytesWorld W e b) (who := who2) _).1 (byteC_rep (W := Lib.bytesWorld W e b) (who := who2) _).2
          · rw [hlen]
            unfold grownCap
            exact Nat.le_add_right _ _
          · cases e2
            refine ⟨by simp only [who2]; rw [if_neg (Nat.lt_irrefl _)], ?_⟩
            have hb0 : b.data.toList ≠ [] := fun e3 => hne (by rw [e3]; rfl)
            exact hcells.lt (by simpa using hb0)
        · have hb := (H.box_lt (List.getElem?_eq_some_iff.1 hk).1).1
          exact box_same S2 H hk (hsame _ hb) (hw2 _ hb)
        · have hmu := H.mu r ty sz es hr
          exact own_same S2 hmu fun g hg => ⟨hsame g (hmu.lt hg), (hw2 g (hmu.lt hg)).trans (hmu.who g hg)⟩
        · exact S2.froR (H.frz r sz es hr)
      · cases hv
    · exact hR hv
  · rename_i c ho
    have hcall : ∀ {f : FuncId} {g : Operand} {bd : Bool} {ks : List Nat} {tys : List TypeId} {args : List T}, c.callee = .value g → s.x1 g = some (.clo bd f ks) →
        args = (if bd then (ks.map (fun k => ⟨.one, [.ptr k 0]⟩)) ++ c.args.toList.map s.rd else c.args.toList.map s.rd ++ ks.map (fun k => ⟨.one, [.ptr k 0]⟩)) → modsX P A s o = callMods P A f tys args s.h →
        callX K P A f tys args s.h = some r → OpOk ⟨(· ∈ (modsX P A s o).1), (· ∈ (modsX P A s o).2)⟩ P W who L s.h o a r := fun {f g bd ks tys args} hcal hg hargs hmods hx => by
      obtain ⟨hg1, hg2⟩ := rep_x1 E hg
      have R1 : RepTs W who L s.h (c.args.toList.map s.rd) (c.args.toList.map a.eval) := ⟨by simp, fun i t u h1 h2 => by
        rw [List.getElem?_map] at h1 h2
        cases hk : c.args.toList[i]? with
        | none => rw [hk] at h1; cases h1
        | some y => rw [hk] at h1 h2; cases h1; cases h2; exact rep_rd E y⟩
      have R2 : RepTs W who L s.h (ks.map (fun k => (⟨.one, [.ptr k 0]⟩ : T))) (ks.map fun k => ptrV (L.box k) 0) := ⟨by simp, fun i t u h1 h2 => by
        rw [List.getElem?_map] at h1 h2
        cases hk : ks[i]? with
        | none => rw [hk] at h1; cases h1
        | some k => rw [hk] at h1 h2; cases h1; cases h2; exact ⟨_, rfl, hg1 k (List.mem_of_getElem? hk), rfl⟩⟩
      have R : RepTs W who L s.h args (if bd then (ks.map fun k => ptrV (L.box k) 0) ++ c.args.toList.map a.eval else c.args.toList.map a.eval ++ ks.map fun k => ptrV (L.box k) 0) := by
        rw [hargs]
        cases bd with
        | true => exact R2.append R1
        | false => exact R1.append R2
      obtain ⟨⟨fn, hf1, hf2, hf3⟩, hcl⟩ := callX_sound hK H R hx
      intro next Q hn
      have hrun : (execOp a.eval o).run P W = .ok (.enter f (if bd then (ks.map fun k => ptrV (L.box k) 0) ++ c.args.toList.map a.eval else c.args.toList.map a.eval ++ ks.map fun k => ptrV (L.box k) 0).toArray) W := by
        have hnb : fn.body.isNone = false := by cases hb : fn.body <;> simp_all
        unfold execOp
        rw [ho]
        cases bd with
        | true =>
          simp only [Sem.run_bind, resolve, hcal, hg2, cloV, if_true, Deferred.ofValue, Sem.run_pure, Result.andThen_ok, invoke, callFunc, run_program, hf1, hf3, hnb, Bool.false_eq_true, if_false, Array.append_empty]
          congr 2
          apply Array.ext'; simp
        | false =>
          simp only [Sem.run_bind, resolve, hcal, hg2, cloV, Deferred.ofValue, Sem.run_pure, Result.andThen_ok, invoke, callFunc, run_program, hf1, hf3, hnb, Bool.false_eq_true, if_false, Array.empty_append]
          congr 2
          apply Array.ext'; simp
      unfold Oper.wp
      rw [hrun]
      show Calls P f _ W _
      refine hcl.mono fun e W' => ?_
      rintro ⟨v, who', L', rfl, h1, h2, h3⟩
      refine hn v W' who' L' h1 h2 (h3.up (fun k hk => ?_) (fun k hk => ?_))
      all_goals
        rw [hmods]; exact hk
    split at hv
    · rename_i hcal
      split at hv
      · rename_i x y t t' hargs htys
        have e1 : c.args = #[x, y] := by apply Array.ext'; simpa using hargs
        have e2 : c.argTypes = #[t, t'] := by apply Array.ext'; simpa using htys
        obtain ⟨v, W', who', L', h1, h2, h3, h4⟩ := append_sound (ty := o.type) H E hv
        refine OpOk.run ?_ h2 h3 (h4.up (fun _ h => h.elim) (fun k hk => by unfold modsX; rw [ho]; simp only [hcal, hargs]; exact hk))
        unfold execOp
        rw [ho]
        simp only [Sem.run_bind, resolve, hcal, Sem.run_pure, Result.andThen_ok, invoke, builtin, e1, e2, List.map_toArray, List.map_cons, List.map_nil, h1]
      · cases hv
    · rename_i g hcal
      split at hv
      · rename_i bd f hg
        exact hcall (bd := bd) (ks := []) hcal hg (by cases bd <;> simp) (by unfold modsX; rw [ho]; simp only [hcal, hg]) hv
      · rename_i f ks hne hg
        exact hcall hcal hg rfl (by
          unfold modsX; rw [ho]; simp only [hcal, hg]
          cases ks with
          | nil => simp
          | cons => rfl) hv
      · rename_i f ks hne hg
        exact hcall hcal hg rfl (by
          unfold modsX; rw [ho]; simp only [hcal, hg]
          cases ks with
          | nil => simp
          | cons => rfl) hv
      · cases hv
    · exact hR hv
  · exact hR hv
end
end Go.Proofs.YtkdnbnkbnegckaaGreatDoor
