/- The second machine's calls: a callee sees a heap of its own. -/
import Derived.Test.YtkdnbnkbnegckaaGreatDoorEvF
namespace Go.Proofs.YtkdnbnkbnegckaaGreatDoor
open Go.RowKit

/-- What is said of calls. -/
def KOk (P : Program) (K : CallFn) : Prop := ∀ f args h res h', K f args h = some (res, h') →
  (∃ fn, P.funcs[f]? = some fn ∧ fn.body.isSome = true ∧ (fn.name == "runtime.NumGoroutine") = false) ∧
  ∀ W who L (vs : List Value), HSim W who L h → args.length = vs.length → (∀ (i : Nat) t v, args[i]? = some t → vs[i]? = some v → RepT W who L h t v) →
    Calls P f vs.toArray W fun e W' => ∃ v who' L', e = .returned v ∧ RepT W' who' L' h' res v ∧ HSim W' who' L' h' ∧ Step .all W who L h W' who' L' h'

section
variable {P : Program} {W W' : World} {who who' : Nat → Who} {L L' : Lay} {h h' : Hp}

/-! One list of cells for another -/
def Map2 (R : X → X → Prop) (xs ys : List X) : Prop := xs.length = ys.length ∧ ∀ (i : Nat) x y, xs[i]? = some x → ys[i]? = some y → R x y
theorem Map2.take {R : X → X → Prop} {xs ys : List X} (H : Map2 R xs ys) (n : Nat) : Map2 R (xs.take n) (ys.take n) := ⟨by simp [H.1], fun i x y h1 h2 => H.2 i x y (take_some h1).1 (take_some h2).1⟩
theorem Map2.drop {R : X → X → Prop} {xs ys : List X} (H : Map2 R xs ys) (n : Nat) : Map2 R (xs.drop n) (ys.drop n) := ⟨by simp [H.1], fun i x y h1 h2 => H.2 (n + i) x y (by simpa [List.getElem?_drop] using h1) (by simpa [List.getElem?_drop] using h2)⟩
theorem Map2.map {R : X → X → Prop} {f : X → X} {xs : List X} (H : ∀ x ∈ xs, R x (f x)) : Map2 R xs (xs.map f) := ⟨by simp, fun i x y h1 h2 => by
  rw [List.getElem?_map, h1] at h2
  cases h2
  exact H x (List.mem_of_getElem? h1)⟩
theorem mapM_get {α β : Type} {f : α → Option β} : ∀ {xs : List α} {ys : List β}, xs.mapM f = some ys → xs.length = ys.length ∧ ∀ (i : Nat) x, xs[i]? = some x → ∃ y, ys[i]? = some y ∧ f x = some y
  | [], ys, h => by simp at h; subst h; exact ⟨rfl, fun i x h => by simp at h⟩
  | x :: xs, ys, h => by
    rw [List.mapM_cons] at h
    cases hx : f x with
    | none => simp [hx] at h
    | some y =>
      cases hxs : xs.mapM f with
      | none => simp [hx, hxs] at h
      | some ys' =>
        simp [hx, hxs] at h
        subst h
        obtain ⟨h1, h2⟩ := mapM_get hxs
        refine ⟨by simp [h1], fun i z hz => ?_⟩
        cases i with
        | zero => cases hz; exact ⟨y, rfl, hx⟩
        | succ i => exact h2 i z hz
theorem Map2.mapM {R : X → X → Prop} {f : X → Option X} {xs ys : List X} (h : xs.mapM f = some ys) (H : ∀ x ∈ xs, ∀ y, f x = some y → R x y) : Map2 R xs ys := by
  obtain ⟨h1, h2⟩ := mapM_get h
  refine ⟨h1, fun i x y hx hy => ?_⟩
  obtain ⟨y', h3, h4⟩ := h2 i x hx
  rw [hy] at h3
  cases h3
  exact H x (List.mem_of_getElem? hx) y h4

abbrev Turns (W : World) (who : Nat → Who) (L : Lay) (h : Hp) (W' : World) (who' : Nat → Who) (L' : Lay) (h' : Hp) (x y : X) : Prop := ∀ v, RepX W who L h x v → RepX W' who' L' h' y v
theorem map2_xs {xs ys : List X} {us : List Value} (M : Map2 (Turns W who L h W' who' L' h') xs ys) (H : RepXs W who L h xs us) : RepXs W' who' L' h' ys us :=
  ⟨by rw [← M.1, H.1], fun i y u h1 h2 => by
    have hi : i < xs.length := by rw [M.1]; exact (List.getElem?_eq_some_iff.1 h1).1
    obtain ⟨h3, h4⟩ := H.2 i _ u (List.getElem?_eq_getElem hi) h2
    exact ⟨M.2 i _ y (List.getElem?_eq_getElem hi) h1 u h3, h4⟩⟩
theorem map2_A {ag : Bool} {xs ys : List X} {v : Value} (M : Map2 (Turns W who L h W' who' L' h') xs ys) (H : RepA W who L h ag xs v) : RepA W' who' L' h' ag ys v := by
  cases ag with
  | true => obtain ⟨us, h1, h2⟩ := H; exact ⟨us, h1, map2_xs M h2⟩
  | false =>
    obtain ⟨x, rfl, h2⟩ := H
    have hl := M.1
    obtain ⟨y, rfl⟩ : ∃ y, ys = [y] := by
      cases ys with
      | nil => simp at hl
      | cons y ys => exact ⟨y, by have : ys = [] := List.eq_nil_of_length_eq_zero (by simpa using hl.symm); rw [this]⟩
    exact ⟨y, rfl, M.2 0 x y rfl rfl v h2⟩
theorem map2_tup : ∀ {sh : List (Bool × Nat)} {xs ys : List X} {vs : List Value}, Map2 (Turns W who L h W' who' L' h') xs ys → RepTup W who L h sh xs vs → RepTup W' who' L' h' sh ys vs
  | [], xs, ys, vs, M, H => by
    obtain ⟨rfl, rfl⟩ := H
    exact ⟨List.eq_nil_of_length_eq_zero (by simpa using M.1.symm), rfl⟩
  | (ag, n) :: sh, xs, ys, vs, M, H => by
    obtain ⟨v, vs', h1, h2, h3, h4⟩ := H
    exact ⟨v, vs', h1, by rw [← M.1]; exact h2, map2_A (M.take n) h3, map2_tup (M.drop n) h4⟩
theorem map2_T {k : Kd} {xs ys : List X} {v : Value} (M : Map2 (Turns W who L h W' who' L' h') xs ys) (H : RepT W who L h ⟨k, xs⟩ v) : RepT W' who' L' h' ⟨k, ys⟩ v := by
  cases k with
  | one => exact map2_A M H
  | agg => exact map2_A M H
  | tup sh => obtain ⟨vs, h1, h2⟩ := H; exact ⟨vs, h1, map2_tup M h2⟩

/-- The same world, more of it frozen. -/
theorem RepC.mono {c : C} {u : Value} (H : RepC W who c u) (hw : ∀ b, who b = .frozen → who' b = .frozen) : RepC W who' c u := by
  induction H with
  | v u hu => exact .v u hu
  | fz sz cap es ao us hu hc ha hf hr hl hrep ih => exact .fz sz cap es ao us hu hc ha (fun b off hne e => ⟨hw b (hf b off hne e).1, (hf b off hne e).2⟩) hr hl ih
theorem RepCs.mono {cs : List C} {us : List Value} (H : RepCs W who cs us) (hw : ∀ b, who b = .frozen → who' b = .frozen) : RepCs W who' cs us := ⟨H.1, fun i c u h1 h2 => (H.2 i c u h1 h2).mono hw⟩

/-! Lists -/
theorem idx_get {ks : List Nat} {i : Nat} (hn : ks.Nodup) (hi : i < ks.length) : ks.idxOf ks[i] = i := by
  induction ks generalizing i with
  | nil => simp at hi
  | cons k ks ih =>
    cases i with
    | zero => simp
    | succ i =>
      rw [List.nodup_cons] at hn
      have hi' : i < ks.length := by simpa using hi
      have hne : k ≠ ks[i] := fun e => hn.1 (e ▸ List.getElem_mem hi')
      rw [List.getElem_cons_succ, List.idxOf_cons, ih hn.2 hi']
      have : (k == ks[i]) = false := by simpa using hne
      rw [this]; rfl
theorem get_idx {ks : List Nat} {k : Nat} (hk : k ∈ ks) : ks[ks.idxOf k]? = some k := by
  have := List.idxOf_lt_length_of_mem hk
  rw [List.getElem?_eq_getElem this, List.getElem_idxOf]
theorem setMany_len {α : Type} : ∀ (l : List α) (ks : List Nat) (xs : List α), (setMany l ks xs).length = l.length
  | l, [], xs => by cases xs <;> rfl
  | l, k :: ks, [] => rfl
  | l, k :: ks, x :: xs => by rw [setMany, setMany_len]; simp
theorem setMany_ne {α : Type} : ∀ (l : List α) (ks : List Nat) (xs : List α) {k : Nat}, k ∉ ks → (setMany l ks xs)[k]? = l[k]?
  | l, [], xs, k, h => by cases xs <;> rfl
  | l, k' :: ks, [], k, h => rfl
  | l, k' :: ks, x :: xs, k, h => by
    rw [setMany, setMany_ne _ ks xs (fun hm => h (List.mem_cons_of_mem _ hm)), List.getElem?_set_ne (fun e => h (by rw [e]; exact List.mem_cons_self))]
theorem setMany_at {α : Type} : ∀ (l : List α) (ks : List Nat) (xs : List α) {i k : Nat}, ks.Nodup → ks[i]? = some k → k < l.length → i < xs.length → (setMany l ks xs)[k]? = xs[i]?
  | l, [], xs, i, k, hn, hi, hk, hx => by simp at hi
  | l, k' :: ks, [], i, k, hn, hi, hk, hx => by simp at hx
  | l, k' :: ks, x :: xs, i, k, hn, hi, hk, hx => by
    rw [List.nodup_cons] at hn
    cases i with
    | zero =>
      cases hi
      rw [setMany, setMany_ne _ ks xs hn.1, List.getElem?_set_self hk]
      rfl
    | succ i =>
      rw [setMany]
      exact setMany_at _ ks xs hn.2 (by simpa using hi) (by simpa using hk) (by simpa using hx)
theorem dedup_ok (nr : Nat) : ∀ (l acc : List Nat), acc.Nodup → (∀ r ∈ acc, nr ≤ r) → (dedup nr l acc).Nodup ∧ (∀ r ∈ dedup nr l acc, nr ≤ r) ∧ (∀ r ∈ acc, r ∈ dedup nr l acc) ∧ ∀ r ∈ l, nr ≤ r → r ∈ dedup nr l acc
  | [], acc, h, h2 => ⟨h, h2, fun _ hr => hr, fun r hr => by simp at hr⟩
  | r :: l, acc, h, h2 => by
    rw [dedup]
    split
    · rename_i hc
      obtain ⟨h3, h4, h5, h6⟩ := dedup_ok nr l acc h h2
      refine ⟨h3, h4, h5, fun x hx hle => ?_⟩
      rcases List.mem_cons.1 hx with rfl | hx
      · rcases hc with hc | hc
        · omega
        · exact h5 _ (by simpa using hc)
      · exact h6 x hx hle
    · rename_i hc
      have hc' : ¬ r < nr ∧ r ∉ acc := ⟨fun e => hc (.inl e), fun e => hc (.inr (by simpa using e))⟩
      obtain ⟨h3, h4, h5, h6⟩ := dedup_ok nr l (acc ++ [r]) (by
        rw [List.nodup_append]
        exact ⟨h, by simp, fun a ha b hb => by simp at hb; subst hb; exact fun e => hc'.2 (e ▸ ha)⟩) (fun x hx => by
        rcases List.mem_append.1 hx with hx | hx
        · exact h2 x hx
        · simp at hx; omega)
      refine ⟨h3, h4, fun x hx => h5 x (List.mem_append_left _ hx), fun x hx hle => ?_⟩
      rcases List.mem_cons.1 hx with rfl | hx
      · exact h5 _ (by simp)
      · exact h6 x hx hle
theorem closeB_nodup (bx : List (List X)) : ∀ (n : Nat) (todo done : List Nat), done.Nodup → (closeB bx n todo done).Nodup
  | 0, _, _, h => h
  | _ + 1, [], _, h => h
  | n + 1, k :: todo, done, h => by
    rw [closeB]
    split
    · exact closeB_nodup bx n todo done h
    · rename_i hc
      refine closeB_nodup bx n _ _ ?_
      rw [List.nodup_append]
      exact ⟨h, by simp, fun a ha b hb => by simp at hb; subst hb; exact fun e => hc (by simpa using e ▸ ha)⟩
theorem freezeRows_len : ∀ (rw : List Row) (rs : List Nat), (freezeRows rw rs).length = rw.length
  | _, [] => rfl
  | rw, r :: rs => by rw [freezeRows, freezeRows_len]; simp
theorem frz_frz (x : Row) : x.frz.frz = x.frz := by cases x <;> rfl
theorem freezeRows_at : ∀ (rs : List Nat) (rw : List Row) (r : Nat), (freezeRows rw rs)[r]? = if r ∈ rs then (rw[r]?).map Row.frz else rw[r]?
  | [], rw, r => by simp [freezeRows]
  | q :: rs, rw, r => by
    rw [freezeRows, freezeRows_at rs, List.getElem?_modify]
    by_cases e : q = r
    · subst e
      cases hr : rw[q]? <;> simp [frz_frz]
    · have e' : ¬ r = q := fun h => e h.symm
      cases hr : rw[r]? <;> simp [e, e']
end
end Go.Proofs.YtkdnbnkbnegckaaGreatDoor
