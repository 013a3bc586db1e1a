/- The second machine's code and functions, in the first machine's terms. -/
import Derived.Test.YtkdnbnkbnegckaaGreatDoorEvJ
namespace Go.Proofs.YtkdnbnkbnegckaaGreatDoor
open Go.RowKit

section
variable {P : Program} {W W' W0 : World} {who who' who0 : Nat → Who} {L L' L0 : Lay} {h h' h0 : Hp} {K : CallFn} {A : Ann}

/-! Compaction -/
theorem compact_sound (H : HSim W who L h) {nb nr : Nat} {ts : List T} (hnr : nr ≤ h.rw.length) (S0 : Step .all W0 who0 L0 h0 W who L h) (hb0 : h0.bx.length ≤ nb) (hr0 : h0.rw.length ≤ nr) :
    ∃ who' L', HSim W who' L' (compact nb nr ts h).2 ∧ Step .all W0 who0 L0 h0 W who' L' (compact nb nr ts h).2 ∧ (compact nb nr ts h).1.length = ts.length ∧
      ∀ (i : Nat) t t' v, ts[i]? = some t → (compact nb nr ts h).1[i]? = some t' → RepT W who L h t v → RepT W who' L' (compact nb nr ts h).2 t' v := by
  unfold compact
  simp only
  generalize hnb : (if (ts.flatMap (·.xs) ++ (h.bx.take nb).flatten).all fun x => x.ptrs.all (· < nb) then nb else h.bx.length) = nb'
  generalize hids : dedup nr ((ts.flatMap (·.xs) ++ (h.bx.take nb').flatten).flatMap X.rows) [] = ids
  obtain ⟨hnd, hge, _, hall⟩ := dedup_ok nr ((ts.flatMap (·.xs) ++ (h.bx.take nb').flatten).flatMap X.rows) [] (by simp) (by simp)
  rw [hids] at hnd hge hall
  generalize hf : renTo nr ids = f
  have f_lt : ∀ {r}, r < nr → f r = r := fun {r} hr => by rw [← hf]; exact if_pos hr
  have f_ge : ∀ {r}, ¬ r < nr → f r = nr + ids.idxOf r := fun {r} hr => by rw [← hf]; exact if_neg hr
  have hb0' : h0.bx.length ≤ nb' := by
    rw [← hnb]
    split
    · exact hb0
    · exact S0.bx
  let hE : Hp := ⟨(h.bx.take nb').map (·.map (X.ren f id)), h.rw.take nr ++ ids.map fun r => h.rw.getD r .dead⟩
  let whoE : Nat → Who := fun b => match who b with
    | .row r => if r < nr then .row r else if r ∈ ids then .row (f r) else .frozen
    | .box k => if k < nb' then .box k else .frozen
    | .frozen => .frozen
    | .other => .other
  let LE : Lay := ⟨L.box, fun i => if i < nr then L.row i else L.row (ids.getD (i - nr) 0)⟩
  have tl : (h.rw.take nr).length = nr := by simp; omega
  have rw_lt : ∀ {r}, r < nr → hE.rw[r]? = h.rw[r]? := fun {r} hr => by
    show (h.rw.take nr ++ _)[r]? = _
    rw [List.getElem?_append_left (by rw [tl]; exact hr), List.getElem?_take_of_lt hr]
  have rw_ge : ∀ {j r}, ids[j]? = some r → r < h.rw.length → hE.rw[nr + j]? = h.rw[r]? := fun {j r} hj hr => by
    show (h.rw.take nr ++ _)[nr + j]? = _
    rw [List.getElem?_append_right (by rw [tl]; omega), tl, List.getElem?_map, show nr + j - nr = j by omega, hj]
    simp [List.getD_eq_getElem?_getD, List.getElem?_eq_getElem hr]
  have rw_f : ∀ {r}, r < h.rw.length → (r < nr ∨ r ∈ ids) → hE.rw[f r]? = h.rw[r]? := fun {r} hr hm => by
    by_cases hlt : r < nr
    · rw [f_lt hlt, rw_lt hlt]
    · rw [f_ge hlt, rw_ge (get_idx (hm.resolve_left hlt)) hr]
  have row_f : ∀ {r}, r < h.rw.length → (r < nr ∨ r ∈ ids) → hE.row (f r) = h.row r := fun {r} hr hm => by unfold Hp.row; rw [rw_f hr hm]
  have lrow_f : ∀ {r}, (r < nr ∨ r ∈ ids) → LE.row (f r) = L.row r := fun {r} hm => by
    show (if f r < nr then L.row (f r) else L.row (ids.getD (f r - nr) 0)) = _
    by_cases hlt : r < nr
    · rw [f_lt hlt, if_pos hlt]
    · rw [f_ge hlt, if_neg (by omega), show nr + ids.idxOf r - nr = ids.idxOf r by omega, idx_eq (hm.resolve_left hlt)]
  have flen : ∀ {r}, r < h.rw.length → (r < nr ∨ r ∈ ids) → f r < hE.rw.length := fun {r} hr hm => by
    show f r < (h.rw.take nr ++ _).length
    rw [List.length_append, tl, List.length_map]
    by_cases hlt : r < nr
    · rw [f_lt hlt]; omega
    · rw [f_ge hlt]
      have := List.idxOf_lt_length_of_mem (hm.resolve_left hlt)
      omega
  have hfro : ∀ b, who b = .frozen → whoE b = .frozen := fun b hb => by simp only [whoE, hb]
  have turns : ∀ x, (∀ r ∈ x.rows, r < nr ∨ r ∈ ids) → (∀ k ∈ x.ptrs, k < nb' ∨ h.bx.length ≤ k) → Turns W who L h W whoE LE hE x (x.ren f id) := fun x hxr hxp v hv => by
    have bl : hE.bx.length = min nb' h.bx.length := by show ((h.bx.take nb').map _).length = _; simp
    cases x with
    | c d => exact RepC.mono hv hfro
    | own r off n =>
      have hm := hxr r (by simp [X.rows])
      refine ⟨flen hv.1 hm, hv.2.1, fun sz es he => ?_⟩
      rw [row_f hv.1 hm] at he
      rw [lrow_f hm]
      exact hv.2.2 sz es he
    | ptr k off =>
      have := (hxp k (by simp [X.ptrs])).resolve_right (by have := hv.1; omega)
      exact ⟨by show k < hE.bx.length; rw [bl]; have := hv.1; omega, hv.2⟩
    | ep r i off =>
      have hm := hxr r (by simp [X.rows])
      obtain ⟨h1, b, o, h2, h3⟩ := hv
      refine ⟨flen h1 hm, b, o, h2, fun sz es he => ?_⟩
      rw [row_f h1 hm] at he
      rw [lrow_f hm]
      exact h3 sz es he
    | fp e off =>
      obtain ⟨b, o, us, h1, ⟨h2, h3⟩, h4, h5⟩ := hv
      exact ⟨b, o, us, h1, ⟨hfro b h2, h3⟩, h4, h5.mono hfro⟩
    | clo bd fn ks =>
      obtain ⟨h1, h2⟩ := hv
      refine ⟨fun k hk => ?_, by rw [h2]; simp [LE]⟩
      simp at hk
      have h3 := h1 k hk
      have := (hxp k (by simpa [X.ptrs] using hk)).resolve_right (by omega)
      rw [bl]; omega
    | junk => trivial
  have hroots : ∀ x ∈ ts.flatMap (·.xs) ++ (h.bx.take nb').flatten, (∀ r ∈ x.rows, r < nr ∨ r ∈ ids) := fun x hx r hr => by
    by_cases hlt : r < nr
    · exact .inl hlt
    · exact .inr (hall r (List.mem_flatMap.2 ⟨x, hx, hr⟩) (by omega))
  have hptrs : ∀ x ∈ ts.flatMap (·.xs) ++ (h.bx.take nb').flatten, (∀ k ∈ x.ptrs, k < nb' ∨ h.bx.length ≤ k) := fun x hx k hk => by
    by_cases hc : ((ts.flatMap (·.xs) ++ (h.bx.take nb).flatten).all fun x => x.ptrs.all (· < nb)) = true
    · rw [if_pos hc] at hnb
      subst hnb
      have := List.all_eq_true.1 (List.all_eq_true.1 hc x hx) k hk
      exact .inl (by simpa using this)
    · rw [if_neg hc] at hnb
      omega
  have SE : Step .all W0 who0 L0 h0 W whoE LE hE :=
    { os := S0.os, tape := S0.tape, output := S0.output, size := S0.size
      fro := fun b hb hlt => ⟨(S0.fro b hb hlt).1, hfro b (S0.fro b hb hlt).2⟩
      oth := fun b hb hlt => ⟨(S0.oth b hb hlt).1, by simp only [whoE, (S0.oth b hb hlt).2]⟩
      bx := by show _ ≤ ((h.bx.take nb').map _).length; have := S0.bx; simp; omega
      box := S0.box
      rw := by show _ ≤ (h.rw.take nr ++ _).length; rw [List.length_append, tl]; omega
      row := fun r hr sz es he => by
        have hlt : r < nr := by omega
        have e1 : hE.row r = h.row r := by unfold Hp.row; rw [rw_lt hlt]
        rw [e1] at he
        obtain ⟨h1, h2⟩ := S0.row r hr sz es he
        exact ⟨h1, by show (if r < nr then _ else _) = _; rw [if_pos hlt]; exact h2⟩
      keepB := fun _ _ _ _ hm => absurd trivial hm
      keepR := fun _ _ _ _ hm => absurd trivial hm }
  refine ⟨whoE, LE, ⟨fun k ys hk => ?_, fun i ty sz es hi => ?_, fun i sz es hi => ?_⟩, SE, by simp, fun i t t' v h1 h2 hv => ?_⟩
  · rw [List.getElem?_map] at hk
    cases hq : (h.bx.take nb')[k]? with
    | none => simp [hq] at hk
    | some xs =>
      simp only [hq, Option.map_some, Option.some.injEq] at hk
      subst hk
      obtain ⟨hq1, hq2⟩ := take_some hq
      obtain ⟨us, ty, h3, h4, h5⟩ := H.box k xs hq1
      refine ⟨us, ty, h3, by simp only [whoE, LE, h4, hq2, if_true], map2_xs (Map2.map fun x hx => turns x ?_ ?_) h5⟩
      · exact hroots x (List.mem_append_right _ (List.mem_flatten.2 ⟨xs, List.mem_of_getElem? hq, hx⟩))
      · exact hptrs x (List.mem_append_right _ (List.mem_flatten.2 ⟨xs, List.mem_of_getElem? hq, hx⟩))
  · by_cases hlt : i < nr
    · rw [show (h.rw.take nr ++ ids.map fun r => h.rw.getD r .dead)[i]? = h.rw[i]? from rw_lt hlt] at hi
      have hmu := H.mu i ty sz es hi
      obtain ⟨us, h3, h4⟩ := hmu.own
      show OwnR W whoE i ty sz es (if i < nr then L.row i else _)
      rw [if_pos hlt]
      exact ⟨hmu.size, ⟨us, h3, h4.mono hfro⟩, fun g hg => by simp only [whoE, hmu.who g hg, hlt, if_true]⟩
    · rw [List.getElem?_append_right (by rw [tl]; omega), tl, List.getElem?_map] at hi
      cases hj : ids[i - nr]? with
      | none => simp [hj] at hi
      | some r =>
        simp only [hj, Option.map_some, Option.some.injEq, List.getD_eq_getElem?_getD] at hi
        have hr : h.rw[r]? = some (.mu ty sz es) := by
          cases hq : h.rw[r]? with
          | none => rw [hq] at hi; cases hi
          | some x => rw [hq] at hi; simpa using hi
        have hmu := H.mu r ty sz es hr
        obtain ⟨us, h3, h4⟩ := hmu.own
        have hrm := List.mem_of_getElem? hj
        have hrl : ¬ r < nr := by have := hge r hrm; omega
        have hfi : f r = i := by
          rw [f_ge hrl]
          have := idx_get hnd (List.getElem?_eq_some_iff.1 hj).1
          rw [(List.getElem?_eq_some_iff.1 hj).2] at this
          omega
        show OwnR W whoE i ty sz es (if i < nr then L.row i else L.row (ids.getD (i - nr) 0))
        rw [if_neg hlt, List.getD_eq_getElem?_getD, hj]
        exact ⟨hmu.size, ⟨us, h3, h4.mono hfro⟩, fun g hg => by simp only [whoE, hmu.who g hg, hrl, hrm, if_true, if_false, hfi]⟩
  · by_cases hlt : i < nr
    · rw [show (h.rw.take nr ++ ids.map fun r => h.rw.getD r .dead)[i]? = h.rw[i]? from rw_lt hlt] at hi
      have hf2 := H.frz i sz es hi
      show FroR W whoE sz es (if i < nr then L.row i else _)
      rw [if_pos hlt]
      exact ⟨hf2.rep.mono hfro, fun g hg => ⟨hfro g (hf2.who g hg).1, (hf2.who g hg).2⟩⟩
    · rw [List.getElem?_append_right (by rw [tl]; omega), tl, List.getElem?_map] at hi
      cases hj : ids[i - nr]? with
      | none => simp [hj] at hi
      | some r =>
        simp only [hj, Option.map_some, Option.some.injEq, List.getD_eq_getElem?_getD] at hi
        have hr : h.rw[r]? = some (.fro sz es) := by
          cases hq : h.rw[r]? with
          | none => rw [hq] at hi; cases hi
          | some x => rw [hq] at hi; simpa using hi
        have hf2 := H.frz r sz es hr
        show FroR W whoE sz es (if i < nr then L.row i else L.row (ids.getD (i - nr) 0))
        rw [if_neg hlt, List.getD_eq_getElem?_getD, hj]
        exact ⟨hf2.rep.mono hfro, fun g hg => ⟨hfro g (hf2.who g hg).1, (hf2.who g hg).2⟩⟩
  · rw [List.getElem?_map, h1] at h2
    simp only [Option.map_some, Option.some.injEq] at h2
    subst h2
    obtain ⟨k, xs⟩ := t
    refine map2_T (Map2.map fun x hx => turns x ?_ ?_) hv
    · exact hroots x (List.mem_append_left _ (List.mem_flatMap.2 ⟨_, List.mem_of_getElem? h1, hx⟩))
    · exact hptrs x (List.mem_append_left _ (List.mem_flatMap.2 ⟨_, List.mem_of_getElem? h1, hx⟩))

/-! A loop's round -/
theorem mask_get (keep : List Nat) : ∀ (l : List T) (i j : Nat), (maskE keep i l)[j]? = (l[j]?).map fun x => if keep.contains (i + j) then x else junkT
  | [], i, j => by simp [maskE]
  | x :: l, i, 0 => by simp [maskE]
  | x :: l, i, j + 1 => by simp only [maskE, List.getElem?_cons_succ, mask_get keep l (i + 1) j]; rw [show i + 1 + j = i + (j + 1) by omega]

theorem new_row (H : HSim W who L h) (e sz : Nat) : ∃ who' L', HSim W who' L' ⟨h.bx, h.rw ++ [.mu e sz []]⟩ ∧ Step .no W who L h W who' L' ⟨h.bx, h.rw ++ [.mu e sz []]⟩ ∧ RepX W who' L' ⟨h.bx, h.rw ++ [.mu e sz []]⟩ (.own h.rw.length 0 0) (.slice none 0 0) := by
  obtain ⟨who', H', S'⟩ := grow_sim (W' := W) (e := e) (sz := sz) (v := .slice none 0 0) (v' := .slice none 0 0) (rid := none) (es := []) (news := []) (us := []) (vs := []) H (.inl ⟨rfl, rfl⟩) (by simp) (World.ownsRow_nil _ _ _ _) (Grow.rf _ _) ⟨rfl, fun i c u h => by simp at h⟩ ⟨rfl, fun i c u h => by simp at h⟩
  have ho := rep_own H' (r := h.rw.length) (ty := e) (sz := sz) (es := [] ++ []) (by simp [kill])
  exact ⟨who', _, H', S'.up (fun _ h => h) (fun k hk => by cases hk), by simpa [kill] using ho⟩

theorem box_swap (H : HSim W who L h) {k : Nat} {xs ys : List X} (hk : h.bx[k]? = some xs) (hy : ∀ us, RepXs W who L h xs us → RepXs W who L h ys us) :
    HSim W who L ⟨h.bx.set k ys, h.rw⟩ ∧ Step .no W who L h W who L ⟨h.bx.set k ys, h.rw⟩ := by
  have S : Step .no W who L h W who L ⟨h.bx.set k ys, h.rw⟩ :=
    { os := rfl, tape := rfl, output := rfl, size := Nat.le_refl _
      fro := fun _ hb _ => ⟨rfl, hb⟩, oth := fun _ hb _ => ⟨rfl, hb⟩, bx := by simp, box := fun _ _ => rfl, rw := Nat.le_refl _
      row := fun r _ sz es he => ⟨⟨es, he, rfl⟩, rfl⟩, keepB := fun _ _ _ hb _ => ⟨rfl, hb⟩, keepR := fun _ _ _ hb _ => ⟨rfl, .inl hb⟩ }
  refine ⟨⟨fun k2 zs hk2 => ?_, fun r ty sz es hr => own_same S (H.mu r ty sz es hr) fun g hg => ⟨rfl, (H.mu r ty sz es hr).who g hg⟩, fun r sz es hr => S.froR (H.frz r sz es hr)⟩, S⟩
  by_cases e : k = k2
  · subst e
    rw [List.getElem?_set_self (List.getElem?_eq_some_iff.1 hk).1] at hk2
    cases hk2
    obtain ⟨us, ty, h1, h2, h3⟩ := H.box k xs hk
    exact ⟨us, ty, h1, h2, S.repXs (hy _ h3)⟩
  · rw [List.getElem?_set_ne e] at hk2
    exact box_same S H hk2 rfl rfl

theorem move_sound {s : S} {a : Array Value} {r : Nat} (H : HSim W who L s.h) (E : ESim W who L s a) (hr : r < s.h.rw.length) :
    ∃ who' L', HSim W who' L' (s.moveRow r).h ∧ ESim W who' L' (s.moveRow r) a ∧ Step .all W who L s.h W who' L' (s.moveRow r).h := by
  obtain ⟨e, h⟩ := s
  simp only at H E hr
  let n := h.rw.length
  let f := mvF n r
  let hE : Hp := ⟨h.bx.map (·.map (X.ren f id)), h.rw.set r .dead ++ [h.rw.getD r .dead]⟩
  let whoE : Nat → Who := fun b => match who b with
    | .row x => .row (f x)
    | .box k => .box k
    | .frozen => .frozen
    | .other => .other
  let LE : Lay := ⟨L.box, upd L.row n (L.row r)⟩
  have hn : n = h.rw.length := rfl
  have fr : f r = n := if_pos rfl
  have fo : ∀ {x}, x ≠ r → f x = x := fun {x} hx => if_neg hx
  have fne : ∀ {x}, x < n → x ≠ r → f x ≠ n := fun {x} h1 h2 => by rw [fo h2]; omega
  have rw_r : hE.rw[r]? = some .dead := by
    show (h.rw.set r .dead ++ _)[r]? = _
    rw [List.getElem?_append_left (by simpa using hr), List.getElem?_set_self hr]
  have rw_n : hE.rw[n]? = h.rw[r]? := by
    show (h.rw.set r .dead ++ _)[n]? = _
    rw [List.getElem?_append_right (by simp [hn])]
    simp [hn, List.getD_eq_getElem?_getD, List.getElem?_eq_getElem hr]
  have rw_o : ∀ {x}, x < n → x ≠ r → hE.rw[x]? = h.rw[x]? := fun {x} h1 h2 => by
    show (h.rw.set r .dead ++ _)[x]? = _
    rw [List.getElem?_append_left (by simpa using h1), List.getElem?_set_ne (Ne.symm h2)]
  have rw_f : ∀ {x}, x < n → hE.rw[f x]? = h.rw[x]? := fun {x} hx => by
    by_cases e1 : x = r
    · subst e1; rw [fr, rw_n]
    · rw [fo e1, rw_o hx e1]
  have row_f : ∀ {x}, x < n → hE.row (f x) = h.row x := fun {x} hx => by unfold Hp.row; rw [rw_f hx]
  have lrow_f : ∀ {x}, x < n → LE.row (f x) = L.row x := fun {x} hx => by
    show upd L.row n (L.row r) (f x) = _
    by_cases e1 : x = r
    · subst e1; rw [fr, upd_same]
    · rw [fo e1, upd_ne _ _ (by omega)]
  have flen : ∀ {x}, x < n → f x < hE.rw.length := fun {x} hx => by
    show f x < (h.rw.set r .dead ++ _).length
    simp only [List.length_append, List.length_set, List.length_singleton]
    by_cases e1 : x = r
    · subst e1; rw [fr]; omega
    · rw [fo e1]; omega
  have hfro : ∀ b, who b = .frozen → whoE b = .frozen := fun b hb => by simp only [whoE, hb]
  have turns : ∀ x, Turns W who L h W whoE LE hE x (x.ren f id) := fun x v hv => by
    cases x with
    | c d => exact RepC.mono hv hfro
    | own q off m =>
      refine ⟨flen hv.1, hv.2.1, fun sz es he => ?_⟩
      rw [row_f hv.1] at he
      rw [lrow_f hv.1]
      exact hv.2.2 sz es he
    | ptr k off => exact ⟨by show k < (h.bx.map _).length; simpa using hv.1, hv.2⟩
    | ep q i off =>
      obtain ⟨h1, b, o, h2, h3⟩ := hv
      refine ⟨flen h1, b, o, h2, fun sz es he => ?_⟩
      rw [row_f h1] at he
      rw [lrow_f h1]
      exact h3 sz es he
    | fp e off =>
      obtain ⟨b, o, us, h1, ⟨h2, h3⟩, h4, h5⟩ := hv
      exact ⟨b, o, us, h1, ⟨hfro b h2, h3⟩, h4, h5.mono hfro⟩
    | clo bd fn ks =>
      obtain ⟨h1, h2⟩ := hv
      refine ⟨fun k hk => ?_, by rw [h2]; simp [LE]⟩
      simp at hk
      show k < (h.bx.map _).length
      simpa using h1 k hk
    | junk => trivial
  have SE : Step .all W who L h W whoE LE hE :=
    { os := rfl, tape := rfl, output := rfl, size := Nat.le_refl _
      fro := fun b hb _ => ⟨rfl, hfro b hb⟩
      oth := fun b hb _ => ⟨rfl, by simp only [whoE, hb]⟩
      bx := by show _ ≤ (h.bx.map _).length; simp
      box := fun _ _ => rfl
      rw := by show _ ≤ (h.rw.set r .dead ++ _).length; simp
      row := fun x hx sz es he => by
        by_cases e1 : x = r
        · subst e1
          unfold Hp.row at he
          rw [rw_r] at he
          cases he
        · have e2 : hE.row x = h.row x := by unfold Hp.row; rw [rw_o hx e1]
          rw [e2] at he
          exact ⟨⟨es, he, rfl⟩, upd_ne _ _ (by omega)⟩
      keepB := fun _ _ _ _ hm => absurd trivial hm
      keepR := fun _ _ _ _ hm => absurd trivial hm }
  refine ⟨whoE, LE, ⟨fun k ys hk => ?_, fun i ty sz es hi => ?_, fun i sz es hi => ?_⟩, ⟨?_, fun t x hx => ?_⟩, SE⟩
  · change (h.bx.map _)[k]? = some ys at hk
    rw [List.getElem?_map] at hk
    cases hq : h.bx[k]? with
    | none => simp [hq] at hk
    | some xs =>
      simp only [hq, Option.map_some, Option.some.injEq] at hk
      subst hk
      obtain ⟨us, ty, h3, h4, h5⟩ := H.box k xs hq
      exact ⟨us, ty, h3, by simp only [whoE, LE, h4], map2_xs (Map2.map fun x hx => turns x) h5⟩
  · change hE.rw[i]? = some (.mu ty sz es) at hi
    by_cases e1 : i = r
    · subst e1; rw [rw_r] at hi; cases hi
    · have hil : i < hE.rw.length := (List.getElem?_eq_some_iff.1 hi).1
      have hlen : hE.rw.length = n + 1 := by show (h.rw.set r .dead ++ _).length = _; simp [hn]
      by_cases e2 : i = n
      · subst e2
        rw [rw_n] at hi
        have hmu := H.mu r ty sz es hi
        obtain ⟨us, h3, h4⟩ := hmu.own
        show OwnR W whoE n ty sz es (upd L.row n (L.row r) n)
        rw [upd_same]
        exact ⟨hmu.size, ⟨us, h3, h4.mono hfro⟩, fun g hg => by simp only [whoE, hmu.who g hg, fr]⟩
      · rw [rw_o (by omega) e1] at hi
        have hmu := H.mu i ty sz es hi
        obtain ⟨us, h3, h4⟩ := hmu.own
        show OwnR W whoE i ty sz es (upd L.row n (L.row r) i)
        rw [upd_ne _ _ e2]
        exact ⟨hmu.size, ⟨us, h3, h4.mono hfro⟩, fun g hg => by simp only [whoE, hmu.who g hg, fo e1]⟩
  · change hE.rw[i]? = some (.fro sz es) at hi
    by_cases e1 : i = r
    · subst e1; rw [rw_r] at hi; cases hi
    · have hil : i < hE.rw.length := (List.getElem?_eq_some_iff.1 hi).1
      have hlen : hE.rw.length = n + 1 := by show (h.rw.set r .dead ++ _).length = _; simp [hn]
      by_cases e2 : i = n
      · subst e2
        rw [rw_n] at hi
        have hf2 := H.frz r sz es hi
        show FroR W whoE sz es (upd L.row n (L.row r) n)
        rw [upd_same]
        exact ⟨hf2.rep.mono hfro, fun g hg => ⟨hfro g (hf2.who g hg).1, (hf2.who g hg).2⟩⟩
      · rw [rw_o (by omega) e1] at hi
        have hf2 := H.frz i sz es hi
        show FroR W whoE sz es (upd L.row n (L.row r) i)
        rw [upd_ne _ _ e2]
        exact ⟨hf2.rep.mono hfro, fun g hg => ⟨hfro g (hf2.who g hg).1, (hf2.who g hg).2⟩⟩
  · simpa [S.moveRow] using E.1
  · change (e.map _)[t]? = some x at hx
    rw [List.getElem?_map] at hx
    cases hq : e[t]? with
    | none => simp [hq] at hx
    | some y =>
      simp only [hq, Option.map_some, Option.some.injEq] at hx
      subst hx
      obtain ⟨k, xs⟩ := y
      exact map2_T (Map2.map fun x hx => turns x) (E.2 t _ hq)

theorem adoptE_sound {nr : Nat} : ∀ (l : List (Nat × Option Nat × TypeId)) {s s' : S} {a : Array Value} {who : Nat → Who} {L : Lay}, HSim W who L s.h → ESim W who L s a → Step .all W0 who0 L0 h0 W who L s.h → adoptE P nr l s = some s' →
    ∃ who' L', HSim W who' L' s'.h ∧ ESim W who' L' s' a ∧ Step .all W0 who0 L0 h0 W who' L' s'.h
  | [], s, s', a, who, L, H, E, S0, he => by cases he; exact ⟨who, L, H, E, S0⟩
  | (t, none, ty) :: l, s, s', a, who, L, H, E, S0, he => by
    rw [adoptE] at he
    split at he
    · rename_i ht
      cases h1 : elemT P ty with
      | none => simp [h1] at he
      | some e =>
      cases hz : szT P e with
      | none => simp [h1, hz] at he
      | some sz =>
        simp only [h1, hz, Option.bind_some] at he
        obtain ⟨who', L', H', S', ho⟩ := new_row H e sz
        have E' := S'.env E
        have hv : a.getD t undef = .slice none 0 0 := by
          have := E.2 t _ ht
          generalize a.getD t undef = u at *
          obtain ⟨x, e1, h1⟩ := this
          cases e1; cases h1; rfl
        exact adoptE_sound l (s := ⟨s.env.set t ⟨.one, [.own s.h.rw.length 0 0]⟩, ⟨s.h.bx, s.h.rw ++ [.mu e sz []]⟩⟩) (a := a) H' ⟨by simp [E.1], fun q x hq => by
          by_cases eq : t = q
          · subst eq
            simp only at hq
            rw [List.getElem?_set_self (List.getElem?_eq_some_iff.1 ht).1] at hq
            cases hq
            rw [hv]
            exact ⟨_, rfl, ho⟩
          · simp only at hq
            rw [List.getElem?_set_ne eq] at hq
            exact E'.2 q x hq⟩ (S0.tr (Step.top S')) he
    · split at he
      · rename_i hlt
        obtain ⟨who', L', H', E', S'⟩ := move_sound H E hlt.2
        exact adoptE_sound l H' E' (S0.tr S') he
      · exact adoptE_sound l H E S0 he
    · exact adoptE_sound l H E S0 he
  | (t, some off, ty) :: l, s, s', a, who, L, H, E, S0, he => by
    rw [adoptE] at he
    split at he
    · rename_i k ht
      split at he
      · rename_i xs hx
        cases h1 : elemT P ty with
        | none => simp [h1] at he
        | some e =>
        cases hz : szT P e with
        | none => simp [h1, hz] at he
        | some sz =>
          simp only [h1, hz, Option.bind_some] at he
          cases hk : s.h.bx[k]? with
          | none => simp [hk] at hx
          | some zs =>
          cases hx2 : zs[off]? with
          | none => simp [hk, hx2] at hx
          | some x =>
            simp only [hk, hx2, Option.bind_some, Option.map_some, Option.some.injEq, Prod.mk.injEq] at hx
            obtain ⟨rfl, rfl⟩ := hx
            obtain ⟨who', L', H', S', ho⟩ := new_row H e sz
            obtain ⟨H2, S2⟩ := box_swap (k := k) (xs := zs) (ys := zs.set off (.own s.h.rw.length 0 0)) H' hk (fun us hus => by
              refine ⟨by simpa using hus.1, fun i y u h2 h3 => ?_⟩
              by_cases eq : off = i
              · subst eq
                rw [List.getElem?_set_self (List.getElem?_eq_some_iff.1 hx2).1] at h2
                cases h2
                obtain ⟨h4, h5⟩ := hus.2 off _ u hx2 h3
                cases h4
                exact ⟨ho, h5⟩
              · rw [List.getElem?_set_ne eq] at h2
                exact hus.2 i y u h2 h3)
            exact adoptE_sound l (s := ⟨s.env, ⟨s.h.bx.set k (zs.set off (.own s.h.rw.length 0 0)), s.h.rw ++ [.mu e sz []]⟩⟩) (a := a) H2 (S2.env (s := ⟨s.env, ⟨s.h.bx, s.h.rw ++ [.mu e sz []]⟩⟩) (S'.env E)) ((S0.tr (Step.top S')).tr (Step.top S2)) he
      · split at he
        · rename_i hlt
          obtain ⟨who', L', H', E', S'⟩ := move_sound H E hlt.2
          exact adoptE_sound l H' E' (S0.tr S') he
        · exact adoptE_sound l H E S0 he
      · exact adoptE_sound l H E S0 he
    · exact adoptE_sound l H E S0 he

theorem mask_len (keep : List Nat) : ∀ (l : List T) (i : Nat), (maskE keep i l).length = l.length
  | [], _ => rfl
  | x :: l, i => by simp [maskE, mask_len keep l]
theorem mask_sound {s : S} {a : Array Value} {nb nr : Nat} {keep : List Nat} (H : HSim W who L s.h) (E : ESim W who L s a) (S0 : Step .all W0 who0 L0 h0 W who L s.h) (hnr : h0.rw.length = nr) (hnb : h0.bx.length ≤ nb) :
    ∃ who' L', HSim W who' L' (compact nb nr (maskE keep 0 s.env) s.h).2 ∧ ESim W who' L' ⟨(compact nb nr (maskE keep 0 s.env) s.h).1, (compact nb nr (maskE keep 0 s.env) s.h).2⟩ a ∧ Step .all W0 who0 L0 h0 W who' L' (compact nb nr (maskE keep 0 s.env) s.h).2 := by
  obtain ⟨who2, L2, H2, S2, hlen, hr⟩ := compact_sound (nb := nb) (nr := nr) (ts := maskE keep 0 s.env) H (by rw [← hnr]; exact S0.rw) S0 hnb (by omega)
  refine ⟨who2, L2, H2, ⟨by rw [hlen, mask_len, E.1], fun t x hx => ?_⟩, S2⟩
  have hlt : t < s.env.length := by have := (List.getElem?_eq_some_iff.1 hx).1; rw [hlen, mask_len] at this; exact this
  have hm : (maskE keep 0 s.env)[t]? = some (if keep.contains (0 + t) then s.env[t] else junkT) := by rw [mask_get, List.getElem?_eq_getElem hlt]; rfl
  refine hr t _ x _ hm hx ?_
  split
  · exact E.2 t _ (List.getElem?_eq_getElem hlt)
  · exact ⟨_, rfl, trivial⟩

theorem wkX_rep {x : X} {v : Value} {sz : Nat} (H : RepX W who L h x v) : RepX W who L h (wkX sz x) v := by
  unfold wkX
  split
  · have : v = .slice none 0 0 := by cases H; rfl
    subst this
    exact .fz sz 0 [] none [] (by simp) (by simp) (by simp) (by simp) (fun b off e => by cases e) rfl (by simp)
  · exact H
theorem wkXs_rep {xs : List X} {us : List Value} (i sz : Nat) (H : RepXs W who L h xs us) : RepXs W who L h (xs.modify i (wkX sz)) us :=
  ⟨by simp [H.1], fun j x u h1 h2 => by
    rw [List.getElem?_modify] at h1
    cases hx : xs[j]? with
    | none => simp [hx] at h1
    | some y =>
      simp only [hx, Option.map_eq_map, Option.map_some, Option.some.injEq] at h1
      have hy := H.2 j y u hx h2
      subst h1
      split
      · exact ⟨wkX_rep hy.1, hy.2⟩
      · exact hy⟩
theorem wkT_rep {t : T} {v : Value} (i sz : Nat) (H : RepT W who L h t v) : RepT W who L h (wkT i sz t) v := by
  obtain ⟨k, xs⟩ := t
  cases k with
  | one =>
    obtain ⟨x, rfl, hx⟩ := H
    cases i with
    | zero => exact ⟨_, rfl, wkX_rep hx⟩
    | succ i => exact ⟨x, by simp, hx⟩
  | agg =>
    obtain ⟨us, rfl, hx⟩ := H
    exact ⟨us, rfl, wkXs_rep i sz hx⟩
  | tup sh => exact H
theorem wkE_sound : ∀ (l : List (Bool × Nat × Nat × Nat)) {s : S} {a : Array Value} {who : Nat → Who} {L : Lay}, HSim W who L s.h → ESim W who L s a → Step .all W0 who0 L0 h0 W who L s.h → HSim W who L (wkE l s).h ∧ ESim W who L (wkE l s) a ∧ Step .all W0 who0 L0 h0 W who L (wkE l s).h
  | [], s, a, who, L, H, E, S0 => ⟨H, E, S0⟩
  | (false, t, i, sz) :: l, s, a, who, L, H, E, S0 => by
    refine wkE_sound l (s := ⟨s.env.modify t (wkT i sz), s.h⟩) H ⟨by simp [E.1], fun j x hx => ?_⟩ S0
    rw [List.getElem?_modify] at hx
    cases hy : s.env[j]? with
    | none => simp [hy] at hx
    | some y =>
      simp only [hy, Option.map_eq_map, Option.map_some, Option.some.injEq] at hx
      have h1 := E.2 j y hy
      subst hx
      split
      · exact wkT_rep i sz h1
      · exact h1
  | (true, k, i, sz) :: l, s, a, who, L, H, E, S0 => by
    cases hk : s.h.bx[k]? with
    | none =>
      have e : s.h.bx.modify k (·.modify i (wkX sz)) = s.h.bx := List.modify_eq_self (List.getElem?_eq_none_iff.1 hk)
      simp only [wkE, e]
      exact wkE_sound l H E S0
    | some xs =>
      have e : s.h.bx.modify k (·.modify i (wkX sz)) = s.h.bx.set k (xs.modify i (wkX sz)) := by
        apply List.ext_getElem?
        intro j
        rw [List.getElem?_modify, List.getElem?_set]
        by_cases hj : k = j
        · subst hj
          obtain ⟨h1, h2⟩ := List.getElem?_eq_some_iff.1 hk
          simp [h1, h2]
        · simp [hj]
      simp only [wkE, e]
      obtain ⟨H2, S2⟩ := box_swap (k := k) (ys := xs.modify i (wkX sz)) H hk (fun us hus => wkXs_rep i sz hus)
      exact wkE_sound l (s := ⟨s.env, ⟨s.h.bx.set k (xs.modify i (wkX sz)), s.h.rw⟩⟩) H2 (S2.env E) (S0.tr S2.top)

theorem norm_sound {cx : Cx} {nb key : Nat} {s s' : S} {a : Array Value} (H : HSim W who L s.h) (E : ESim W who L s a) (S0 : Step .all W0 who0 L0 h0 W who L s.h) (hnr : h0.rw.length = cx.nr) (hnb : h0.bx.length ≤ nb) (hn : norm cx nb key s = some s') :
    ∃ who' L', HSim W who' L' s'.h ∧ ESim W who' L' s' a ∧ Step .all W0 who0 L0 h0 W who' L' s'.h := by
  unfold norm at hn
  cases ha : adoptE cx.P cx.nr (cx.A.acc cx.f key) s with
  | none => simp [ha] at hn
  | some s1 =>
    simp only [ha, Option.map_some, Option.some.injEq] at hn
    subst hn
    obtain ⟨who1, L1, H1, E1, S1⟩ := adoptE_sound _ H E S0 ha
    obtain ⟨H2, E2, S2⟩ := wkE_sound (cx.A.weak cx.f key) H1 E1 S1
    exact mask_sound H2 E2 S2 hnr hnb
theorem join_sound {cx : Cx} {nb key : Nat} {s s' : S} {a : Array Value} (H : HSim W who L s.h) (E : ESim W who L s a) (S0 : Step .all W0 who0 L0 h0 W who L s.h) (hnr : h0.rw.length = cx.nr) (hnb : h0.bx.length ≤ nb) (hn : joinS cx nb key s = some s') :
    ∃ who' L', HSim W who' L' s'.h ∧ ESim W who' L' s' a ∧ Step .all W0 who0 L0 h0 W who' L' s'.h := by
  unfold joinS at hn
  split at hn
  · exact norm_sound H E S0 hnr hnb hn
  · cases hn; exact ⟨who, L, H, E, S0⟩

def RoundWp (P : Program) (c : Code) (Q : Exit → Act → World → Prop) (a : Act) (w : World) : Prop :=
  ∀ (b : Frame) (k : List Item) (cs : List Frame), ∃ e a' w', Q e a' w' ∧ Arrives P (lone (b.at a (.code c :: .inLoop c :: k)) cs w) b k cs e a' w'
theorem RoundWp.loop {c : Code} {Q : Exit → Act → World → Prop} {a : Act} {w : World} (H : RoundWp P c Q a w) : (Code.loop c).wp P Q a w := fun b k cs =>
  let ⟨e, a', w', hq, harr⟩ := H b k cs; ⟨e, a', w', hq, .of_steps (.one step_loop) harr⟩
theorem RoundWp.step {c : Code} {Q : Exit → Act → World → Prop} {a : Act} {w : World} (H : c.wp P (Exit.then (RoundWp P c Q) Q) a w) : RoundWp P c Q a w := fun b k cs => by
  obtain ⟨e, a₁, w₁, hq, harr⟩ := H b (.inLoop c :: k) cs
  cases e with
  | normal =>
    obtain ⟨e₂, a₂, w₂, hq₂, harr₂⟩ := hq b k cs
    exact ⟨e₂, a₂, w₂, hq₂, .of_steps (Steps.trans harr (.one step_inLoop)) harr₂⟩
  | exit id => exact ⟨_, a₁, w₁, hq, .pass (x := .inLoop c) rfl (fun _ _ => .inl (by simp)) harr⟩
  | goto l => exact ⟨_, a₁, w₁, hq, .pass (x := .inLoop c) rfl (fun _ _ => .inl (by simp)) harr⟩
  | ret => exact ⟨_, a₁, w₁, hq, .pass (x := .inLoop c) rfl (fun _ _ => .inl (by simp)) harr⟩
  | panic ch => exact ⟨_, a₁, w₁, hq, .pass (x := .inLoop c) rfl (fun _ _ => .inl (by simp)) harr⟩
  | outgrown => exact ⟨_, a₁, w₁, hq, .pass (x := .inLoop c) rfl (fun _ _ => .inl (by simp)) harr⟩

/-- A scope that no goto leaves. -/
theorem wp_scope0 {c : Code} {Q : Exit → Act → World → Prop} {a : Act} {w : World} (H : c.wp P (fun e a w => (e = .normal ∨ (∃ i, e = .exit i) ∨ e = .ret) ∧ Q e a w) a w) : (Code.scope c).wp P Q a w := fun b k cs => by
  have hs : step P (lone (b.at a (.code (.scope c) :: k)) cs w) = .next (lone (b.at a (.code c :: .inScope c :: k)) cs w) := step_lone_go (by simp [stepG, stepG.exec, Frame.at])
  have hi : ∀ a w, step P (lone (b.at a (.inScope c :: k)) cs w) = .next (lone (b.at a k) cs w) := fun a w => step_lone_go (by simp [stepG, stepG.exec, Frame.at])
  obtain ⟨e, a₁, w₁, ⟨he, hq⟩, harr⟩ := H b (.inScope c :: k) cs
  rcases he with rfl | ⟨i, rfl⟩ | rfl
  · exact ⟨.normal, a₁, w₁, hq, .head hs (Steps.trans harr (.one (hi a₁ w₁)))⟩
  · exact ⟨_, a₁, w₁, hq, fun k' hk => .head hs (harr k' (by simpa [exitTo] using hk))⟩
  · exact ⟨_, a₁, w₁, hq, .of_steps (.one hs) harr⟩

def Out.ex : Out → Exit
  | .normal => .normal
  | .exit i => .exit i
  | .ret => .ret
def Task.wp (P : Program) (Q : Exit → Act → World → Prop) (a : Act) (w : World) : Task → Prop
  | .code c => c.wp P Q a w
  | .round _ c => RoundWp P c Q a w

/-- What holds of the state where code has come to. -/
def Come (W0 : World) (who0 : Nat → Who) (L0 : Lay) (h0 : Hp) (s' : S) (df : List Deferred) (N : Act → World → Prop) : Prop :=
  ∀ a' W' who' L', HSim W' who' L' s'.h → ESim W' who' L' s' a'.tmps → Step .all W0 who0 L0 h0 W' who' L' s'.h → a'.defers = df → N a' W'

theorem drew_sim (H : HSim W who L h) : HSim { W with drawn := W.drawn + 1 } who L h ∧ Step .no W who L h { W with drawn := W.drawn + 1 } who L h := by
  have S : Step .no W who L h { W with drawn := W.drawn + 1 } who L h :=
    { os := rfl, tape := rfl, output := rfl, size := Nat.le_refl _
      fro := fun _ hb _ => ⟨rfl, hb⟩, oth := fun _ hb _ => ⟨rfl, hb⟩, bx := Nat.le_refl _, box := fun _ _ => rfl, rw := Nat.le_refl _
      row := fun r _ sz es he => ⟨⟨es, he, rfl⟩, rfl⟩, keepB := fun _ _ _ hb _ => ⟨rfl, hb⟩, keepR := fun _ _ _ hb _ => ⟨rfl, .inl hb⟩ }
  refine ⟨⟨fun k xs hk => box_same S H hk rfl rfl, fun r ty sz es hr => own_same S (H.mu r ty sz es hr) fun g hg => ⟨rfl, (H.mu r ty sz es hr).who g hg⟩, fun r sz es hr => S.froR (H.frz r sz es hr)⟩, S⟩

theorem run_sound {cx : Cx} {plan : Nat → List (Nat × Bool)} (hK : KOk cx.P K) (hm : cx.P.follows .mixedOrders = true) (hnr : h0.rw.length = cx.nr) : ∀ (n : Nat) (t : Task) {s s' : S} {o : Out} {a : Act} {W : World} {who : Nat → Who} {L : Lay} {Q : Exit → Act → World → Prop},
    HSim W who L s.h → ESim W who L s a.tmps → Step .all W0 who0 L0 h0 W who L s.h → (∀ nb b, t = .round nb b → h0.bx.length ≤ nb) → t.ok cx.P plan = true → run K cx plan n t s = some (o, s') → Come W0 who0 L0 h0 s' a.defers (Q o.ex) → t.wp cx.P Q a W
  | 0, t, s, s', o, a, W, who, L, Q, H, E, S0, hb, hk, hr, hQ => by simp [run] at hr
  | n + 1, .round nb b, s, s', o, a, W, who, L, Q, H, E, S0, hb, hk, hr, hQ => by
    simp only [run] at hr
    cases hn : norm cx nb (Code.key b) s with
    | none => simp [hn] at hr
    | some s1 =>
      simp only [hn, Option.bind_some] at hr
      obtain ⟨who1, L1, H1, E1, S1⟩ := norm_sound H E S0 hnr (hb nb b rfl) hn
      refine RoundWp.step ?_
      cases hrun : run K cx plan n (.code b) s1 with
      | none => simp [hrun] at hr
      | some p =>
        obtain ⟨o2, s2⟩ := p
        cases o2 with
        | normal =>
          simp only [hrun] at hr
          exact run_sound hK hm hnr n (.code b) H1 E1 S1 (by simp) hk hrun fun a' W' who' L' h1 h2 h3 h4 => run_sound hK hm hnr n (.round nb b) h1 h2 h3 (fun _ _ e => by cases e; exact hb nb b rfl) hk hr (by rw [h4]; exact hQ)
        | exit i =>
          simp only [hrun, Option.some.injEq, Prod.mk.injEq] at hr
          obtain ⟨rfl, rfl⟩ := hr
          exact run_sound hK hm hnr n (.code b) H1 E1 S1 (by simp) hk hrun fun a' W' who' L' h1 h2 h3 h4 => hQ a' W' who' L' h1 h2 h3 h4
        | ret =>
          simp only [hrun, Option.some.injEq, Prod.mk.injEq] at hr
          obtain ⟨rfl, rfl⟩ := hr
          exact run_sound hK hm hnr n (.code b) H1 E1 S1 (by simp) hk hrun fun a' W' who' L' h1 h2 h3 h4 => hQ a' W' who' L' h1 h2 h3 h4
  | n + 1, .code c, s, s', o, a, W, who, L, Q, H, E, S0, hb, hk, hr, hQ => by
    have same : o = .normal → s' = s → Q .normal a W := fun h1 h2 => by subst h1; subst h2; exact hQ a W who L H E S0 rfl
    simp only [run] at hr
    split at hr
    · cases hr; exact wp_skip (same rfl rfl)
    · cases hr; exact wp_label (same rfl rfl)
    · rename_i id ops draw
      cases draw with
      | true =>
        simp only [if_true] at hr
        split at hr
        · cases hr
        · rename_i hne
          have hk2 : (planOk cx.P ops (plan id) (Array.replicate ops.size false) = true ∧ Region.noSelect ops = true) ∧ (plan id).length = ops.size := by
            have h0 : (plan id).isEmpty = false := by
              cases hq : plan id with
              | nil => exact absurd hq hne
              | cons => rfl
            simpa [Task.ok, codeOk, h0] using hk
          obtain ⟨⟨h1, h2⟩, h3⟩ := hk2
          cases hp : evPlan K cx.P cx.A ops (plan id) [] s with
          | none => rw [hp] at hr; cases hr
          | some s2 =>
            simp only [hp, Option.map_some, Option.some.injEq, Prod.mk.injEq] at hr
            obtain ⟨rfl, rfl⟩ := hr
            obtain ⟨H1, S1⟩ := drew_sim H
            refine wp_region_noPanic (wp_region_any hm (wpP_any _ [] _ _ _ ?_))
            exact evPlan_sound hK h2 (plan id) [] _ _ h1 (by omega) H1 (S1.env E) (by simp) hp fun a' W' who' L' h5 h6 h7 h8 => hQ a' W' who' L' h5 h6 ((S0.tr (Step.top S1)).tr h7) h8
      | false =>
        simp only [Bool.false_eq_true, if_false] at hr
        cases hp : evOps K cx.P cx.A ops ops.toList s with
        | none => simp [hp] at hr
        | some s2 =>
          simp only [hp, Option.map_some, Option.some.injEq, Prod.mk.injEq] at hr
          obtain ⟨rfl, rfl⟩ := hr
          refine wp_region ?_
          exact evOps_sound hK _ _ (range_ops ops) H E hp fun a' W' who' L' h5 h6 h7 h8 => hQ a' W' who' L' h5 h6 (S0.tr h7) h8
    · rename_i x y
      have hk2 : codeOk cx.P plan x = true ∧ codeOk cx.P plan y = true := by simpa [Task.ok, codeOk] using hk
      cases hx : run K cx plan n (.code x) s with
      | none => simp [hx] at hr
      | some p =>
        obtain ⟨o2, s2⟩ := p
        refine wp_seq ?_
        cases o2 with
        | normal =>
          simp only [hx] at hr
          cases hj : joinS cx s.h.bx.length (jk x y) s2 with
          | none => simp [hj] at hr
          | some s3 =>
            simp only [hj, Option.bind_some] at hr
            exact run_sound hK hm hnr n (.code x) H E S0 (by simp) hk2.1 hx fun a' W' who' L' h1 h2 h3 h4 => by
              obtain ⟨who3, L3, h5, h6, h7⟩ := join_sound h1 h2 h3 hnr S0.bx hj
              exact run_sound hK hm hnr n (.code y) h5 h6 h7 (by simp) hk2.2 hr (by rw [h4]; exact hQ)
        | exit i =>
          simp only [hx, Option.some.injEq, Prod.mk.injEq] at hr
          obtain ⟨rfl, rfl⟩ := hr
          exact run_sound hK hm hnr n (.code x) H E S0 (by simp) hk2.1 hx fun a' W' who' L' h1 h2 h3 h4 => hQ a' W' who' L' h1 h2 h3 h4
        | ret =>
          simp only [hx, Option.some.injEq, Prod.mk.injEq] at hr
          obtain ⟨rfl, rfl⟩ := hr
          exact run_sound hK hm hnr n (.code x) H E S0 (by simp) hk2.1 hx fun a' W' who' L' h1 h2 h3 h4 => hQ a' W' who' L' h1 h2 h3 h4
    · rename_i c x y
      cases hc : s.bool c with
      | none => simp [hc] at hr
      | some t =>
        simp only [hc, Option.bind_some] at hr
        have hk2 : codeOk cx.P plan x = true ∧ codeOk cx.P plan y = true := by simpa [Task.ok, codeOk] using hk
        have hk3 : codeOk cx.P plan (if t then x else y) = true := by
          cases t
          · exact hk2.2
          · exact hk2.1
        exact wp_cond (rep_bool E hc) (run_sound hK hm hnr n (.code (if t then x else y)) H E S0 (by simp) hk3 hr hQ)
    · rename_i id b
      refine wp_block ?_
      cases hx : run K cx plan n (.code b) s with
      | none => simp [hx] at hr
      | some p =>
        obtain ⟨o2, s2⟩ := p
        refine run_sound hK hm hnr n (.code b) H E S0 (by simp) hk hx fun a' W' who' L' h1 h2 h3 h4 => ?_
        cases o2 with
        | normal =>
          simp only [hx, Option.some.injEq, Prod.mk.injEq] at hr
          obtain ⟨rfl, rfl⟩ := hr
          exact hQ a' W' who' L' h1 h2 h3 h4
        | exit i =>
          simp only [hx] at hr
          by_cases hi : i = id
          · subst hi
            simp only [if_true, Option.some.injEq, Prod.mk.injEq] at hr
            obtain ⟨rfl, rfl⟩ := hr
            show (if i = i then _ else _)
            rw [if_pos rfl]
            exact hQ a' W' who' L' h1 h2 h3 h4
          · simp only [hi, if_false, Option.some.injEq, Prod.mk.injEq] at hr
            obtain ⟨rfl, rfl⟩ := hr
            show (if i = id then _ else _)
            rw [if_neg hi]
            exact hQ a' W' who' L' h1 h2 h3 h4
        | ret =>
          simp only [hx, Option.some.injEq, Prod.mk.injEq] at hr
          obtain ⟨rfl, rfl⟩ := hr
          exact hQ a' W' who' L' h1 h2 h3 h4
    · rename_i b
      cases hx : run K cx plan n (.round s.h.bx.length b) s with
      | none => simp [hx] at hr
      | some r =>
        simp only [hx, Option.map_some, Option.some.injEq, Prod.mk.injEq] at hr
        obtain ⟨rfl, rfl⟩ := hr
        exact RoundWp.loop (run_sound hK hm hnr n (.round s.h.bx.length b) H E S0 (fun _ _ e => by cases e; exact S0.bx) hk (o := r.1) (s' := r.2) hx fun a' W' who' L' h1 h2 h3 h4 => by
          obtain ⟨who2, L2, h5, h6, h7⟩ := mask_sound (keep := cx.A.post cx.f (Code.key b)) h1 h2 h3 hnr S0.bx
          exact hQ a' W' who2 L2 h5 h6 h7 h4)
    · rename_i b
      exact wp_scope0 (run_sound hK hm hnr n (.code b) H E S0 (by simp) hk hr fun a' W' who' L' h1 h2 h3 h4 => ⟨by cases o <;> simp [Out.ex], hQ a' W' who' L' h1 h2 h3 h4⟩)
    · cases hr; exact wp_exit (hQ a W who L H E S0 rfl)
    · cases hr; exact wp_ret (hQ a W who L H E S0 rfl)
    · cases hr
end
end Go.Proofs.YtkdnbnkbnegckaaGreatDoor
