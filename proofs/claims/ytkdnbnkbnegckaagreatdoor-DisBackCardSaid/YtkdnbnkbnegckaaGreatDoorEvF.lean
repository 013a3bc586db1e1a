/- The second machine's operations that turn the heap. -/
import Derived.Test.YtkdnbnkbnegckaaGreatDoorStrA
namespace Go.Proofs.YtkdnbnkbnegckaaGreatDoor
open Go.RowKit

section
variable {P : Program} {W : World} {who : Nat → Who} {L : Lay} {h h' : Hp}

theorem run_storeVar {t : TypeId} {v : Value} {g o n : Nat} {cur : Array Value} {ty : TypeId} (hz : szT P t = some n) (hn : v.cells.toList.length = n) (h1 : ∀ u ∈ v.cells.toList, u.oneCell' = true)
    (hg : W.heap[g]? = some (.cells cur ty (0, 0))) (hl : o + n ≤ cur.size) :
    (Instr.storeAt t (ptrV g o) v).run P W = .ok () (W.setRow g (cur.toList.take o ++ v.cells.toList ++ cur.toList.drop (o + n)).toArray) := by
  have := run_storeCells_at (P := P) g o ty v.cells.toList 0 cur W hg (by omega) h1
  simp only [Nat.add_zero, hn] at this
  have hn' : v.cells.size = n := by simpa using hn
  simp only [Instr.storeAt, Instr.sureAddr, ptrV, storeVar, Sem.run_bind, Sem.run_pure, Result.andThen_ok, run_size hz, hn', ne_eq, not_true_eq_false, if_false, this]

theorem flatten_set {sz : Nat} {es : List (List C)} {i : Nat} {e e' : List C} (h : ∀ e ∈ es, e.length = sz) (hi : es[i]? = some e) (he : e'.length = sz) :
    (es.set i e').flatten = es.flatten.take (i * sz) ++ e' ++ es.flatten.drop (i * sz + sz) := by
  have hlt := (List.getElem?_eq_some_iff.1 hi).1
  rw [List.set_eq_take_append_cons_drop, if_pos hlt, List.flatten_append, List.flatten_cons, flatten_take _ _ h, flatten_drop _ _ h, Nat.succ_mul]
  simp

theorem store_box (H : HSim W who L h) {k off n : Nat} {xs ys : List X} {us vs : List Value} {cur : Array Value} {ty : TypeId} (hk : h.bx[k]? = some xs) (hc : W.heap[L.box k]? = some (.cells cur ty (0, 0)))
    (hx : RepXs W who L h xs cur.toList) (hy : RepXs W who L h ys vs) (hn : ys.length = n) (hl : off + n ≤ xs.length) :
    HSim (W.setRow (L.box k) (cur.toList.take off ++ vs ++ cur.toList.drop (off + n)).toArray) who L ⟨h.bx.set k (xs.take off ++ ys ++ xs.drop (off + n)), h.rw⟩ ∧
      Step ⟨(· = k), fun _ => False⟩ W who L h (W.setRow (L.box k) (cur.toList.take off ++ vs ++ cur.toList.drop (off + n)).toArray) who L ⟨h.bx.set k (xs.take off ++ ys ++ xs.drop (off + n)), h.rw⟩ := by
  have hlt := (List.getElem?_eq_some_iff.1 hk).1
  obtain ⟨hb1, hb2⟩ := H.box_lt hlt
  have hS : Step ⟨(· = k), fun _ => False⟩ W who L h (W.setRow (L.box k) (cur.toList.take off ++ vs ++ cur.toList.drop (off + n)).toArray) who L ⟨h.bx.set k (xs.take off ++ ys ++ xs.drop (off + n)), h.rw⟩ :=
    { os := rfl, tape := rfl, output := rfl
      size := by simp
      fro := fun b hb _ => ⟨setRow_other _ _ _ _ (fun e => by rw [e, hb2] at hb; cases hb), hb⟩
      oth := fun b hb _ => ⟨setRow_other _ _ _ _ (fun e => by rw [e, hb2] at hb; cases hb), hb⟩
      bx := by simp
      box := fun _ _ => rfl
      rw := Nat.le_refl _
      row := fun r hr sz es he => ⟨⟨es, he, rfl⟩, rfl⟩
      keepB := fun b _ k' hb hm => ⟨setRow_other _ _ _ _ (fun e => by rw [e, hb2] at hb; cases hb; exact hm rfl), hb⟩
      keepR := fun b _ r hb _ => ⟨setRow_other _ _ _ _ (fun e => by rw [e, hb2] at hb; cases hb), .inl hb⟩ }
  refine ⟨⟨fun k2 zs hk2 => ?_, fun r ty' sz es hr => ?_, fun r sz es hr => ?_⟩, hS⟩
  · by_cases e : k = k2
    · subst e
      rw [List.getElem?_set_self hlt] at hk2
      cases hk2
      refine ⟨_, ty, setRow_heap _ _ _ _ _ _ hc, hb2, ?_⟩
      exact hS.repXs (((hx.take off).append hy).append (hx.drop (off + n)))
    · rw [List.getElem?_set_ne e] at hk2
      obtain ⟨h1, h2⟩ := H.box_lt (List.getElem?_eq_some_iff.1 hk2).1
      exact box_same hS H hk2 (setRow_other _ _ _ _ (fun e2 => by rw [e2, hb2] at h2; cases h2; exact e rfl)) rfl
  · have := H.mu r ty' sz es hr
    exact own_same hS this fun g hg => ⟨setRow_other _ _ _ _ (fun e2 => by have h3 := this.who g hg; rw [e2, hb2] at h3; cases h3), this.who g hg⟩
  · exact hS.froR (H.frz r sz es hr)

theorem store_row (H : HSim W who L h) {r i off n ty sz : Nat} {es : List (List C)} {e cs : List C} {vs : List Value} {b o' : Nat} {len cap : Nat} (hr : h.rw[r]? = some (.mu ty sz es)) (he : es[i]? = some e)
    (hL : L.row r = .slice (some ⟨b, o', none⟩) len cap) (hv : RepCs W who cs vs) (hn : cs.length = n) (hl : off + n ≤ e.length) :
    ∃ cur ty', o' = 0 ∧ W.heap[b]? = some (.cells cur ty' (0, 0)) ∧ i * sz + off + n ≤ cur.size ∧
      HSim (W.setRow b (cur.toList.take (i * sz + off) ++ vs ++ cur.toList.drop (i * sz + off + n)).toArray) who L ⟨h.bx, h.rw.set r (.mu ty sz (es.set i (e.take off ++ cs ++ e.drop (off + n))))⟩ ∧
      Step ⟨fun _ => False, (· = r)⟩ W who L h (W.setRow b (cur.toList.take (i * sz + off) ++ vs ++ cur.toList.drop (i * sz + off + n)).toArray) who L ⟨h.bx, h.rw.set r (.mu ty sz (es.set i (e.take off ++ cs ++ e.drop (off + n))))⟩ := by
  have hmu := H.mu r ty sz es hr
  have hrl := (List.getElem?_eq_some_iff.1 hr).1
  have hil := (List.getElem?_eq_some_iff.1 he).1
  have hes := hmu.size e (List.mem_of_getElem? he)
  obtain ⟨us, ho, hrep⟩ := hmu.own
  rcases ho.2 with ⟨h0, _⟩ | ⟨g, cap', cur, hg1, hg2, hg3, hg4, hg5, hg6, hg7⟩
  · rw [h0] at hL; cases hL
  rw [hg1] at hL
  cases hL
  have hwho : who b = .row r := hmu.who b (by rw [hg1]; rfl)
  have hle : (i + 1) * sz ≤ es.length * sz := Nat.mul_le_mul_right sz hil
  have hcap : es.length * sz ≤ cap * sz := Nat.mul_le_mul_right sz hg4
  rw [Nat.succ_mul] at hle
  have hfit : i * sz + off + n ≤ cur.size := by omega
  have hvl := hv.1
  have hrow : ∀ r', r' ≠ r → (⟨h.bx, h.rw.set r (.mu ty sz (es.set i (e.take off ++ cs ++ e.drop (off + n))))⟩ : Hp).row r' = h.row r' := fun r' hne => by
    unfold Hp.row
    simp only
    rw [List.getElem?_set_ne (Ne.symm hne)]
  have hrow' : (⟨h.bx, h.rw.set r (.mu ty sz (es.set i (e.take off ++ cs ++ e.drop (off + n))))⟩ : Hp).row r = some (sz, es.set i (e.take off ++ cs ++ e.drop (off + n))) := by
    unfold Hp.row
    simp only
    rw [List.getElem?_set_self hrl]
  have hrow0 : h.row r = some (sz, es) := by unfold Hp.row; rw [hr]
  have hS : Step ⟨fun _ => False, (· = r)⟩ W who L h (W.setRow b (cur.toList.take (i * sz + off) ++ vs ++ cur.toList.drop (i * sz + off + n)).toArray) who L ⟨h.bx, h.rw.set r (.mu ty sz (es.set i (e.take off ++ cs ++ e.drop (off + n))))⟩ :=
    { os := rfl, tape := rfl, output := rfl
      size := by simp
      fro := fun b' hb _ => ⟨setRow_other _ _ _ _ (fun e => by rw [e, hwho] at hb; cases hb), hb⟩
      oth := fun b' hb _ => ⟨setRow_other _ _ _ _ (fun e => by rw [e, hwho] at hb; cases hb), hb⟩
      bx := Nat.le_refl _
      box := fun _ _ => rfl
      rw := by simp
      row := fun r' hr' sz2 es2 he2 => by
        by_cases e1 : r' = r
        · subst e1
          rw [hrow'] at he2
          cases he2
          exact ⟨⟨es, hrow0, by simp⟩, rfl⟩
        · rw [hrow r' e1] at he2
          exact ⟨⟨es2, he2, rfl⟩, rfl⟩
      keepB := fun b' _ k' hb _ => ⟨setRow_other _ _ _ _ (fun e => by rw [e, hwho] at hb; cases hb), hb⟩
      keepR := fun b' _ r' hb hm => ⟨setRow_other _ _ _ _ (fun e => by rw [e, hwho] at hb; cases hb; exact hm rfl), .inl hb⟩ }
  have hel : (e.take off ++ cs ++ e.drop (off + n)).length = sz := by simp; omega
  refine ⟨cur, ty, rfl, hg3, hfit, ⟨fun k2 zs hk2 => ?_, fun r' ty' sz' es' hr' => ?_, fun r' sz' es' hr' => ?_⟩, hS⟩
  · obtain ⟨h1, h2⟩ := H.box_lt (List.getElem?_eq_some_iff.1 hk2).1
    exact box_same hS H hk2 (setRow_other _ _ _ _ (fun e2 => by rw [e2, hwho] at h2; cases h2)) rfl
  · by_cases e1 : r = r'
    · subst e1
      rw [List.getElem?_set_self hrl] at hr'
      cases hr'
      have hul : us.length = es.length * sz := ho.1
      have key : (cur.toList.take (i * sz + off) ++ vs ++ cur.toList.drop (i * sz + off + n)).take (es.length * sz) = us.take (i * sz + off) ++ vs ++ us.drop (i * sz + off + n) := by
        rw [← hg7, List.take_append, List.take_append, List.take_take, Nat.min_eq_right (by omega)]
        have e3 : (List.take (i * sz + off) cur.toList).length = i * sz + off := by simp; omega
        rw [List.take_of_length_le (l := vs) (by rw [e3]; omega), List.take_take, Nat.min_eq_left (by omega)]
        congr 1
        simp only [List.length_append, e3]
        rw [List.drop_take]
        congr 1
        omega
      refine ⟨fun x hx => ?_, ⟨us.take (i * sz + off) ++ vs ++ us.drop (i * sz + off + n), ⟨?_, .inr ⟨b, cap, _, by rw [hg1]; simp, hg2, setRow_heap _ _ _ _ _ _ hg3, by simpa using hg4, hg5, ?_, ?_⟩⟩, ?_⟩, fun g hg => by rw [hg1] at hg; cases hg; exact hwho⟩
      · rcases List.mem_or_eq_of_mem_set hx with h3 | h3
        · exact hmu.size x h3
        · rw [h3]; exact hel
      · simp; omega
      · simp; omega
      · simpa using key
      · refine hS.repCs ?_
        rw [flatten_set hmu.size he hel]
        have e4 : es.flatten.take (i * sz) ++ (e.take off ++ cs ++ e.drop (off + n)) ++ es.flatten.drop (i * sz + sz) = es.flatten.take (i * sz + off) ++ cs ++ es.flatten.drop (i * sz + off + n) := by
          have e5 := flatten_at hmu.size he
          have e6 : es.flatten.take (i * sz + off) = es.flatten.take (i * sz) ++ e.take off := by
            rw [← e5, List.take_add, List.take_take, Nat.min_eq_left (by omega)]
          have e7 : es.flatten.drop (i * sz + off + n) = e.drop (off + n) ++ es.flatten.drop (i * sz + sz) := by
            rw [← e5, List.drop_take, List.drop_drop]
            have : i * sz + (off + n) = i * sz + off + n := by omega
            rw [this]
            conv => lhs; rw [← List.take_append_drop (sz - (off + n)) (es.flatten.drop (i * sz + off + n))]
            rw [List.drop_drop]
            congr 2
            omega
          rw [e6, e7]
          simp
        rw [e4]
        exact ((hrep.take _).append hv).append (hrep.drop _)
    · rw [List.getElem?_set_ne e1] at hr'
      have h1 := H.mu r' ty' sz' es' hr'
      exact own_same hS h1 fun g hg => ⟨setRow_other _ _ _ _ (fun e2 => by have h3 := h1.who g hg; rw [e2, hwho] at h3; cases h3; exact e1 rfl), h1.who g hg⟩
  · have e1 : r ≠ r' := fun e1 => by subst e1; rw [List.getElem?_set_self hrl] at hr'; cases hr'
    rw [List.getElem?_set_ne e1] at hr'
    exact hS.froR (H.frz r' sz' es' hr')

theorem store_sound (H : HSim W who L h) {t : TypeId} {x : X} {y : T} {v u : Value} (hx : RepX W who L h x v) (hy : RepT W who L h y u) (hs : storeX P h t x y = some h') :
    ∃ W' who', (Instr.storeAt t v u).run P W = .ok () W' ∧ HSim W' who' L h' ∧ Step ⟨(· ∈ (depsX x).1), (· ∈ (depsX x).2)⟩ W who L h W' who' L h' := by
  unfold storeX at hs
  split at hs
  · rename_i hw
    have hcells := hy.cells hw
    cases hz : szT P t with
    | none => simp [hz] at hs
    | some n =>
      simp only [hz, Option.bind_some] at hs
      split at hs
      · rename_i hyn
        have hun : u.cells.toList.length = n := by rw [← hcells.1, hyn]
        split at hs
        · rename_i k off
          obtain ⟨_, rfl⟩ := hx
          cases hk : h.bx[k]? with
          | none => simp [hk] at hs
          | some xs =>
            simp only [hk, Option.bind_some] at hs
            split at hs
            · rename_i hle
              simp only [Option.some.injEq] at hs
              subst hs
              obtain ⟨cur, ty, h1, h2, h3⟩ := H.box k xs hk
              have hxl : xs.length = cur.size := by simpa using h3.1
              obtain ⟨h4, h5⟩ := store_box (us := []) H hk h1 h3 hcells hyn hle
              exact ⟨_, who, run_storeVar hz hun hcells.one h1 (by omega), h4, h5.up (fun k hk => by simpa [depsX] using hk) (fun _ h => h.elim)⟩
            · cases hs
        · rename_i r i off
          cases hf : h.freezeL y.xs with
          | none => simp [hf] at hs
          | some q =>
            simp only [hf, Option.bind_some] at hs
            obtain ⟨who1, H1, S1, R1⟩ := freezeL_sound H hcells hf
            split at hs
            · rename_i ty sz es hr
              cases he : es[i]? with
              | none => simp [he] at hs
              | some e =>
                simp only [he, Option.bind_some] at hs
                split at hs
                · rename_i hle
                  simp only [Option.some.injEq] at hs
                  subst hs
                  obtain ⟨_, b, o, rfl, h3⟩ := S1.repX hx
                  obtain ⟨_, o', len, cap, hL, rfl⟩ := h3 sz es (by unfold Hp.row; rw [hr])
                  have hqn : q.1.length = n := by rw [R1.1, hun]
                  obtain ⟨cur, ty', rfl, h4, h5, h6, h7⟩ := store_row H1 hr he hL R1 hqn hle
                  refine ⟨_, who1, ?_, h6, S1.any.tr (h7.up (fun _ h => h.elim) (fun k hk => by simpa [depsX] using hk))⟩
                  have := run_storeVar (P := P) (o := i * sz + off) hz hun hcells.one h4 h5
                  simpa using this
                · cases hs
            · cases hs
        · cases hs
      · cases hs
  · cases hs

theorem kill_ne {rw : List Row} {o : Option Nat} {r : Nat} (hr : o ≠ some r) : (kill rw o)[r]? = rw[r]? := by
  cases o with
  | none => rfl
  | some q => exact List.getElem?_set_ne (fun e => hr (by rw [e]))
theorem kill_len (rw : List Row) (o : Option Nat) : (kill rw o).length = rw.length := by cases o <;> simp [kill]

/-- A row that grows, or a new one: what is there behind it. -/
theorem grow_sim (H : HSim W who L h) {W' : World} {e sz : Nat} {v v' : Value} {rid : Option Nat} {es news : List (List C)} {us vs : List Value}
    (hown : rid = none ∧ v.ownBlock = none ∨ ∃ r ty, rid = some r ∧ h.rw[r]? = some (.mu ty sz es) ∧ L.row r = v)
    (hsz : ∀ x ∈ es ++ news, x.length = sz) (ho : W'.ownsRow 0 e sz v' (es ++ news).length (us ++ vs)) (hg : Grow W W' v v') (hu : RepCs W who es.flatten us) (hv : RepCs W who news.flatten vs) :
    ∃ who', HSim W' who' ⟨L.box, upd L.row h.rw.length v'⟩ ⟨h.bx, kill h.rw rid ++ [.mu e sz (es ++ news)]⟩ ∧ Step ⟨fun _ => False, (some · = rid)⟩ W who L h W' who' ⟨L.box, upd L.row h.rw.length v'⟩ ⟨h.bx, kill h.rw rid ++ [.mu e sz (es ++ news)]⟩ := by
  have hvw : ∀ b, v.ownBlock = some b → ∃ r, rid = some r ∧ who b = .row r := fun b hb => by
    rcases hown with ⟨_, h1⟩ | ⟨r, ty, h1, h2, h3⟩
    · rw [h1] at hb; cases hb
    · exact ⟨r, h1, (H.mu r ty sz es h2).who b (by rw [h3]; exact hb)⟩
  have hrid : ∀ r, rid = some r → r < h.rw.length := fun r hr => by
    rcases hown with ⟨h0, _⟩ | ⟨r', ty, h1, h2, h3⟩
    · rw [h0] at hr; cases hr
    · rw [h1] at hr; cases hr; exact (List.getElem?_eq_some_iff.1 h2).1
  let who' : Nat → Who := fun b => if v'.ownBlock = some b then .row h.rw.length else if v.ownBlock = some b then .frozen else who b
  -- an old block that is not the row's own
  have hold : ∀ b, b < W.heap.size → v.ownBlock ≠ some b → W'.heap[b]? = W.heap[b]? ∧ who' b = who b := fun b hb hne => by
    refine ⟨hg.block b hb (fun e => hne e.symm), ?_⟩
    simp only [who']
    rw [if_neg, if_neg hne]
    intro e2
    rcases hg.new with h1 | h1
    · rw [h1] at e2; exact hne e2
    · have := h1 b e2; omega
  have hS : Step ⟨fun _ => False, (some · = rid)⟩ W who L h W' who' ⟨L.box, upd L.row h.rw.length v'⟩ ⟨h.bx, kill h.rw rid ++ [.mu e sz (es ++ news)]⟩ :=
    { os := hg.os, tape := hg.tape, output := hg.output, size := hg.size
      fro := fun b hb hlt => by
        obtain ⟨h1, h2⟩ := hold b hlt (fun e2 => by obtain ⟨r, _, h3⟩ := hvw b e2; rw [hb] at h3; cases h3)
        exact ⟨h1, h2.trans hb⟩
      oth := fun b hb hlt => by
        obtain ⟨h1, h2⟩ := hold b hlt (fun e2 => by obtain ⟨r, _, h3⟩ := hvw b e2; rw [hb] at h3; cases h3)
        exact ⟨h1, h2.trans hb⟩
      bx := Nat.le_refl _
      box := fun _ _ => rfl
      rw := by simp [kill_len]
      row := fun r hr sz2 es2 he2 => by
        unfold Hp.row at he2
        simp only at he2
        rw [List.getElem?_append_left (by rw [kill_len]; exact hr)] at he2
        by_cases e1 : rid = some r
        · subst e1
          rw [show kill h.rw (some r) = h.rw.set r .dead from rfl, List.getElem?_set_self hr] at he2
          cases he2
        · rw [kill_ne e1] at he2
          exact ⟨⟨es2, he2, rfl⟩, upd_ne _ _ (Nat.ne_of_lt hr)⟩
      keepB := fun b hlt k hb _ => by
        obtain ⟨h1, h2⟩ := hold b hlt (fun e2 => by obtain ⟨r, _, h3⟩ := hvw b e2; rw [hb] at h3; cases h3)
        exact ⟨h1, h2.trans hb⟩
      keepR := fun b hlt r hb hm => by
        obtain ⟨h1, h2⟩ := hold b hlt (fun e2 => by obtain ⟨r', h4, h3⟩ := hvw b e2; rw [hb] at h3; cases h3; exact hm h4.symm)
        exact ⟨h1, .inl (h2.trans hb)⟩ }
  refine ⟨who', ⟨fun k xs hk => ?_, fun r ty' sz' es' hr => ?_, fun r sz' es' hr => ?_⟩, hS⟩
  · obtain ⟨h1, h2⟩ := H.box_lt (List.getElem?_eq_some_iff.1 hk).1
    obtain ⟨h3, h4⟩ := hold (L.box k) h1 (fun e2 => by obtain ⟨r, _, h5⟩ := hvw _ e2; rw [h2] at h5; cases h5)
    exact box_same hS H hk h3 h4
  · by_cases hlt : r < h.rw.length
    · rw [List.getElem?_append_left (by rw [kill_len]; exact hlt)] at hr
      have hne : rid ≠ some r := fun e1 => by
        subst e1
        rw [show kill h.rw (some r) = h.rw.set r .dead from rfl, List.getElem?_set_self hlt] at hr
        cases hr
      rw [kill_ne hne] at hr
      have h1 := H.mu r ty' sz' es' hr
      show OwnR W' who' r ty' sz' es' (upd L.row _ _ r)
      rw [upd_ne _ _ (Nat.ne_of_lt hlt)]
      refine own_same hS h1 fun g hgo => ?_
      obtain ⟨h3, h4⟩ := hold g (h1.lt hgo) (fun e2 => by
        obtain ⟨r2, h5, h6⟩ := hvw g e2
        rw [h1.who g hgo] at h6
        cases h6
        exact hne h5)
      exact ⟨h3, h4.trans (h1.who g hgo)⟩
    · have hre : r = h.rw.length := by
        have := (List.getElem?_eq_some_iff.1 hr).1
        simp [kill_len] at this
        omega
      subst hre
      rw [List.getElem?_append_right (by rw [kill_len]; exact Nat.le_refl _)] at hr
      simp [kill_len] at hr
      obtain ⟨rfl, rfl, rfl⟩ := hr
      show OwnR W' who' _ e sz _ (upd L.row _ _ _)
      rw [upd_same]
      refine ⟨hsz, ⟨us ++ vs, ho, ?_⟩, fun g hgo => by simp only [who']; rw [if_pos hgo]⟩
      rw [List.flatten_append]
      exact (hS.repCs hu).append (hS.repCs hv)
  · by_cases hlt : r < h.rw.length
    · rw [List.getElem?_append_left (by rw [kill_len]; exact hlt)] at hr
      have hne : rid ≠ some r := fun e1 => by
        subst e1
        rw [show kill h.rw (some r) = h.rw.set r .dead from rfl, List.getElem?_set_self hlt] at hr
        cases hr
      rw [kill_ne hne] at hr
      show FroR W' who' _ _ (upd L.row _ _ r)
      rw [upd_ne _ _ (Nat.ne_of_lt hlt)]
      exact hS.froR (H.frz r sz' es' hr)
    · have hre : r = h.rw.length := by
        have := (List.getElem?_eq_some_iff.1 hr).1
        simp [kill_len] at this
        omega
      subst hre
      rw [List.getElem?_append_right (by rw [kill_len]; exact Nat.le_refl _)] at hr
      simp [kill_len] at hr

theorem rep_own {L : Lay} {h : Hp} (H : HSim W who L h) {r ty sz : Nat} {es : List (List C)} (hr : h.rw[r]? = some (.mu ty sz es)) : RepX W who L h (.own r 0 es.length) (L.row r) := by
  have hmu := H.mu r ty sz es hr
  obtain ⟨ao, cap, us, h1, h2, h3, h4, h5⟩ := hmu.rd.ex
  refine ⟨(List.getElem?_eq_some_iff.1 hr).1, ⟨ao, cap, h1⟩, fun sz2 es2 he => ?_⟩
  have : (sz2, es2) = (sz, es) := by unfold Hp.row at he; rw [hr] at he; exact (Option.some.inj he).symm
  cases this
  exact ⟨by omega, ao, cap, ao, cap, h1, h1, h2, fun _ b o e => by rw [e]; simp, fun _ _ => rfl⟩

theorem byteC_rep (bs : List UInt8) : RepCs W who (encB bs).flatten (bs.map byteC) := by
  have : (encB bs).flatten = bs.map fun b => C.v (.int .u8 b.toNat) := by
    unfold encB
    induction bs with
    | nil => rfl
    | cons b bs ih => rw [List.map_cons, List.flatten_cons, ih]; rfl
  rw [this]
  refine ⟨by simp, fun i c u h1 h2 => ?_⟩
  rw [List.getElem?_map] at h1 h2
  cases hb : bs[i]? with
  | none => simp [hb] at h1
  | some b =>
    simp [hb] at h1 h2
    subst h1
    subst h2
    exact .v _ rfl

theorem append_sound {s : S} {a : Act} (H : HSim W who L s.h) (E : ESim W who L s a.tmps) {t t' ty : TypeId} {x y : Operand} {r : T × Hp} (hs : appendX P s t t' x y = some r) :
    ∃ v W' who' L', (Builtin.append_ #[t, t'] ty #[a.eval x, a.eval y]).run P W = .ok v W' ∧ RepT W' who' L' r.2 r.1 v ∧ HSim W' who' L' r.2 ∧ Step ⟨fun _ => False, fun q => q ∈ modRow s x⟩ W who L s.h W' who' L' r.2 := by
  unfold appendX at hs
  cases he : elemT P t with
  | none => simp [he] at hs
  | some e =>
  cases hi : elemI P e with
  | none => simp [he, hi] at hs
  | some i =>
  cases hsrc : srcX P s t' y i.1 with
  | none => simp [he, hi, hsrc] at hs
  | some news =>
  cases hx1 : s.x1 x with
  | none => simp [he, hi, hsrc, hx1] at hs
  | some x1 =>
  cases hd : dstX s.h e i.1 x1 with
  | none => simp [he, hi, hsrc, hx1, hd] at hs
  | some p =>
  simp only [he, hi, hsrc, hx1, hd, Option.bind_some] at hs
  split at hs
  case isFalse => cases hs
  rename_i hc
  simp only [Option.some.injEq] at hs
  subst hs
  obtain ⟨hty, h63, hbytes⟩ := hc
  have hu : P.underlying t = some (.slice e) := by
    unfold elemT at he
    split at he
    · cases he; assumption
    · cases he
  unfold elemI at hi
  cases hq : P.info? e with
  | none => simp [hq] at hi
  | some q =>
  cases hz : q.zero with
  | none => simp [hq, hz] at hi
  | some z =>
  simp only [hq, hz, Option.bind_some] at hi
  split at hi
  case isFalse => cases hi
  rename_i hc2
  simp only [Option.some.injEq] at hi
  subst hi
  simp only at hsrc hd hbytes hty
  -- what it is appended to
  obtain ⟨us, hes, hown, hus, hp⟩ : ∃ us, (∀ x ∈ p.2, x.length = q.size) ∧ W.ownsRow 0 e q.size (a.eval x) p.2.length us ∧ RepCs W who p.2.flatten us ∧
      (p.1 = none ∧ (a.eval x).ownBlock = none ∨ ∃ r ty, p.1 = some r ∧ s.h.rw[r]? = some (.mu ty q.size p.2) ∧ L.row r = a.eval x) := by
    have hr := rep_x1 E hx1
    generalize a.eval x = vx at *
    unfold dstX at hd
    split at hd
    · cases hd
      cases hr
      exact ⟨[], by simp, World.ownsRow_nil _ _ _ _, ⟨rfl, fun i c u h1 => by simp at h1⟩, .inl ⟨rfl, rfl⟩⟩
    · rename_i r n
      split at hd
      · rename_i ty2 sz2 es2 hrw
        split at hd
        · rename_i hc3
          obtain ⟨rfl, rfl, rfl⟩ := hc3
          cases hd
          have hmu := H.mu r _ _ _ hrw
          obtain ⟨us, h1, h2⟩ := hmu.own
          obtain ⟨_, ao, hc, ao', c', h3, h4, _, _, h5⟩ := hr.2.2 _ es2 (by unfold Hp.row; rw [hrw])
          have hv := h5 rfl rfl
          subst hv
          exact ⟨us, hmu.size, h1, h2, .inr ⟨r, _, rfl, hrw, rfl⟩⟩
        · cases hd
      · cases hd
    · cases hd
  have hmr : ∀ k, some k = p.1 → k ∈ modRow s x := fun k hk => by
    unfold dstX at hd
    split at hd
    · cases hd; cases hk
    · split at hd
      · split at hd
        · cases hd; cases hk; unfold modRow; rw [hx1]; simp [X.rows]
        · cases hd
      · cases hd
    · cases hd
  -- what is appended
  have fin : ∀ (v' : Value) (W' : World) (vs : List Value), (∀ x ∈ news, x.length = q.size) → RepCs W who news.flatten vs → W'.ownsRow 0 e q.size v' (p.2.length + news.length) (us ++ vs) → Grow W W' (a.eval x) v' →
      (Builtin.append_ #[t, t'] ty #[a.eval x, a.eval y]).run P W = .ok v' W' →
      ∃ v W' who' L', (Builtin.append_ #[t, t'] ty #[a.eval x, a.eval y]).run P W = .ok v W' ∧ RepT W' who' L' ⟨s.h.bx, kill s.h.rw p.1 ++ [.mu e q.size (p.2 ++ news)]⟩ ⟨.one, [.own s.h.rw.length 0 (p.2.length + news.length)]⟩ v ∧
        HSim W' who' L' ⟨s.h.bx, kill s.h.rw p.1 ++ [.mu e q.size (p.2 ++ news)]⟩ ∧ Step ⟨fun _ => False, fun q => q ∈ modRow s x⟩ W who L s.h W' who' L' ⟨s.h.bx, kill s.h.rw p.1 ++ [.mu e q.size (p.2 ++ news)]⟩ := fun v' W' vs h1 h2 h3 h4 h5 => by
    obtain ⟨who', H', S'⟩ := grow_sim (e := e) (sz := q.size) (v' := v') (rid := p.1) (es := p.2) (news := news) (us := us) (vs := vs) H hp (fun x hx => (List.mem_append.1 hx).elim (hes x) (h1 x)) (by simpa using h3) h4 hus h2
    refine ⟨v', W', who', _, h5, ⟨_, rfl, ?_⟩, H', S'.up (fun _ h => h) hmr⟩
    have := rep_own H' (r := s.h.rw.length) (ty := e) (sz := q.size) (es := p.2 ++ news) (by simp [List.getElem?_append_right, kill_len])
    simpa using this
  unfold srcX at hsrc
  split at hsrc
  · rename_i e' hu'
    have htt : t' = t := by
      rcases hty with h1 | ⟨h1, _⟩
      · exact h1
      · unfold strT at h1; rw [hu'] at h1; cases h1
    subst htt
    cases hy1 : s.x1 y with
    | none => simp [hy1] at hsrc
    | some y1 =>
    cases hv : s.h.view y1 with
    | none => simp [hy1, hv] at hsrc
    | some w =>
    simp only [hy1, hv, Option.bind_some] at hsrc
    split at hsrc
    case isFalse => cases hsrc
    rename_i hok
    simp only [Option.some.injEq] at hsrc
    subst hsrc
    have hry := rep_x1 E hy1
    obtain ⟨sz2, hz2, hrd, _⟩ := view_rep H hry hv
    obtain ⟨ao, cap, vs, hvy, _, hne, hrg, hrep⟩ := hrd.ex
    have hnsz : ∀ x ∈ w.2, x.length = q.size := by
      rcases hz2 with h1 | ⟨_, h1, _⟩
      · rw [h1] at hok
        have : sz2 = q.size := by simpa [szOk] using hok
        rw [← this]; exact hrd.size
      · rw [h1]; simp
    have hcells : Cells W ao vs := by
      refine ⟨fun hvs => hne fun e2 => hvs ?_, fun b off e2 j u hj => hrg b off e2 j u hj⟩
      rw [e2] at hrep
      exact List.eq_nil_of_length_eq_zero (by simpa using hrep.1.symm)
    obtain ⟨v', W', h1, h2, h3⟩ := run_grow (P := P) t' ty 0 e z q.size q.bytes hu (by rw [hq]; simp [hz]) hc2.1 hc2.2 (a.eval x) p.2.length us ao w.2.length cap vs hown hcells (by rw [← hrep.1, flatten_len _ hnsz]) hrep.one h63 hbytes (Nat.zero_le _)
    rw [← hvy] at h1
    exact fin v' W' vs hnsz hrep h2 h3 h1
  · rename_i hu'
    split at hsrc
    · rename_i b hy
      split at hsrc
      case isFalse => cases hsrc
      rename_i hs1
      simp only [Option.some.injEq] at hsrc
      subst hsrc
      have hby : q.bytes = 1 := by
        rcases hty with h1 | ⟨_, h1⟩
        · rw [h1, hu] at hu'; cases hu'
        · exact h1
      have hlen : (encB b.data.toList).length = b.size := by simp [encB]
      have hey : a.eval y = .string b := by
        have := rep_rd E y
        rw [hy] at this
        generalize a.eval y = vy at *
        obtain ⟨x', e1, h1⟩ := this
        cases e1; cases h1; rfl
      rw [hlen] at h63 hbytes fin ⊢
      rw [hs1] at hown
      obtain ⟨v', W', h1, h2, h3⟩ := run_append_str (P := P) t t' ty 0 e q z hu hu' hq hz hs1 hby (by rw [hc2.1, hs1]) (a.eval x) p.2.length us hown b h63 (by rw [hby] at hbytes; omega) (Nat.zero_le _)
      rw [← hey] at h1
      exact fin v' W' _ (fun x hx => by rw [hs1]; simp [encB] at hx; obtain ⟨_, _, rfl⟩ := hx; rfl) (byteC_rep _) (by rw [hs1]; exact h2) h3 h1
    · cases hsrc
  · cases hsrc

theorem cl_some {xs : List X} : ∀ {cs : List C}, xs.mapM X.cl = some cs → xs = cs.map .c := by
  induction xs with
  | nil => intro cs h; simp at h; subst h; rfl
  | cons x xs ih =>
    intro cs h
    rw [List.mapM_cons] at h
    cases hx : x.cl with
    | none => simp [hx] at h
    | some c =>
      cases hxs : xs.mapM X.cl with
      | none => simp [hx, hxs] at h
      | some cs' =>
        simp [hx, hxs] at h
        subst h
        rw [ih hxs]
        unfold X.cl at hx
        split at hx
        · cases hx; rfl
        · cases hx
theorem RepXs.cs {xs : List C} {us : List Value} (k : RepXs W who L h (xs.map .c) us) : RepCs W who xs us :=
  ⟨by simpa using k.1, fun i c u h1 h2 => (k.2 i (.c c) u (by simp [h1]) h2).1⟩
theorem flat_rep {α : Type} {l : List α} {sz : Nat} (hl : l.length = sz) : ∀ (n i : Nat) (c : α), (List.replicate n l).flatten[i]? = some c → i < n * sz ∧ l[i % sz]? = some c
  | 0, i, c, h => by simp at h
  | n + 1, i, c, h => by
    rw [List.replicate_succ, List.flatten_cons] at h
    by_cases hi : i < l.length
    · rw [List.getElem?_append_left hi] at h
      rw [Nat.mod_eq_of_lt (by omega)]
      exact ⟨by rw [Nat.succ_mul]; omega, h⟩
    · rw [List.getElem?_append_right (by omega)] at h
      obtain ⟨h1, h2⟩ := flat_rep hl n _ c h
      rw [hl] at h1 h2
      refine ⟨by rw [Nat.succ_mul]; omega, ?_⟩
      rw [← Nat.sub_add_cancel (show sz ≤ i by omega), Nat.add_mod_right]
      exact h2

theorem fillRows_sound {s : S} {a : Act} {sz : Nat} : ∀ (ps : List (Nat × Operand)) {h0 : Hp} {who0 : Nat → Who} {es es' : List (List C)} {us : Array Value} {h' : Hp}, HSim W who0 L h0 → ESim W who0 L ⟨s.env, h0⟩ a.tmps → (∀ e ∈ es, e.length = sz) → RepCs W who0 es.flatten us.toList →
    fillRows s sz h0 es ps = some (es', h') →
    ∃ who' us', Instr.fill (fun i => some (i * sz, sz)) us (ps.map fun p => (p.1, a.eval p.2)) = some us' ∧ HSim W who' L h' ∧ Step .no W who0 L h0 W who' L h' ∧ (∀ e ∈ es', e.length = sz) ∧ es'.length = es.length ∧ RepCs W who' es'.flatten us'.toList
  | [], h0, who0, es, es', us, h', H, E, hsz, hr, hf => by
    simp only [fillRows, Option.some.injEq, Prod.mk.injEq] at hf
    obtain ⟨rfl, rfl⟩ := hf
    exact ⟨who0, us, rfl, H, Step.rf _ _ _ _, hsz, rfl, hr⟩
  | (i, o) :: ps, h0, who0, es, es', us, h', H, E, hsz, hr, hf => by
    simp only [fillRows] at hf
    split at hf
    case isFalse => cases hf
    rename_i hc
    obtain ⟨hw, hl, hi⟩ := hc
    cases hq : h0.freezeL (s.rd o).xs with
    | none => simp [hq] at hf
    | some q =>
      simp only [hq, Option.bind_some] at hf
      have hrd : RepT W who0 L h0 (s.rd o) (a.eval o) := rep_rd (s := ⟨s.env, h0⟩) E o
      have hcs := hrd.cells hw
      obtain ⟨who1, H1, S1, R1⟩ := freezeL_sound H hcs hq
      have hql : q.1.length = sz := by rw [R1.1, ← hcs.1, hl]
      have hvl : (a.eval o).cells.size = sz := by have := hcs.1; simp at this; omega
      have hul := hr.1
      have hflat := flatten_len es hsz
      simp only [Array.length_toList] at hul
      have hfit : i * sz + sz ≤ us.size := by
        have : (i + 1) * sz ≤ es.length * sz := Nat.mul_le_mul_right sz hi
        rw [Nat.succ_mul] at this
        omega
      have hset := foldl_set (a.eval o).cells.toList us (i * sz) 0 (by simp; omega)
      have hr1 : RepCs W who1 (es.set i q.1).flatten ((a.eval o).cells.zipIdx.foldl (fun cs x => cs.setIfInBounds (i * sz + x.2) x.1) us).toList := by
        have e : ((a.eval o).cells.zipIdx.foldl (fun cs x => cs.setIfInBounds (i * sz + x.2) x.1) us) = ((a.eval o).cells.toList.zipIdx 0).foldl (fun cs (q : Value × Nat) => cs.setIfInBounds (i * sz + q.2) q.1) us := by
          rw [← Array.foldl_toList]; simp
        rw [e, hset, flatten_set hsz (List.getElem?_eq_getElem hi) hql, Nat.add_zero]
        have h2 := S1.repCs hr
        have e3 : (a.eval o).cells.toList.length = sz := by simpa using hvl
        rw [e3]
        exact ((h2.take _).append R1).append (h2.drop _)
      obtain ⟨who2, us', h1, h2, h3, h4, h5, h6⟩ := fillRows_sound (s := s) (a := a) ps H1 (Step.env (s := ⟨s.env, h0⟩) S1 E) (fun e he => by
        rcases List.mem_or_eq_of_mem_set he with h | h
        · exact hsz e h
        · rw [h]; exact hql) hr1 hf
      refine ⟨who2, us', ?_, h2, S1.tr h3, h4, by rw [h5]; simp, h6⟩
      rw [List.map_cons]
      simp only [Instr.fill, hvl]
      rw [if_neg (by simp; omega)]
      exact h1

theorem buildSlice_sound {s : S} {a : Act} (H : HSim W who L s.h) (E : ESim W who L s a.tmps) {t : TypeId} {len : Nat} {parts : Array (Nat × Operand)} {r : T × Hp} (hs : buildSliceX P s t len parts.toList = some r) :
    ∃ v W' who' L', (Instr.buildSlice t len (parts.map fun (i, x) => (i, a.eval x))).run P W = .ok v W' ∧ RepT W' who' L' r.2 r.1 v ∧ HSim W' who' L' r.2 ∧ Step .no W who L s.h W' who' L' r.2 := by
  unfold buildSliceX at hs
  cases he : elemT P t with
  | none => simp [he] at hs
  | some e =>
  cases hz : szT P e with
  | none => simp [he, hz] at hs
  | some sz =>
  cases hzx : zeroX P e with
  | none => simp [he, hz, hzx] at hs
  | some z =>
  cases hcl : z.mapM X.cl with
  | none => simp [he, hz, hzx, hcl] at hs
  | some zc =>
  simp only [he, hz, hzx, hcl, Option.bind_some] at hs
  split at hs
  case isFalse => cases hs
  rename_i hc
  obtain ⟨hzl, hpos, hbig⟩ := hc
  cases hf : fillRows s sz s.h (List.replicate len zc) parts.toList with
  | none => simp [hf] at hs
  | some q =>
  simp only [hf, Option.map_some, Option.some.injEq] at hs
  subst hs
  have hu : P.underlying t = some (.slice e) := by
    unfold elemT at he
    split at he
    · cases he; assumption
    · cases he
  obtain ⟨zv, hzrun, hzrep⟩ := run_zero (W := W) (who := who) (L := L) hzx
  have hzc := hzrep s.h
  rw [cl_some hcl] at hzc
  have hzc2 := hzc.cs
  have hzs : zv.cells.size = sz := by have := hzc2.1; simp at this; omega
  have hrep0 : ∀ e ∈ List.replicate len zc, e.length = sz := fun e he => by rw [(List.mem_replicate.1 he).2]; exact hzl
  have hinit : RepCs W who (List.replicate len zc).flatten ((Array.range (len * sz)).map (zv.cells[· % zv.cells.size]!)).toList := by
    refine ⟨by rw [flatten_len _ hrep0]; simp, fun i c u h1 h2 => ?_⟩
    obtain ⟨h3, h4⟩ := flat_rep hzl len i c h1
    refine hzc2.2 (i % sz) c u h4 ?_
    have hsz0 : 0 < sz := hpos
    have hm : i % sz < zv.cells.size := by rw [hzs]; exact Nat.mod_lt _ hsz0
    simp [h3] at h2
    rw [← h2, hzs]
    rw [Array.getElem?_toList, getElem!_pos zv.cells _ hm]
    exact Array.getElem?_eq_getElem hm
  obtain ⟨who1, us', h1, H1, S1, hsz1, hl1, hr1⟩ := fillRows_sound (a := a) (s := s) parts.toList H E hrep0 hinit hf
  rw [List.length_replicate] at hl1
  have hul : us'.size = len * sz := by have := hr1.1; rw [flatten_len _ hsz1, hl1] at this; simpa using this.symm
  have hlen : len ≤ maxLen := by
    have hsz0 : 0 < sz := hpos
    have := Nat.le_mul_of_pos_right len hsz0
    unfold maxLen; omega
  have hown : (W.alloc (.cells us' e)).ownsRow 0 e sz (.slice (some ⟨W.heap.size, 0, none⟩) len len) ([] ++ q.1).length ([] ++ us'.toList) := by
    refine ⟨by simp [hul, hl1], .inr ⟨W.heap.size, len, us', by simp [hl1], Nat.zero_le _, alloc_new W _, by simp [hl1], hlen, hul, ?_⟩⟩
    rw [List.take_of_length_le (by simp [hl1, hul])]; rfl
  have hgrow : Grow W (W.alloc (.cells us' e)) (.slice none 0 0) (.slice (some ⟨W.heap.size, 0, none⟩) len len) :=
    ⟨⟨rfl, rfl, rfl, ((Ext.rf W).al _).size, fun k hk _ => alloc_old W _ hk⟩, .inr fun k hk => by simp [Value.ownBlock] at hk; omega⟩
  obtain ⟨who2, H2, S2⟩ := grow_sim (h := q.2) (e := e) (sz := sz) (rid := none) (es := []) (news := q.1) (us := []) (vs := us'.toList) H1 (.inl ⟨rfl, rfl⟩) (by simpa using hsz1) hown hgrow ⟨rfl, fun i c u h => by simp at h⟩ hr1
  replace S2 := S2.up (M' := .no) (fun _ h => h) (fun k hk => by cases hk)
  refine ⟨.slice (some ⟨W.heap.size, 0, none⟩) len len, _, who2, _, ?_, ⟨_, rfl, ?_⟩, H2, S1.tr S2⟩
  rotate_left
  · have := rep_own H2 (r := q.2.rw.length) (ty := e) (sz := sz) (es := [] ++ q.1) (by simp [kill])
    simpa [hl1, kill] using this
  · have e2 : (parts.map fun (i, x) => (i, a.eval x)).toList = parts.toList.map fun p => (p.1, a.eval p.2) := by simp
    have hng : ¬ (len * sz > 2 ^ 24) := by simp; omega
    unfold Instr.buildSlice
    by_cases hne : len * sz = 0
    · have hz0 : ∀ z : Array Value, (Array.range (len * sz)).map (z[· % z.size]!) = (Array.range (len * sz)).map (zv.cells[· % zv.cells.size]!) := fun z => by rw [hne]; simp
      rw [← hz0 #[]] at h1
      simp only [Sem.run_bind, run_underlying hu, Result.andThen_ok, run_size hz, Sem.run_ite, hng, if_false, if_pos hne, Sem.run_pure, e2]
      rw [h1]
      simp [newRow, World.alloc, -World.alloc_eq]
    simp only [Sem.run_bind, run_underlying hu, Result.andThen_ok, run_size hz, Sem.run_ite, hng, if_false, hne, hzrun, Sem.run_pure, e2]
    rw [h1]
    simp [newRow, World.alloc, -World.alloc_eq]
end
end Go.Proofs.YtkdnbnkbnegckaaGreatDoor
