/- What one of the second machine's steps leaves of what was there. Numbers as bytes, in plain Lean. A text turned to bytes, at a step of a region that draws its order. append(b, s...) of a string to bytes of one's own. -/
import Derived.Test.YtkdnbnkbnegckaaGreatDoorEvD
import Derived.Lib.Zigzag
import Derived.Lib.VarintBits
import Derived.Laws.BitsAllLaws
import Derived.Test.YtkdnbnkbnegckaaGreatDoorBase
import Derived.Lib.ConvBytes
namespace Go.Proofs.YtkdnbnkbnegckaaGreatDoor
open Go.RowKit

/-- From the world W to W': what was frozen, or another's, is as it was; boxes stay; a row that is still there is as long as it was, at its place. -/
structure Mods where
  bx : Nat → Prop
  rw : Nat → Prop
def Mods.no : Mods := ⟨fun _ => False, fun _ => False⟩
def Mods.all : Mods := ⟨fun _ => True, fun _ => True⟩
structure Step (M : Mods) (W : World) (who : Nat → Who) (L : Lay) (h : Hp) (W' : World) (who' : Nat → Who) (L' : Lay) (h' : Hp) : Prop where
  os : W'.os = W.os
  tape : W'.tape = W.tape
  output : W'.output = W.output
  size : W.heap.size ≤ W'.heap.size
  fro : ∀ b, who b = .frozen → b < W.heap.size → W'.heap[b]? = W.heap[b]? ∧ who' b = .frozen
  oth : ∀ b, who b = .other → b < W.heap.size → W'.heap[b]? = W.heap[b]? ∧ who' b = .other
  bx : h.bx.length ≤ h'.bx.length
  box : ∀ k, k < h.bx.length → L'.box k = L.box k
  rw : h.rw.length ≤ h'.rw.length
  row : ∀ r, r < h.rw.length → ∀ sz es', h'.row r = some (sz, es') → (∃ es, h.row r = some (sz, es) ∧ es.length = es'.length) ∧ L'.row r = L.row r
  keepB : ∀ b, b < W.heap.size → ∀ k, who b = .box k → ¬ M.bx k → W'.heap[b]? = W.heap[b]? ∧ who' b = .box k
  keepR : ∀ b, b < W.heap.size → ∀ r, who b = .row r → ¬ M.rw r → W'.heap[b]? = W.heap[b]? ∧ (who' b = .row r ∨ who' b = .frozen)

section
variable {M M' : Mods} {W W' W2 : World} {who who' who2 : Nat → Who} {L L' L2 : Lay} {h h' h2 : Hp}

theorem Step.rf (W : World) (who : Nat → Who) (L : Lay) (h : Hp) : Step M W who L h W who L h :=
  ⟨rfl, rfl, rfl, Nat.le_refl _, fun _ hb _ => ⟨rfl, hb⟩, fun _ hb _ => ⟨rfl, hb⟩, Nat.le_refl _, fun _ _ => rfl, Nat.le_refl _, fun r _ sz es' h => ⟨⟨es', h, rfl⟩, rfl⟩, fun _ _ _ hb _ => ⟨rfl, hb⟩, fun _ _ _ hb _ => ⟨rfl, .inl hb⟩⟩
theorem Step.tr (a : Step M W who L h W' who' L' h') (b : Step M W' who' L' h' W2 who2 L2 h2) : Step M W who L h W2 who2 L2 h2 where
  os := b.os.trans a.os
  tape := b.tape.trans a.tape
  output := b.output.trans a.output
  size := Nat.le_trans a.size b.size
  fro := fun x hx hs => by
    obtain ⟨h1, h2⟩ := a.fro x hx hs
    obtain ⟨h3, h4⟩ := b.fro x h2 (Nat.lt_of_lt_of_le hs a.size)
    exact ⟨h3.trans h1, h4⟩
  oth := fun x hx hs => by
    obtain ⟨h1, h2⟩ := a.oth x hx hs
    obtain ⟨h3, h4⟩ := b.oth x h2 (Nat.lt_of_lt_of_le hs a.size)
    exact ⟨h3.trans h1, h4⟩
  bx := Nat.le_trans a.bx b.bx
  box := fun k hk => by rw [b.box k (Nat.lt_of_lt_of_le hk a.bx), a.box k hk]
  rw := Nat.le_trans a.rw b.rw
  row := fun r hr sz es' h3 => by
    obtain ⟨⟨es, h4, h5⟩, h6⟩ := b.row r (Nat.lt_of_lt_of_le hr a.rw) sz es' h3
    obtain ⟨⟨es2, h7, h8⟩, h9⟩ := a.row r hr sz es h4
    exact ⟨⟨es2, h7, h8.trans h5⟩, h6.trans h9⟩
  keepB := fun x hx k hk hm => by
    obtain ⟨h1, h2⟩ := a.keepB x hx k hk hm
    obtain ⟨h3, h4⟩ := b.keepB x (Nat.lt_of_lt_of_le hx a.size) k h2 hm
    exact ⟨h3.trans h1, h4⟩
  keepR := fun x hx r hr hm => by
    obtain ⟨h1, h2⟩ := a.keepR x hx r hr hm
    rcases h2 with h2 | h2
    · obtain ⟨h3, h4⟩ := b.keepR x (Nat.lt_of_lt_of_le hx a.size) r h2 hm
      exact ⟨h3.trans h1, h4⟩
    · obtain ⟨h3, h4⟩ := b.fro x h2 (Nat.lt_of_lt_of_le hx a.size)
      exact ⟨h3.trans h1, .inr h4⟩
theorem Step.up (a : Step M W who L h W' who' L' h') (hb : ∀ k, M.bx k → M'.bx k) (hr : ∀ k, M.rw k → M'.rw k) : Step M' W who L h W' who' L' h' :=
  { a with keepB := fun x hx k hk hm => a.keepB x hx k hk (fun h => hm (hb k h)), keepR := fun x hx k hk hm => a.keepR x hx k hk (fun h => hm (hr k h)) }
theorem Step.top (a : Step M W who L h W' who' L' h') : Step .all W who L h W' who' L' h' := a.up (fun _ _ => trivial) (fun _ _ => trivial)
theorem Step.any (a : Step .no W who L h W' who' L' h') : Step M W who L h W' who' L' h' := a.up (fun _ h => h.elim) (fun _ h => h.elim)

theorem Step.repC (S : Step M W who L h W' who' L' h') {c : C} {u : Value} (H : RepC W who c u) : RepC W' who' c u := by
  induction H with
  | v u hu => exact .v u hu
  | fz sz cap es ao us hu hc ha hw hr hl hrep ih =>
    refine .fz sz cap es ao us hu hc ha (fun b off hne e => ⟨(S.fro b (hw b off hne e).1 (hw b off hne e).2).2, Nat.lt_of_lt_of_le (hw b off hne e).2 S.size⟩) (fun b off e => ?_) hl ih
    by_cases hne : es = []
    · subst hne
      obtain rfl : us = [] := List.eq_nil_of_length_eq_zero (by simpa using hl.symm)
      intro j v hj
      simp at hj
    · exact range_same (hr b off e) fun _ => (S.fro b (hw b off hne e).1 (hw b off hne e).2).1
theorem Step.repCs (S : Step M W who L h W' who' L' h') {cs : List C} {us : List Value} (H : RepCs W who cs us) : RepCs W' who' cs us :=
  ⟨H.1, fun i c u h1 h2 => S.repC (H.2 i c u h1 h2)⟩
theorem Step.repX (S : Step M W who L h W' who' L' h') {x : X} {u : Value} (H : RepX W who L h x u) : RepX W' who' L' h' x u := by
  cases x with
  | c d => exact S.repC H
  | own r off n =>
    obtain ⟨h1, h2, h3⟩ := H
    refine ⟨Nat.lt_of_lt_of_le h1 S.rw, h2, fun sz es he => ?_⟩
    obtain ⟨⟨es0, h4, h5⟩, h6⟩ := S.row r h1 sz es he
    rw [h6, ← h5]
    exact h3 sz es0 h4
  | ptr k off =>
    obtain ⟨h1, h2⟩ := H
    exact ⟨Nat.lt_of_lt_of_le h1 S.bx, by rw [S.box k h1]; exact h2⟩
  | ep r i off =>
    obtain ⟨h1, b, o, h2, h3⟩ := H
    refine ⟨Nat.lt_of_lt_of_le h1 S.rw, b, o, h2, fun sz es he => ?_⟩
    obtain ⟨⟨es0, h4, h5⟩, h6⟩ := S.row r h1 sz es he
    obtain ⟨h7, h8⟩ := h3 sz es0 h4
    exact ⟨by omega, by rw [h6]; exact h8⟩
  | fp e off =>
    obtain ⟨b, o, us, h1, ⟨h2, h3⟩, h4, h5⟩ := H
    obtain ⟨h6, h7⟩ := S.fro b h2 h3
    exact ⟨b, o, us, h1, ⟨h7, Nat.lt_of_lt_of_le h3 S.size⟩, range_same h4 fun _ => h6, S.repCs h5⟩
  | clo bd f ks =>
    obtain ⟨h1, h2⟩ := H
    refine ⟨fun k hk => Nat.lt_of_lt_of_le (h1 k hk) S.bx, ?_⟩
    rw [h2]
    congr 1
    exact List.map_congr_left fun k hk => by rw [S.box k (h1 k hk)]
  | junk => trivial
theorem Step.repXs (S : Step M W who L h W' who' L' h') {xs : List X} {us : List Value} (H : RepXs W who L h xs us) : RepXs W' who' L' h' xs us :=
  ⟨H.1, fun i x u h1 h2 => ⟨S.repX (H.2 i x u h1 h2).1, (H.2 i x u h1 h2).2⟩⟩
theorem Step.repA (S : Step M W who L h W' who' L' h') {ag : Bool} {xs : List X} {v : Value} (H : RepA W who L h ag xs v) : RepA W' who' L' h' ag xs v := by
  cases ag with
  | true => obtain ⟨us, h1, h2⟩ := H; exact ⟨us, h1, S.repXs h2⟩
  | false => obtain ⟨x, h1, h2⟩ := H; exact ⟨x, h1, S.repX h2⟩
theorem Step.repTup (S : Step M W who L h W' who' L' h') : ∀ {sh : List (Bool × Nat)} {xs : List X} {vs : List Value}, RepTup W who L h sh xs vs → RepTup W' who' L' h' sh xs vs
  | [], _, _, H => H
  | (ag, n) :: sh, xs, vs, H => by
    obtain ⟨v, vs', h1, h2, h3, h4⟩ := H
    exact ⟨v, vs', h1, h2, S.repA h3, S.repTup h4⟩
theorem Step.repT (S : Step M W who L h W' who' L' h') {t : T} {v : Value} (H : RepT W who L h t v) : RepT W' who' L' h' t v := by
  obtain ⟨k, xs⟩ := t
  cases k with
  | one => exact S.repA H
  | agg => exact S.repA H
  | tup sh => obtain ⟨vs, h1, h2⟩ := H; exact ⟨vs, h1, S.repTup h2⟩
theorem Step.froR (S : Step M W who L h W' who' L' h') {sz : Nat} {es : List (List C)} {v : Value} (H : FroR W who sz es v) : FroR W' who' sz es v :=
  ⟨S.repC H.rep, fun g hg => ⟨(S.fro g (H.who g hg).1 (H.who g hg).2).2, Nat.lt_of_lt_of_le (H.who g hg).2 S.size⟩⟩
theorem Step.env {s : S} {a : Array Value} (S : Step M W who L s.h W' who' L' h') (E : ESim W who L s a) : ESim W' who' L' ⟨s.env, h'⟩ a :=
  ⟨E.1, fun t x hx => S.repT (E.2 t x hx)⟩

/-! What stands as it stood -/
theorem own_same {r ty sz : Nat} {es : List (List C)} {v : Value} (S : Step M W who L h W' who' L' h') (H : OwnR W who r ty sz es v) (hg : ∀ g, v.ownBlock = some g → W'.heap[g]? = W.heap[g]? ∧ who' g = .row r) : OwnR W' who' r ty sz es v := by
  obtain ⟨us, h1, h2⟩ := H.own
  refine ⟨H.size, ⟨us, ⟨h1.1, ?_⟩, S.repCs h2⟩, fun g e => (hg g e).2⟩
  rcases h1.2 with h3 | ⟨g, cap, cur, rfl, h4, h5, h6⟩
  · exact .inl h3
  · exact .inr ⟨g, cap, cur, rfl, h4, by rw [(hg g rfl).1]; exact h5, h6⟩
theorem box_same {k : Nat} {xs : List X} (S : Step M W who L h W' who' L' h') (H : HSim W who L h) (hk : h.bx[k]? = some xs) (hb : W'.heap[L.box k]? = W.heap[L.box k]?) (hw : who' (L.box k) = who (L.box k)) :
    ∃ us ty, W'.heap[L'.box k]? = some (.cells us ty (0, 0)) ∧ who' (L'.box k) = .box k ∧ RepXs W' who' L' h' xs us.toList := by
  obtain ⟨us, ty, h1, h2, h3⟩ := H.box k xs hk
  rw [S.box k (List.getElem?_eq_some_iff.1 hk).1]
  exact ⟨us, ty, by rw [hb, h1], by rw [hw, h2], S.repXs h3⟩
theorem HSim.box_lt (H : HSim W who L h) {k : Nat} (hk : k < h.bx.length) : L.box k < W.heap.size ∧ who (L.box k) = .box k := by
  obtain ⟨us, ty, h1, h2, _⟩ := H.box k _ (List.getElem?_eq_getElem hk)
  exact ⟨(Array.getElem?_eq_some_iff.1 h1).1, h2⟩
theorem OwnR.lt {r ty sz : Nat} {es : List (List C)} {v : Value} (H : OwnR W who r ty sz es v) {g : Nat} (hg : v.ownBlock = some g) : g < W.heap.size := by
  obtain ⟨us, h1, _⟩ := H.own
  exact (h1.lt g hg).2

def upd {α : Type} (f : Nat → α) (k : Nat) (v : α) : Nat → α := fun x => if x = k then v else f x
@[simp] theorem upd_same {α : Type} (f : Nat → α) (k : Nat) (v : α) : upd f k v k = v := if_pos rfl
theorem upd_ne {α : Type} (f : Nat → α) {k x : Nat} (v : α) (hx : x ≠ k) : upd f k v x = f x := if_neg hx

theorem row_lt {h : Hp} {r sz : Nat} {es : List (List C)} (hr : h.row r = some (sz, es)) : r < h.rw.length := by
  unfold Hp.row at hr
  split at hr
  · exact (List.getElem?_eq_some_iff.1 (by assumption)).1
  · exact (List.getElem?_eq_some_iff.1 (by assumption)).1
  · cases hr
theorem alloc_old (w : World) (o : Obj) {k : Nat} (hk : k < w.heap.size) : (w.alloc o).heap[k]? = w.heap[k]? := Below.heap_alloc w o k hk

/-- A new box. -/
theorem new_box (H : HSim W who L h) {xs : List X} {us : Array Value} (ty : TypeId) (hx : RepXs W who L h xs us.toList) :
    ∃ who' L', RepX (W.alloc (.cells us ty)) who' L' ⟨h.bx ++ [xs], h.rw⟩ (.ptr h.bx.length 0) (ptrV W.heap.size 0) ∧ HSim (W.alloc (.cells us ty)) who' L' ⟨h.bx ++ [xs], h.rw⟩ ∧ Step .no W who L h (W.alloc (.cells us ty)) who' L' ⟨h.bx ++ [xs], h.rw⟩ := by
  have hS : Step .no W who L h (W.alloc (.cells us ty)) (upd who W.heap.size (.box h.bx.length)) ⟨upd L.box h.bx.length W.heap.size, L.row⟩ ⟨h.bx ++ [xs], h.rw⟩ :=
    { os := rfl, tape := rfl, output := rfl
      size := ((Ext.rf W).al _).size
      fro := fun b hb hlt => ⟨alloc_old W _ hlt, by rw [upd_ne _ _ (Nat.ne_of_lt hlt)]; exact hb⟩
      oth := fun b hb hlt => ⟨alloc_old W _ hlt, by rw [upd_ne _ _ (Nat.ne_of_lt hlt)]; exact hb⟩
      bx := by simp
      box := fun k hk => upd_ne _ _ (Nat.ne_of_lt hk)
      rw := Nat.le_refl _
      row := fun r hr sz es he => ⟨⟨es, he, rfl⟩, rfl⟩
      keepB := fun b hlt k hb _ => ⟨alloc_old W _ hlt, by rw [upd_ne _ _ (Nat.ne_of_lt hlt)]; exact hb⟩
      keepR := fun b hlt k hb _ => ⟨alloc_old W _ hlt, .inl (by rw [upd_ne _ _ (Nat.ne_of_lt hlt)]; exact hb)⟩ }
  refine ⟨_, _, ⟨by simp, by simp⟩, ⟨fun k ys hk => ?_, fun r ty' sz es hr => ?_, fun r sz es hr => ?_⟩, hS⟩
  · by_cases hlt : k < h.bx.length
    · rw [List.getElem?_append_left hlt] at hk
      obtain ⟨h1, h2⟩ := H.box_lt hlt
      exact box_same hS H hk (alloc_old W _ h1) (upd_ne _ _ (Nat.ne_of_lt h1))
    · have hke : k = h.bx.length := by
        have := (List.getElem?_eq_some_iff.1 hk).1
        simp at this
        omega
      subst hke
      simp at hk
      subst hk
      exact ⟨us, ty, by show (W.alloc _).heap[upd L.box _ _ _]? = _; rw [upd_same]; exact alloc_new W _, by simp, hS.repXs hx⟩
  · have := H.mu r ty' sz es hr
    exact own_same hS this fun g hg => ⟨alloc_old W _ (this.lt hg), by rw [upd_ne _ _ (Nat.ne_of_lt (this.lt hg))]; exact this.who g hg⟩
  · exact hS.froR (H.frz r sz es hr)

theorem freeze_row {h : Hp} {r sz : Nat} {es : List (List C)} (hr : h.row r = some (sz, es)) (r' : Nat) : (⟨h.bx, h.rw.set r (.fro sz es)⟩ : Hp).row r' = h.row r' := by
  unfold Hp.row
  simp only
  by_cases e : r = r'
  · subst e
    rw [List.getElem?_set_self (row_lt hr)]
    exact hr.symm
  · rw [List.getElem?_set_ne e]

/-- A row is frozen: nothing turns in the world. -/
theorem freeze_step (H : HSim W who L h) {r sz : Nat} {es : List (List C)} (hr : h.row r = some (sz, es)) :
    ∃ who', HSim W who' L ⟨h.bx, h.rw.set r (.fro sz es)⟩ ∧ Step .no W who L h W who' L ⟨h.bx, h.rw.set r (.fro sz es)⟩ ∧ (∀ b, who b = .frozen → who' b = .frozen) ∧ RepC W who' (.fz sz es) (L.row r) := by
  have hrow := freeze_row hr
  have hold := hr
  unfold Hp.row at hr
  split at hr
  · rename_i ty sz' es' he
    simp only [Option.some.injEq, Prod.mk.injEq] at hr
    obtain ⟨rfl, rfl⟩ := hr
    have hmu := H.mu r ty _ _ he
    let who' : Nat → Who := fun b => if (L.row r).ownBlock = some b then .frozen else who b
    have hkeep : ∀ b, who b = .frozen → who' b = .frozen := fun b hb => by simp only [who']; split <;> simp [hb]
    have hS : Step .no W who L h W who' L ⟨h.bx, h.rw.set r (.fro sz' es')⟩ :=
      { os := rfl, tape := rfl, output := rfl, size := Nat.le_refl _
        fro := fun b hb _ => ⟨rfl, hkeep b hb⟩
        oth := fun b hb _ => ⟨rfl, by
          simp only [who']
          rw [if_neg]
          · exact hb
          · intro e; have := hmu.who b e; rw [hb] at this; cases this⟩
        bx := Nat.le_refl _, box := fun _ _ => rfl
        rw := by simp
        row := fun r' _ sz es he => ⟨⟨es, by rw [← hrow r']; exact he, rfl⟩, rfl⟩
        keepB := fun b _ k hb _ => ⟨rfl, by
          simp only [who']
          rw [if_neg]
          · exact hb
          · intro e; have := hmu.who b e; rw [hb] at this; cases this⟩
        keepR := fun b _ k hb _ => ⟨rfl, by simp only [who']; split <;> simp [hb]⟩ }
    have hfz : RepC W who' (.fz sz' es') (L.row r) := by
      obtain ⟨ao, cap, us, h1, h2, h3, h4, h5⟩ := hmu.rd.ex
      have h6 := hS.repCs h5
      rw [h1]
      refine .fz sz' cap es' ao us hmu.size h2 h3 (fun b off hne e => ?_) h4 h6.1 h6.2
      have hg : (L.row r).ownBlock = some b := by rw [h1, e]; rfl
      exact ⟨by simp only [who']; rw [if_pos hg], hmu.lt hg⟩
    refine ⟨who', ⟨fun k xs hk => ?_, fun r' ty' sz2 es2 hr' => ?_, fun r' sz2 es2 hr' => ?_⟩, hS, hkeep, hfz⟩
    · refine box_same hS H hk rfl ?_
      simp only [who']
      rw [if_neg]
      intro e
      have h1 := hmu.who _ e
      have h2 := (H.box_lt (List.getElem?_eq_some_iff.1 hk).1).2
      rw [h1] at h2
      cases h2
    · by_cases e : r = r'
      · subst e
        rw [List.getElem?_set_self (row_lt hold)] at hr'
        cases hr'
      · rw [List.getElem?_set_ne e] at hr'
        have h1 := H.mu r' ty' sz2 es2 hr'
        refine own_same hS h1 fun g hg => ⟨rfl, ?_⟩
        simp only [who']
        rw [if_neg]
        · exact h1.who g hg
        · intro e2
          have h2 := hmu.who g e2
          rw [h1.who g hg] at h2
          cases h2
          exact e rfl
    · by_cases e : r = r'
      · subst e
        rw [List.getElem?_set_self (row_lt hold)] at hr'
        cases hr'
        exact ⟨hfz, fun g hg => ⟨by simp only [who']; rw [if_pos hg], hmu.lt hg⟩⟩
      · rw [List.getElem?_set_ne e] at hr'
        exact hS.froR (H.frz r' sz2 es2 hr')
  · rename_i sz' es' he
    simp only [Option.some.injEq, Prod.mk.injEq] at hr
    obtain ⟨rfl, rfl⟩ := hr
    have hset : h.rw.set r (.fro sz' es') = h.rw := by
      apply List.ext_getElem?
      intro i
      by_cases e : r = i
      · subst e; rw [List.getElem?_set_self (row_lt hold), he]
      · rw [List.getElem?_set_ne e]
    rw [hset]
    exact ⟨who, H, Step.rf _ _ _ _, fun _ hb => hb, H.fro r _ _ he⟩
  · cases hr

/-- A part of what is frozen. -/
theorem RepC.sub {sz : Nat} {es : List (List C)} {v u : Value} {off n : Nat} (H : RepC W who (.fz sz es) v) (hs : Sub v sz es.length off n u) : RepC W who (.fz sz ((es.drop off).take n)) u := by
  have hrd := H.rd.sub hs
  obtain ⟨ao2, cap2, us2, hv2, hcap2, hne2, hr2, hrep2⟩ := hrd.ex
  have hlen : ((es.drop off).take n).length = n := by have := hs.1; simp; omega
  rw [hv2]
  refine .fz sz cap2 _ ao2 us2 hrd.size hcap2 hne2 (fun b o hn0 e => ?_) hr2 hrep2.1 hrep2.2
  have hn : 0 < n := by
    rcases Nat.eq_zero_or_pos n with h0 | h0
    · exact absurd (List.eq_nil_of_length_eq_zero (by rw [hlen, h0])) hn0
    · exact h0
  obtain ⟨hle, ao3, hc3, ao4, c4, q1, q2, _, q3, _⟩ := hs
  cases H with
  | fz _ cap _ ao us hu hc ha hw hr hl hrep =>
    cases q1
    have hne : es ≠ [] := fun e => by subst e; simp at hle; omega
    obtain ⟨b1, o1, e1⟩ := ha hne
    rw [hv2] at q2
    simp only [Value.slice.injEq] at q2
    have := q3 hn b1 o1 e1
    rw [← q2.1, e] at this
    simp only [Option.some.injEq, Addr.mk.injEq, and_true] at this
    rw [this.1]
    exact hw b1 o1 hne e1

theorem freeze_sound (H : HSim W who L h) {x : X} {v : Value} {c : C} (hx : RepX W who L h x v) (hf : h.freeze x = some (c, h')) :
    ∃ who', HSim W who' L h' ∧ Step .no W who L h W who' L h' ∧ RepC W who' c v := by
  unfold Hp.freeze at hf
  split at hf
  · cases hf
    exact ⟨who, H, Step.rf _ _ _ _, hx⟩
  · rename_i r off n
    cases hr : h.row r with
    | none => simp [hr] at hf
    | some p =>
      simp only [hr, Option.bind_some] at hf
      split at hf
      · rename_i hle
        simp only [Option.some.injEq, Prod.mk.injEq] at hf
        obtain ⟨rfl, rfl⟩ := hf
        obtain ⟨who', h1, h2, _, h4⟩ := freeze_step H (sz := p.1) (es := p.2) hr
        exact ⟨who', h1, h2, h4.sub (hx.2.2 p.1 p.2 hr)⟩
      · cases hf
  · cases hf
theorem freezeL_sound : ∀ {h : Hp} {who : Nat → Who} {xs : List X} {us : List Value} {cs : List C} {h' : Hp}, HSim W who L h → RepXs W who L h xs us → h.freezeL xs = some (cs, h') →
    ∃ who', HSim W who' L h' ∧ Step .no W who L h W who' L h' ∧ RepCs W who' cs us
  | h, who, [], us, cs, h', H, hx, hf => by
    simp only [Hp.freezeL, Option.some.injEq, Prod.mk.injEq] at hf
    obtain ⟨rfl, rfl⟩ := hf
    exact ⟨who, H, Step.rf _ _ _ _, hx.1, fun i c u hc => by simp at hc⟩
  | h, who, x :: xs, [], cs, h', H, hx, hf => by have := hx.1; simp at this
  | h, who, x :: xs, u :: us, cs, h', H, hx, hf => by
    simp only [Hp.freezeL] at hf
    cases h1 : h.freeze x with
    | none => simp [h1] at hf
    | some p =>
      simp only [h1, Option.bind_some] at hf
      cases h2 : p.2.freezeL xs with
      | none => simp [h2] at hf
      | some q =>
        simp only [h2, Option.map_some, Option.some.injEq, Prod.mk.injEq] at hf
        obtain ⟨rfl, rfl⟩ := hf
        obtain ⟨who1, H1, S1, R1⟩ := freeze_sound H (hx.2 0 x u rfl rfl).1 h1
        have hx1 : RepXs W who1 L p.2 xs us := S1.repXs ⟨by simpa using hx.1, fun i => hx.2 (i + 1)⟩
        obtain ⟨who2, H2, S2, R2⟩ := freezeL_sound H1 hx1 h2
        refine ⟨who2, H2, S1.tr S2, by simpa using R2.1, fun i c w hc hw => ?_⟩
        cases i with
        | zero => cases hc; cases hw; exact S2.repC R1
        | succ i => exact R2.2 i c w hc hw
end
end Go.Proofs.YtkdnbnkbnegckaaGreatDoor
namespace Go.Proofs.YtkdnbnkbnegckaaGreatDoor

/-- A byte as a cell. -/
def byteC (b : UInt8) : Value := .int .u8 (b.toNat : Int)

end Go.Proofs.YtkdnbnkbnegckaaGreatDoor
namespace Go.Proofs.YtkdnbnkbnegckaaGreatDoor
open Go.RowKit

theorem bytesWorld_ext (w : World) (e : TypeId) (s : ByteArray) : Ext w (Lib.bytesWorld w e s) :=
  ⟨rfl, rfl, rfl, by rw [Lib.bytesWorld_size]; omega, fun k hk => Lib.bytesWorld_at_old w e s k hk⟩
theorem bytesWorld_cells (w : World) (e : TypeId) (s : ByteArray) : Cells (Lib.bytesWorld w e s) (some ⟨w.heap.size, 0, none⟩) (s.data.toList.map byteC) := by
  refine ⟨fun _ => ⟨_, _, rfl⟩, fun b off e2 j u hu => ?_⟩
  cases e2
  have hj : j < s.size := by
    have := (List.getElem?_eq_some_iff.1 hu).1
    simpa using this
  rw [Nat.zero_add, Lib.bytesWorld_cell w e s j hj]
  rw [List.getElem?_map] at hu
  have h2 : s.data.toList[j]? = some (s.data.toList.getD j 0) := by
    rw [List.getD, List.getElem?_eq_getElem (by simpa using hj)]; rfl
  rw [h2] at hu
  simpa [byteC] using hu

end Go.Proofs.YtkdnbnkbnegckaaGreatDoor
namespace Go.Proofs.YtkdnbnkbnegckaaGreatDoor
open Go.RowKit

theorem str_cells (s : ByteArray) : (Array.map (fun b : UInt8 => Value.int IntKind.u8 (b.toNat : Int)) s.data).extract 0 s.size = (s.data.toList.map byteC).toArray := by
  have hs : s.size = (Array.map (fun b : UInt8 => Value.int IntKind.u8 (b.toNat : Int)) s.data).size := by rw [Array.size_map]; rfl
  rw [hs, Array.extract_size]
  apply Array.ext'
  rw [Array.toList_map]; rfl

theorem run_append_str {P : Program} {w : World} (t u ty : TypeId) (base : Nat) (e : TypeId) (i : TypeInfo) (z : Value) (ht : P.underlying t = some (.slice e)) (hu : P.underlying u = some .string) (hi : P.info? e = some i) (hz : i.zero = some z)
    (hsize : i.size = 1) (hby : i.bytes = 1) (hzs : z.cells.size = 1) (v : Value) (n : Nat) (xs : List Value) (hown : w.ownsRow base e 1 v n xs) (s : ByteArray) (h63 : n + s.size ≤ maxLen) (hbytes : n + s.size ≤ 140737488355328) (hbase : base ≤ w.heap.size) :
    ∃ v' w', (Builtin.append_ #[t, u] ty #[v, .string s]).run P w = .ok v' w' ∧ w'.ownsRow base e 1 v' (n + s.size) (xs ++ s.data.toList.map byteC) ∧ Grow w w' v v' := by
  have hl : (s.data.toList.map byteC).length = s.size := by rw [List.length_map, Array.length_toList]; rfl
  have hsmall : n + s.size ≤ 9223372036854775807 := by simp only [maxLen] at h63; omega
  have h1 : ∀ u ∈ s.data.toList.map byteC, u.oneCell' = true := by intro u hu; simp only [List.mem_map] at hu; obtain ⟨_, _, rfl⟩ := hu; rfl
  have hx := str_cells s
  have hlen : (xs ++ s.data.toList.map byteC).length = (n + s.size) * 1 := by rw [List.length_append, hown.1, hl]; omega
  generalize hN : s.data.toList.map byteC = news at *
  have grown : ∀ (old : Nat), old < n + s.size →
      (w.drew.alloc (.cells (xs.toArray ++ news.toArray ++ Builtin.zeroCells z.cells (grownCap w (n + s.size) old e - (n + s.size))) e)).ownsRow base e 1
        (.slice (some ⟨w.heap.size, 0, none⟩) (n + s.size) (grownCap w (n + s.size) old e)) (n + s.size) (xs ++ news) ∧
      Grow w (w.drew.alloc (.cells (xs.toArray ++ news.toArray ++ Builtin.zeroCells z.cells (grownCap w (n + s.size) old e - (n + s.size))) e)) v (.slice (some ⟨w.heap.size, 0, none⟩) (n + s.size) (grownCap w (n + s.size) old e)) := by
    intro old ho
    have hge := grownCap_ge w (n + s.size) old e
    have hcm : grownCap w (n + s.size) old e ≤ maxLen := grownCap_le_maxLen w (n + s.size) old e h63
    refine ⟨⟨hlen, .inr ⟨w.heap.size, _, _, rfl, hbase, heap_alloc_new w.drew _, hge, hcm, ?_, ?_⟩⟩, ⟨⟨rfl, rfl, rfl, by simp, fun k hk _ => heap_alloc_old w.drew _ hk⟩, .inr fun k hk => by simp [Value.ownBlock] at hk; omega⟩⟩
    · simp only [Array.size_append, List.size_toArray, size_zeroCells, hzs, hown.1, hl]
      omega
    · simp only [Array.toList_append, List.append_assoc]
      rw [← List.append_assoc, ← hlen]
      exact List.take_left
  rcases hown.2 with ⟨rfl, rfl⟩ | ⟨g, cap, cur, rfl, hbg, hg, hnc, hcm, hcs, htake⟩
  · have hx0 : xs = [] := List.eq_nil_of_length_eq_zero (by simpa using hown.1)
    subst hx0
    by_cases hm : s.size = 0
    · have hn : news = [] := List.eq_nil_of_length_eq_zero (by omega)
      subst hn
      rw [hm]
      refine ⟨.slice none 0 0, w, ?_, World.ownsRow_nil w base e 1, Grow.rf _ _⟩
      simp [Builtin.append_, run_underlying ht, run_underlying hu, sizeOf, typeInfo, hi, Builtin.lenOf, Builtin.firstCells, hm]
    · have hr := run_append_nil_string (P := P) w t u ty e i z ht hu hi hz s (by omega) (by omega) (by rw [hby]; omega)
      have hgr := grown 0 (by omega)
      have hd : s.data.map (fun b => Value.int .u8 b.toNat) = news.toArray := by
        rw [← hx]
        have hs : s.size = (Array.map (fun b : UInt8 => Value.int IntKind.u8 (b.toNat : Int)) s.data).size := by rw [Array.size_map]; rfl
        rw [hs, Array.extract_size]
      rw [hd] at hr
      simp only [Nat.zero_add, List.nil_append, Array.empty_append] at hgr ⊢
      exact ⟨_, _, hr, hgr.1, hgr.2⟩
  · by_cases hroom : n + s.size ≤ cap
    · have hfit : n + news.length ≤ cur.size := by omega
      have hst := run_storeCells_at P g n e news 0 cur w hg (by simpa using hfit) h1
      simp only [Nat.add_zero] at hst
      have hr : (Builtin.append_ #[t, u] ty #[.slice (some ⟨g, 0, none⟩) n cap, .string s]).run P w = .ok (.slice (some ⟨g, 0, none⟩) (n + s.size) cap) (w.setRow g (cur.toList.take n ++ news ++ cur.toList.drop (n + news.length)).toArray) := by
        simp [Builtin.append_, run_underlying ht, run_underlying hu, sizeOf, typeInfo, hi, Builtin.lenOf, Builtin.firstCells, hroom, hx, hsize, Addr.add_lit, hst]
      refine ⟨_, _, hr, ⟨hlen, .inr ⟨g, cap, _, rfl, hbg, setRow_heap w g cur _ e _ hg, hroom, hcm, ?_, ?_⟩⟩, ⟨⟨rfl, rfl, rfl, by simp, fun k _ hk => setRow_other w g k _ (fun e => hk (by simp [Value.ownBlock, e]))⟩, .inl rfl⟩⟩
      · simp only [List.size_toArray, List.length_append, List.length_take, List.length_drop, Array.length_toList]
        omega
      · have ht' : cur.toList.take n = xs := by simpa using htake
        rw [ht', ← hlen]
        exact List.take_left
    · have holds : ∀ j u, xs[j]? = some u → w.cell? ((⟨g, 0, none⟩ : Addr).add j) = some u := hown.cells (g := g) rfl
      have hfo := run_firstCells_some (P := P) w.drew 1 n ⟨g, 0, none⟩ n cap xs hown.1 (by simpa using holds)
      have hr : (Builtin.append_ #[t, u] ty #[.slice (some ⟨g, 0, none⟩) n cap, .string s]).run P w = .ok (.slice (some ⟨w.heap.size, 0, none⟩) (n + s.size) (grownCap w (n + s.size) cap e))
          (w.drew.alloc (.cells (xs.toArray ++ news.toArray ++ Builtin.zeroCells z.cells (grownCap w (n + s.size) cap e - (n + s.size))) e)) := by
        have h63' : ¬ (9223372036854775807 < ((n : Int) + (s.size : Int))) := by omega
        have hfits := growslice_fits (need := n + s.size) (old := cap) (bytes := 1) (by omega) (by omega)
        have h48' : ¬ (281474976710656 < Builtin.nextslicecap (n + s.size) cap * i.bytes) := by rw [hby]; omega
        simp [Builtin.append_, run_underlying ht, run_underlying hu, sizeOf, typeInfo, zeroValue, hi, hz, hsize, Builtin.lenOf, hroom, h63', h48', Question.forced, Builtin.firstCells, hx, hfo, newRow, grownCap]
        have hfo2 : Sem.run P (loadCells ⟨g, 0, none⟩ n) w.drew = .ok xs.toArray w.drew := by simpa [Builtin.firstCells] using hfo
        rw [hfo2]
        simp only [Result.andThen_ok]
        congr 3
        apply Array.ext'
        simp
      have hgr := grown cap (by omega)
      exact ⟨_, _, hr, hgr.1, hgr.2⟩

theorem wp_str {P : Program} {w : World} {o : Oper} {a : Act} {K : Act → World → Prop} {Q : Exit → Act → World → Prop} (sl x : Operand) (t u : TypeId)
    (ho : o.op = .call { callee := .builtin .append, args := #[sl, x], argTypes := #[t, u] })
    (base : Nat) (e : TypeId) (z : Value) (ht : P.underlying t = some (.slice e)) (hu : P.underlying u = some .string) (hi : (P.info? e).map (fun i => (i.zero, i.size, i.bytes)) = some (some z, 1, 1))
    (hzs : z.cells.size = 1) (v : Value) (n : Nat) (xs : List Value) (hs : a.eval sl = v) (hown : w.ownsRow base e 1 v n xs) (s : ByteArray) (hx : a.eval x = .string s)
    (h63 : n + s.size ≤ maxLen) (hbytes : n + s.size ≤ 140737488355328) (hbase : base ≤ w.heap.size)
    (h : ∀ v' w', w'.ownsRow base e 1 v' (n + s.size) (xs ++ s.data.toList.map byteC) → Grow w w' v v' → K (a.put o.dst v') w') : o.wp P a w K Q := by
  obtain ⟨i, hi, hz0, hz1, hz2⟩ := info_parts hi
  obtain ⟨v', w', hr, h2, h3⟩ := run_append_str (P := P) t u o.type base e i z ht hu hi hz0 hz1 hz2 hzs v n xs hown s h63 hbytes hbase
  unfold Oper.wp execOp
  simp only [ho, resolve, invoke, builtin, Sem.run_bind, Sem.run_pure, Result.andThen_ok, List.map_toArray, List.map_cons, List.map_nil, hs, hx, hr]
  exact h v' w' h2 h3

end Go.Proofs.YtkdnbnkbnegckaaGreatDoor
