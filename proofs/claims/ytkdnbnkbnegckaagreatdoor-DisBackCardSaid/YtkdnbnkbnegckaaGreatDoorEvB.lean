/- What the second machine's values stand for in a world. -/
import Derived.Test.YtkdnbnkbnegckaaGreatDoorEvA
import Derived.Deep.MidRow
namespace Go.Proofs.YtkdnbnkbnegckaaGreatDoor
open Go.RowKit

inductive Who where
  | frozen | box (k : Nat) | row (r : Nat) | other

structure Lay where
  box : Nat → Nat
  row : Nat → Value

inductive RepC (W : World) (who : Nat → Who) : C → Value → Prop where
  | v (u : Value) (h : scalar u = true) : RepC W who (.v u) u
  | fz (sz cap : Nat) (es : List (List C)) (ao : Option Addr) (us : List Value) (hu : ∀ e ∈ es, e.length = sz) (hc : es.length ≤ cap)
      (ha : es ≠ [] → ∃ b off, ao = some ⟨b, off, none⟩) (hw : ∀ b off, es ≠ [] → ao = some ⟨b, off, none⟩ → who b = .frozen ∧ b < W.heap.size)
      (hr : ∀ b off, ao = some ⟨b, off, none⟩ → W.rangeAt b off us) (hl : es.flatten.length = us.length)
      (hrep : ∀ (i : Nat) c u, es.flatten[i]? = some c → us[i]? = some u → RepC W who c u) : RepC W who (.fz sz es) (.slice ao es.length cap)

def RepCs (W : World) (who : Nat → Who) (cs : List C) (us : List Value) : Prop := cs.length = us.length ∧ ∀ (i : Nat) c u, cs[i]? = some c → us[i]? = some u → RepC W who c u

/-- A header whose cells are these elements, now. -/
structure Rd (W : World) (who : Nat → Who) (sz : Nat) (es : List (List C)) (h : Value) : Prop where
  size : ∀ e ∈ es, e.length = sz
  ex : ∃ ao cap us, h = .slice ao es.length cap ∧ es.length ≤ cap ∧ (es ≠ [] → ∃ b off, ao = some ⟨b, off, none⟩) ∧ (∀ b off, ao = some ⟨b, off, none⟩ → W.rangeAt b off us) ∧ RepCs W who es.flatten us

structure OwnR (W : World) (who : Nat → Who) (r : Nat) (ty sz : Nat) (es : List (List C)) (h : Value) : Prop where
  size : ∀ e ∈ es, e.length = sz
  own : ∃ us, W.ownsRow 0 ty sz h es.length us ∧ RepCs W who es.flatten us
  who : ∀ g, h.ownBlock = some g → who g = .row r

/-- A part of a slice. -/
def Sub (h : Value) (sz len off n : Nat) (v : Value) : Prop :=
  off + n ≤ len ∧ ∃ ao hc ao' c', h = .slice ao len hc ∧ v = .slice ao' n c' ∧ n ≤ c' ∧ (0 < n → ∀ b o, ao = some ⟨b, o, none⟩ → ao' = some ⟨b, o + off * sz, none⟩) ∧ (off = 0 → n = len → v = h)

def ptrV (b off : Nat) : Value := .pointer (some ⟨b, off, none⟩)

def cloV (bd : Bool) (f : FuncId) (us : List Value) : Value := if bd then .func (.func f) us.toArray #[] else .func (.func f) #[] us.toArray

def RepX (W : World) (who : Nat → Who) (L : Lay) (h : Hp) : X → Value → Prop
  | .c d, v => RepC W who d v
  | .own r off n, v => r < h.rw.length ∧ (∃ ao c, v = .slice ao n c) ∧ ∀ sz es, h.row r = some (sz, es) → Sub (L.row r) sz es.length off n v
  | .ptr k off, v => k < h.bx.length ∧ v = ptrV (L.box k) off
  | .ep r i off, v => r < h.rw.length ∧ ∃ b o, v = ptrV b (o + off) ∧ ∀ sz es, h.row r = some (sz, es) → i < es.length ∧ ∃ o' len cap, L.row r = .slice (some ⟨b, o', none⟩) len cap ∧ o = o' + i * sz
  | .fp e off, v => ∃ b o us, v = ptrV b (o + off) ∧ (who b = .frozen ∧ b < W.heap.size) ∧ W.rangeAt b o us ∧ RepCs W who e us
  | .clo bd f ks, v => (∀ k ∈ ks, k < h.bx.length) ∧ v = cloV bd f (ks.map fun k => ptrV (L.box k) 0)
  | .junk, _ => True

def RepXs (W : World) (who : Nat → Who) (L : Lay) (h : Hp) (xs : List X) (us : List Value) : Prop :=
  xs.length = us.length ∧ ∀ (i : Nat) x u, xs[i]? = some x → us[i]? = some u → RepX W who L h x u ∧ u.oneCell' = true

/-- One value: a struct's or an array's cells, or a cell. -/
def RepA (W : World) (who : Nat → Who) (L : Lay) (h : Hp) (ag : Bool) (xs : List X) (v : Value) : Prop :=
  if ag then ∃ us : List Value, v = .agg us.toArray ∧ RepXs W who L h xs us else ∃ x, xs = [x] ∧ RepX W who L h x v
def RepTup (W : World) (who : Nat → Who) (L : Lay) (h : Hp) : List (Bool × Nat) → List X → List Value → Prop
  | [], xs, vs => xs = [] ∧ vs = []
  | (ag, n) :: sh, xs, vs => ∃ v vs', vs = v :: vs' ∧ n ≤ xs.length ∧ RepA W who L h ag (xs.take n) v ∧ RepTup W who L h sh (xs.drop n) vs'
def RepT (W : World) (who : Nat → Who) (L : Lay) (h : Hp) : T → Value → Prop
  | ⟨.one, xs⟩, v => RepA W who L h false xs v
  | ⟨.agg, xs⟩, v => RepA W who L h true xs v
  | ⟨.tup sh, xs⟩, v => ∃ vs : List Value, v = .tuple vs.toArray ∧ RepTup W who L h sh xs vs

/-- A row that turns no more. -/
structure FroR (W : World) (who : Nat → Who) (sz : Nat) (es : List (List C)) (v : Value) : Prop where
  rep : RepC W who (.fz sz es) v
  who : ∀ g, v.ownBlock = some g → who g = .frozen ∧ g < W.heap.size

structure HSim (W : World) (who : Nat → Who) (L : Lay) (h : Hp) : Prop where
  box : ∀ k xs, h.bx[k]? = some xs → ∃ us ty, W.heap[L.box k]? = some (.cells us ty (0, 0)) ∧ who (L.box k) = .box k ∧ RepXs W who L h xs us.toList
  mu : ∀ r ty sz es, h.rw[r]? = some (.mu ty sz es) → OwnR W who r ty sz es (L.row r)
  frz : ∀ r sz es, h.rw[r]? = some (.fro sz es) → FroR W who sz es (L.row r)

theorem HSim.fro {W : World} {who : Nat → Who} {L : Lay} {h : Hp} (H : HSim W who L h) (r sz : Nat) (es : List (List C)) (hr : h.rw[r]? = some (.fro sz es)) : RepC W who (.fz sz es) (L.row r) := (H.frz r sz es hr).rep

def ESim (W : World) (who : Nat → Who) (L : Lay) (s : S) (a : Array Value) : Prop :=
  a.size = s.env.length ∧ ∀ t x, s.env[t]? = some x → RepT W who L s.h x (a.getD t undef)

theorem scalar_one {u : Value} (h : scalar u = true) : u.oneCell' = true := by cases u <;> simp_all [scalar, Value.oneCell']
theorem RepC.one {W : World} {who : Nat → Who} {c : C} {u : Value} (h : RepC W who c u) : u.oneCell' = true := by
  cases h with
  | v u h => exact scalar_one h
  | fz => rfl
theorem RepX.one {W : World} {who : Nat → Who} {L : Lay} {hp : Hp} {x : X} {u : Value} (h : RepX W who L hp x u) (hj : x ≠ .junk) : u.oneCell' = true := by
  cases x with
  | c d => exact RepC.one h
  | own r off n => obtain ⟨_, ⟨ao, c, rfl⟩, _⟩ := h; rfl
  | ptr k off => obtain ⟨_, rfl⟩ := h; rfl
  | ep r i off => obtain ⟨_, _, _, rfl, _⟩ := h; rfl
  | fp e off => obtain ⟨_, _, _, rfl, _⟩ := h; rfl
  | clo bd f ks => obtain ⟨_, rfl⟩ := h; cases bd <;> rfl
  | junk => exact absurd rfl hj

/-! Lists of cells -/
theorem RepCs.drop {W : World} {who : Nat → Who} {cs : List C} {us : List Value} (h : RepCs W who cs us) (n : Nat) : RepCs W who (cs.drop n) (us.drop n) :=
  ⟨by simp [h.1], fun i c u h1 h2 => h.2 (n + i) c u (by simpa [List.getElem?_drop] using h1) (by simpa [List.getElem?_drop] using h2)⟩
theorem take_some {α : Type} {l : List α} {n i : Nat} {x : α} (h : (l.take n)[i]? = some x) : l[i]? = some x ∧ i < n := by
  rw [List.getElem?_take] at h
  split at h
  · exact ⟨h, by assumption⟩
  · cases h
theorem RepCs.take {W : World} {who : Nat → Who} {cs : List C} {us : List Value} (h : RepCs W who cs us) (n : Nat) : RepCs W who (cs.take n) (us.take n) :=
  ⟨by simp [h.1], fun i c u h1 h2 => h.2 i c u (take_some h1).1 (take_some h2).1⟩
theorem RepCs.append {W : World} {who : Nat → Who} {cs cs' : List C} {us us' : List Value} (h : RepCs W who cs us) (h' : RepCs W who cs' us') : RepCs W who (cs ++ cs') (us ++ us') :=
  ⟨by simp [h.1, h'.1], fun i c u h1 h2 => by
    by_cases hi : i < cs.length
    · rw [List.getElem?_append_left hi] at h1
      rw [List.getElem?_append_left (by rw [← h.1]; exact hi)] at h2
      exact h.2 i c u h1 h2
    · rw [List.getElem?_append_right (by omega)] at h1
      rw [List.getElem?_append_right (by rw [← h.1]; omega), ← h.1] at h2
      exact h'.2 _ c u h1 h2⟩
theorem RepXs.drop {W : World} {who : Nat → Who} {L : Lay} {h : Hp} {xs : List X} {us : List Value} (k : RepXs W who L h xs us) (n : Nat) : RepXs W who L h (xs.drop n) (us.drop n) :=
  ⟨by simp [k.1], fun i c u h1 h2 => k.2 (n + i) c u (by simpa [List.getElem?_drop] using h1) (by simpa [List.getElem?_drop] using h2)⟩
theorem RepXs.take {W : World} {who : Nat → Who} {L : Lay} {h : Hp} {xs : List X} {us : List Value} (k : RepXs W who L h xs us) (n : Nat) : RepXs W who L h (xs.take n) (us.take n) :=
  ⟨by simp [k.1], fun i c u h1 h2 => k.2 i c u (take_some h1).1 (take_some h2).1⟩
theorem RepXs.append {W : World} {who : Nat → Who} {L : Lay} {hp : Hp} {cs cs' : List X} {us us' : List Value} (h : RepXs W who L hp cs us) (h' : RepXs W who L hp cs' us') : RepXs W who L hp (cs ++ cs') (us ++ us') :=
  ⟨by simp [h.1, h'.1], fun i c u h1 h2 => by
    by_cases hi : i < cs.length
    · rw [List.getElem?_append_left hi] at h1
      rw [List.getElem?_append_left (by rw [← h.1]; exact hi)] at h2
      exact h.2 i c u h1 h2
    · rw [List.getElem?_append_right (by omega)] at h1
      rw [List.getElem?_append_right (by rw [← h.1]; omega), ← h.1] at h2
      exact h'.2 _ c u h1 h2⟩
theorem RepXs.nil {W : World} {who : Nat → Who} {L : Lay} {h : Hp} : RepXs W who L h [] [] := ⟨rfl, fun i x u h => by simp at h⟩
theorem RepCs.xs {W : World} {who : Nat → Who} {L : Lay} {h : Hp} {cs : List C} {us : List Value} (k : RepCs W who cs us) : RepXs W who L h (cs.map .c) us :=
  ⟨by simp [k.1], fun i x u h1 h2 => by
    rw [List.getElem?_map] at h1
    cases hc : cs[i]? with
    | none => simp [hc] at h1
    | some c =>
      simp [hc] at h1
      subst h1
      exact ⟨k.2 i c u hc h2, (k.2 i c u hc h2).one⟩⟩
theorem RepXs.one {W : World} {who : Nat → Who} {L : Lay} {h : Hp} {xs : List X} {us : List Value} (k : RepXs W who L h xs us) : ∀ u ∈ us, u.oneCell' = true := fun u hu => by
  obtain ⟨i, hi⟩ := List.getElem?_of_mem hu
  have hl := (List.getElem?_eq_some_iff.1 hi).1
  exact (k.2 i _ u (List.getElem?_eq_getElem (by rw [k.1]; exact hl)) hi).2
theorem RepCs.one {W : World} {who : Nat → Who} {cs : List C} {us : List Value} (k : RepCs W who cs us) : ∀ u ∈ us, u.oneCell' = true :=
  (k.xs (L := ⟨id, fun _ => undef⟩) (h := ⟨[], []⟩)).one

theorem flatten_drop {α : Type} {sz : Nat} : ∀ (es : List (List α)) (n : Nat), (∀ e ∈ es, e.length = sz) → (es.drop n).flatten = es.flatten.drop (n * sz)
  | [], n, _ => by simp
  | e :: es, 0, _ => by simp
  | e :: es, n + 1, h => by
    have he := h e (by simp)
    have e1 : List.drop ((n + 1) * sz) e = [] := List.drop_eq_nil_of_le (by rw [he, Nat.succ_mul]; omega)
    have e2 : (n + 1) * sz - e.length = n * sz := by rw [he, Nat.succ_mul]; omega
    rw [List.drop_succ_cons, flatten_drop es n (fun x hx => h x (by simp [hx])), List.flatten_cons, List.drop_append, e1, e2, List.nil_append]
theorem flatten_take {α : Type} {sz : Nat} : ∀ (es : List (List α)) (n : Nat), (∀ e ∈ es, e.length = sz) → (es.take n).flatten = es.flatten.take (n * sz)
  | [], n, _ => by simp
  | e :: es, 0, _ => by simp
  | e :: es, n + 1, h => by
    have he := h e (by simp)
    have e1 : List.take ((n + 1) * sz) e = e := List.take_of_length_le (by rw [he, Nat.succ_mul]; omega)
    have e2 : (n + 1) * sz - e.length = n * sz := by rw [he, Nat.succ_mul]; omega
    rw [List.take_succ_cons, List.flatten_cons, flatten_take es n (fun x hx => h x (by simp [hx])), List.flatten_cons, List.take_append, e1, e2]
theorem flatten_len {α : Type} {sz : Nat} : ∀ (es : List (List α)), (∀ e ∈ es, e.length = sz) → es.flatten.length = es.length * sz
  | [], _ => by simp
  | e :: es, h => by rw [List.flatten_cons, List.length_append, flatten_len es (fun x hx => h x (by simp [hx])), h e (by simp), List.length_cons, Nat.succ_mul, Nat.add_comm]
theorem flatten_at {α : Type} {sz : Nat} {es : List (List α)} (h : ∀ e ∈ es, e.length = sz) {i : Nat} {e : List α} (hi : es[i]? = some e) : (es.flatten.drop (i * sz)).take sz = e := by
  rw [← flatten_drop es i h]
  have hl := (List.getElem?_eq_some_iff.1 hi)
  rw [List.drop_eq_getElem_cons hl.1, hl.2, List.flatten_cons, List.take_append_of_le_length (by rw [h e (List.mem_of_getElem? hi)]; exact Nat.le_refl _), List.take_of_length_le (by rw [h e (List.mem_of_getElem? hi)]; exact Nat.le_refl _)]

/-! Reading -/
theorem range_drop {W : World} {b o : Nat} {us : List Value} (h : W.rangeAt b o us) (n : Nat) : W.rangeAt b (o + n) (us.drop n) := fun j v hj => by
  rw [List.getElem?_drop] at hj
  rw [Nat.add_assoc]
  exact h _ v hj
theorem range_take {W : World} {b o : Nat} {us : List Value} (h : W.rangeAt b o us) (n : Nat) : W.rangeAt b o (us.take n) := fun j v hj => h j v (take_some hj).1
theorem range_same {W W' : World} {b o : Nat} {us : List Value} (h : W.rangeAt b o us) (hb : b < W.heap.size → W'.heap[b]? = W.heap[b]?) : W'.rangeAt b o us := fun j v hj => by
  have := h j v hj
  rw [World.cell?_of_block (w := W) (w' := W') (hb (World.block_lt_of_cell? _ _ this))]
  exact this

theorem RepC.rd {W : World} {who : Nat → Who} {sz : Nat} {es : List (List C)} {v : Value} (h : RepC W who (.fz sz es) v) : Rd W who sz es v := by
  cases h with
  | fz _ cap _ ao us hu hc ha hw hr hl hrep => exact ⟨hu, ao, cap, us, rfl, hc, ha, hr, hl, hrep⟩
theorem OwnR.rd {W : World} {who : Nat → Who} {r ty sz : Nat} {es : List (List C)} {v : Value} (h : OwnR W who r ty sz es v) : Rd W who sz es v := by
  obtain ⟨us, h1, h2⟩ := h.own
  obtain ⟨ao, cap, rfl, hn, _, hc⟩ := Cells.own h1
  refine ⟨h.size, ao, cap, us, rfl, hn, fun hne => ?_, fun b off e j u hj => hc.cell b off e j u hj, h2⟩
  rcases h1.2 with ⟨_, h0⟩ | ⟨g, _, _, e, _⟩
  · exact absurd (List.eq_nil_of_length_eq_zero h0) hne
  · cases e; exact ⟨g, 0, rfl⟩
theorem HSim.rd {W : World} {who : Nat → Who} {L : Lay} {h : Hp} (H : HSim W who L h) {r sz : Nat} {es : List (List C)} (hr : h.row r = some (sz, es)) : Rd W who sz es (L.row r) := by
  unfold Hp.row at hr
  split at hr
  · rename_i ty sz' es' he
    simp only [Option.some.injEq, Prod.mk.injEq] at hr
    obtain ⟨rfl, rfl⟩ := hr
    exact (H.mu r ty _ _ he).rd
  · rename_i sz' es' he
    simp only [Option.some.injEq, Prod.mk.injEq] at hr
    obtain ⟨rfl, rfl⟩ := hr
    exact (H.fro r _ _ he).rd
  · cases hr
/-- The row's own block, or a frozen one: what a reading of it leans on. -/
theorem Rd.sub {W : World} {who : Nat → Who} {sz : Nat} {es : List (List C)} {h v : Value} {off n : Nat} (H : Rd W who sz es h) (hs : Sub h sz es.length off n v) : Rd W who sz ((es.drop off).take n) v := by
  obtain ⟨hle, ao, hc, ao', c', rfl, rfl, hnc, hao, _⟩ := hs
  obtain ⟨ao2, cap, us, e, hec, hne, hr, hrep⟩ := H.ex
  cases e
  have hl : ((es.drop off).take n).length = n := by simp; omega
  refine ⟨fun e he => H.size e (List.mem_of_mem_drop (List.mem_of_mem_take he)), ao', c', (us.drop (off * sz)).take (n * sz), by rw [hl], by rw [hl]; exact hnc, fun hne' => ?_, fun b o he => ?_, ?_⟩
  · have hn : 0 < n := by
      rcases Nat.eq_zero_or_pos n with h0 | h0
      · subst h0; simp at hne'
      · exact h0
    obtain ⟨b, o, e⟩ := hne (fun e => by subst e; simp at hle; omega)
    exact ⟨_, _, hao hn b o e⟩
  · rcases Nat.eq_zero_or_pos n with h0 | h0
    · subst h0
      intro j u hj
      simp at hj
    · obtain ⟨b', o', e⟩ := hne (fun e => by subst e; simp at hle; omega)
      have := hao h0 b' o' e
      rw [this] at he
      simp only [Option.some.injEq, Addr.mk.injEq, and_true] at he
      obtain ⟨rfl, rfl⟩ := he
      exact range_take (range_drop (hr b' o' e) _) _
  · rw [flatten_take _ _ (fun e he => H.size e (List.mem_of_mem_drop he)), flatten_drop _ _ H.size]
    exact (hrep.drop _).take _
/-- A header's element. -/
theorem Rd.elem {W : World} {who : Nat → Who} {sz : Nat} {es : List (List C)} {h : Value} (H : Rd W who sz es h) {i : Nat} {e : List C} (hi : es[i]? = some e) :
    ∃ b o cap us, h = .slice (some ⟨b, o, none⟩) es.length cap ∧ W.rangeAt b (o + i * sz) us ∧ RepCs W who e us := by
  obtain ⟨ao, cap, us, rfl, hec, hne, hr, hrep⟩ := H.ex
  obtain ⟨b, o, rfl⟩ := hne (fun e2 => by subst e2; simp at hi)
  refine ⟨b, o, cap, (us.drop (i * sz)).take sz, rfl, range_take (range_drop (hr b o rfl) _) _, ?_⟩
  have := (hrep.drop (i * sz)).take sz
  rwa [flatten_at H.size hi] at this

theorem rep_ofVal {W : World} {who : Nat → Who} {L : Lay} {h : Hp} (v : Value) : RepT W who L h (ofVal v) v := by
  have hj : RepT W who L h junkT v := ⟨_, rfl, trivial⟩
  have hc : ∀ u, RepX W who L h (cellOf u) u := fun u => by
    unfold cellOf
    split
    · exact .v u (by assumption)
    · trivial
  unfold ofVal
  split
  · rename_i cs
    split
    · rename_i hs
      refine ⟨cs.toList, by simp, by simp, fun i x u h1 h2 => ?_⟩
      rw [List.getElem?_map, h2] at h1
      simp only [Option.map_some, Option.some.injEq] at h1
      subst h1
      have := List.all_eq_true.1 hs u (List.mem_of_getElem? h2)
      exact ⟨hc u, scalar_one this⟩
    · exact hj
  · rename_i cs
    split
    · rename_i hs
      have : cs = #[] := by simpa using hs
      subst this
      exact ⟨[], rfl, rfl, rfl⟩
    · exact hj
  · exact ⟨_, rfl, hc v⟩
theorem rep_rd {W : World} {who : Nat → Who} {L : Lay} {s : S} {a : Act} (E : ESim W who L s a.tmps) (o : Operand) : RepT W who L s.h (s.rd o) (a.eval o) := by
  cases o with
  | tmp t =>
    simp only [S.rd, Act.eval, List.getD_eq_getElem?_getD]
    cases ht : s.env[t]? with
    | none => exact ⟨_, rfl, trivial⟩
    | some x => exact E.2 t x ht
  | const v => exact rep_ofVal v
  | global g => exact ⟨_, rfl, trivial⟩
  | func f => exact ⟨_, rfl, by simp, by simp [Act.eval, cloV]⟩
theorem rep_x1 {W : World} {who : Nat → Who} {L : Lay} {s : S} {a : Act} (E : ESim W who L s a.tmps) {o : Operand} {x : X} (h : s.x1 o = some x) : RepX W who L s.h x (a.eval o) := by
  have := rep_rd E o
  unfold S.x1 at h
  split at h
  · rename_i y he
    cases h
    rw [he] at this
    obtain ⟨x', e, h⟩ := this
    cases e; exact h
  · cases h
theorem rep_int {W : World} {who : Nat → Who} {L : Lay} {s : S} {a : Act} (E : ESim W who L s a.tmps) {o : Operand} {p : IntKind × Int} (h : s.int o = some p) : a.eval o = .int p.1 p.2 := by
  have := rep_rd E o
  unfold S.int at h
  split at h
  · rename_i k n he
    cases h
    rw [he] at this
    generalize a.eval o = u at *
    obtain ⟨x', e, h⟩ := this
    cases e; cases h; rfl
  · cases h
theorem rep_bool {W : World} {who : Nat → Who} {L : Lay} {s : S} {a : Act} (E : ESim W who L s a.tmps) {o : Operand} {p : Bool} (h : s.bool o = some p) : a.eval o = .bool p := by
  have := rep_rd E o
  unfold S.bool at h
  split at h
  · rename_i n he
    cases h
    rw [he] at this
    generalize a.eval o = u at *
    obtain ⟨x', e, h⟩ := this
    cases e; cases h; rfl
  · cases h
theorem rep_val {W : World} {who : Nat → Who} {L : Lay} {h : Hp} {x : T} {v u : Value} (H : RepT W who L h x v) (hv : x.val = some u) : v = u := by
  unfold T.val at hv
  split at hv
  · rename_i y
    obtain ⟨x', e, h⟩ := H
    cases e
    unfold X.val at hv
    split at hv
    · cases hv; cases h; rfl
    · cases hv
  · rename_i xs
    obtain ⟨us, rfl, hl, hx⟩ := H
    cases hm : xs.mapM X.val with
    | none => simp [hm] at hv
    | some l =>
      simp only [hm, Option.map_some, Option.some.injEq] at hv
      subst hv
      congr 2
      have key : ∀ (xs : List X) (us l : List Value), xs.length = us.length → (∀ (i : Nat) x u, xs[i]? = some x → us[i]? = some u → RepX W who L h x u ∧ u.oneCell' = true) → xs.mapM X.val = some l → us = l := by
        intro xs
        induction xs with
        | nil => intro us l hl _ hm; simp at hm; subst hm; exact List.eq_nil_of_length_eq_zero (by simpa using hl.symm)
        | cons x xs ih =>
          intro us l hl hx hm
          cases us with
          | nil => simp at hl
          | cons u us =>
            rw [List.mapM_cons] at hm
            cases hxv : x.val with
            | none => simp [hxv] at hm
            | some w =>
              cases hxs : xs.mapM X.val with
              | none => simp [hxv, hxs] at hm
              | some ws =>
                simp [hxv, hxs] at hm
                subst hm
                have := (hx 0 x u rfl rfl).1
                unfold X.val at hxv
                split at hxv
                · cases hxv
                  cases this
                  rw [ih us ws (by simpa using hl) (fun i => by simpa using hx (i + 1)) hxs]
                · cases hxv
      exact key xs us l hl hx hm
  · cases hv
end Go.Proofs.YtkdnbnkbnegckaaGreatDoor
