/- Lemmas of no program: cells that lie at an address, an owned row that grows, worlds that extend a world. -/
import Derived.Test.YtfeddkfpkdjbeaaRows
import Derived.WalkKit
import Derived.WalkSpells
import Derived.WalkLawsBesides
import Derived.Lib.Hide
import Derived.Laws.Cover4
import Derived.Laws.BytesString
import Derived.Lib.OthersKept
import Derived.WalkSmall
import Derived.Deep.QuietTactic
import Derived.BigQuiet
import Derived.Deep.RegionHeld3
import Derived.StillTailTactics
import Derived.Maps.AppendAt
namespace Go.Proofs.Ytfeddkfpkdjbeaa
open Go.RowKit

/-- The cells cs lie at the address ao. -/
structure Cells (w : World) (ao : Option Addr) (cs : List Value) : Prop where
  addr : cs ≠ [] → ∃ b off, ao = some ⟨b, off, none⟩
  cell : ∀ b off, ao = some ⟨b, off, none⟩ → ∀ j u, cs[j]? = some u → w.cell? ⟨b, off + j, none⟩ = some u

theorem Cells.nil (w : World) (ao : Option Addr) : Cells w ao [] := ⟨fun h => absurd rfl h, fun _ _ _ j u h => by simp at h⟩

theorem Cells.lt {w : World} {b off : Nat} {cs : List Value} (h : Cells w (some ⟨b, off, none⟩) cs) (hne : cs ≠ []) : b < w.heap.size := by
  cases cs with
  | nil => exact absurd rfl hne
  | cons c cs =>
    have := h.cell b off rfl 0 c (by simp)
    exact World.block_lt_of_cell? w ⟨b, off + 0, none⟩ this

/-- Nothing that was there has turned. -/
def Ext (w w' : World) : Prop := Below w.heap.size w w'

theorem Ext.b {a b : World} (h : Ext a b) : Below a.heap.size a b := h
theorem Ext.size {a b : World} (h : Ext a b) : a.heap.size ≤ b.heap.size := h.b.size
theorem Ext.tr {a b c : World} (h : Ext a b) (k : Ext b c) : Ext a c := h.b.trans (k.b.mono h.size)
theorem Ext.rf (a : World) : Ext a a := Below.refl _ _
theorem Ext.al {a b : World} (h : Ext a b) (o : Obj) : Ext a (b.alloc o) := Below.alloc h h.size o
theorem Ext.dr {a b : World} (h : Ext a b) : Ext a b.drew := Below.drew h
theorem Ext.drN {a b : World} (h : Ext a b) (n : Nat) : Ext a (b.drewN n) := ⟨h.b.os, h.b.tape, h.b.output, h.b.size, h.b.block⟩
theorem Ext.cell {a b : World} (h : Ext a b) {p : Addr} (hp : p.block < a.heap.size) : b.cell? p = a.cell? p := h.b.cell hp
theorem Ext.block {a b : World} (h : Ext a b) {k : Nat} (hk : k < a.heap.size) : b.heap[k]? = a.heap[k]? := h.b.block k hk
theorem Ext.has {a b : World} (h : Ext a b) {p : Addr} {v : Value} (hp : a.cell? p = some v) : b.cell? p = some v := by
  rw [h.cell (World.block_lt_of_cell? a p hp)]; exact hp
theorem Ext.iterAt {a b : World} (h : Ext a b) {k : Nat} (hk : a.heap.size ≤ k) (s : ByteArray) (pos : Nat) : Ext a (b.iterAt k s pos) := Lib.below_iterAt h.b hk s pos

theorem Cells.ext {w w' : World} {ao : Option Addr} {cs : List Value} (h : Cells w ao cs) (hb : Ext w w') : Cells w' ao cs :=
  ⟨h.addr, fun b off e j u hu => by
    have h1 := h.cell b off e j u hu
    rw [hb.cell (World.block_lt_of_cell? w ⟨b, off + j, none⟩ h1)]; exact h1⟩

/-- Below a number that is above the row. -/
theorem Cells.below {w w' : World} {b off B : Nat} {cs : List Value} (h : Cells w (some ⟨b, off, none⟩) cs) (hb : Below B w w') (hB : b < B) : Cells w' (some ⟨b, off, none⟩) cs :=
  ⟨h.addr, fun b' off' e j u hu => by
    have h1 := h.cell b' off' e j u hu
    simp only [Option.some.injEq, Addr.mk.injEq, and_true] at e
    obtain ⟨rfl, rfl⟩ := e
    rw [hb.cell (p := ⟨b, off + j, none⟩) hB]; exact h1⟩

theorem Cells.at {w : World} {ao : Option Addr} {cs : List Value} (h : Cells w ao cs) {k : Nat} (hk : k < cs.length) :
    ∃ b off, ao = some ⟨b, off, none⟩ ∧ w.cell? ⟨b, off + k, none⟩ = some cs[k] := by
  obtain ⟨b, off, e⟩ := h.addr (by intro e; simp [e] at hk)
  exact ⟨b, off, e, h.cell b off e k _ (by simp [hk])⟩

/-- An owned row as cells. -/
theorem Cells.own {w : World} {base : Nat} {e : TypeId} {size : Nat} {v : Value} {n : Nat} {xs : List Value} (h : w.ownsRow base e size v n xs) :
    ∃ ao cap, v = .slice ao n cap ∧ n ≤ cap ∧ cap ≤ maxLen ∧ Cells w ao xs := by
  obtain ⟨h0, h | ⟨g, cap, cur, hv, hg, hh, hn, hm, hs, ht⟩⟩ := h
  · obtain ⟨rfl, rfl⟩ := h
    have : xs = [] := List.eq_nil_of_length_eq_zero (by simpa using h0)
    subst this
    exact ⟨none, 0, rfl, Nat.le_refl _, Nat.zero_le _, Cells.nil _ _⟩
  · refine ⟨some ⟨g, 0, none⟩, cap, hv, hn, hm, fun _ => ⟨g, 0, rfl⟩, fun b off e j u hu => ?_⟩
    simp only [Option.some.injEq, Addr.mk.injEq, and_true] at e
    obtain ⟨rfl, rfl⟩ := e
    rw [← ht, List.getElem?_take] at hu
    rw [Nat.zero_add, cell_of_row w g j cur e _ hh]
    split at hu
    · simpa using hu
    · cases hu

/-- What appending to a row does: w' is w with new blocks, and with writes to v's own block alone; v' lies there, or in a new block. -/
structure Grow (w w' : World) (v v' : Value) : Prop extends World.grownBy w w' v.ownBlock where
  new : v'.ownBlock = v.ownBlock ∨ ∀ k, v'.ownBlock = some k → w.heap.size ≤ k

theorem Grow.rf (w : World) (v : Value) : Grow w w v v := ⟨World.grownBy.refl _ _, .inl rfl⟩
theorem Grow.tr {a b c : World} {v1 v2 v3 : Value} (h1 : Grow a b v1 v2) (h2 : Grow b c v2 v3) : Grow a c v1 v3 := by
  refine ⟨⟨h2.os.trans h1.os, h2.tape.trans h1.tape, h2.output.trans h1.output, Nat.le_trans h1.size h2.size, fun k hk hne => ?_⟩, ?_⟩
  · rw [h2.block k (by have := h1.size; omega) ?_, h1.block k hk hne]
    intro e2
    rcases h1.new with hv | hv
    · exact hne (by rw [e2, hv])
    · have := hv k e2.symm; omega
  · rcases h2.new with hv | hv
    · rw [hv]; exact h1.new
    · exact .inr fun k hk => Nat.le_trans h1.size (hv k hk)
/-- New blocks ahead of it, or behind. -/
theorem Grow.extL {a b c : World} {v v' : Value} (h1 : Ext a b) (h2 : Grow b c v v') : Grow a c v v' := by
  refine ⟨⟨h2.os.trans h1.b.os, h2.tape.trans h1.b.tape, h2.output.trans h1.b.output, Nat.le_trans h1.size h2.size, fun k hk hne => ?_⟩, ?_⟩
  · rw [h2.block k (by have := h1.size; omega) hne, h1.block hk]
  · rcases h2.new with hv | hv
    · exact .inl hv
    · exact .inr fun k hk => Nat.le_trans h1.size (hv k hk)
theorem Grow.extR {a b c : World} {v v' : Value} (h1 : Grow a b v v') (h2 : Ext b c) : Grow a c v v' :=
  ⟨⟨h2.b.os.trans h1.os, h2.b.tape.trans h1.tape, h2.b.output.trans h1.output, Nat.le_trans h1.size h2.size, fun k hk hne => by rw [h2.block (by have := h1.size; omega), h1.block k hk hne]⟩, h1.new⟩

theorem grownBy_ext {a b : World} (h : a.grownBy b none) : Ext a b := ⟨h.os, h.tape, h.output, h.size, fun k hk => h.block k hk (by simp)⟩

theorem Cells.none_nil {w : World} {cs : List Value} (h : Cells w none cs) : cs = [] := by
  by_cases e : cs = []
  · exact e
  · obtain ⟨_, _, h⟩ := h.addr e; cases h

/-- What 'append(out, xs...)' comes to, out nil or the call's own, xs whatever slice. -/
theorem run_grow {P : Program} {w : World} (t ty : TypeId) (base : Nat) (e : TypeId) (z : Value) (size bytes : Nat) (ht : P.underlying t = some (.slice e)) (hi : (P.info? e).map (fun i => (i.zero, i.size, i.bytes)) = some (some z, size, bytes))
    (hzs : z.cells.size = size) (hsz : 0 < size) (v : Value) (n : Nat) (xs : List Value) (ao : Option Addr) (m c : Nat) (news : List Value) (hown : w.ownsRow base e size v n xs)
    (hc : Cells w ao news) (hl : news.length = m * size) (h1 : ∀ u ∈ news, u.oneCell' = true) (h63 : n + m ≤ maxLen) (hbytes : (n + m) * bytes ≤ 140737488355328) (hbase : base ≤ w.heap.size) :
    ∃ v' w', (Builtin.append_ #[t, t] ty #[v, .slice ao m c]).run P w = .ok v' w' ∧ w'.ownsRow base e size v' (n + m) (xs ++ news) ∧ Grow w w' v v' := by
  obtain ⟨i, hi, hz0, hz1, hz2⟩ := info_parts hi
  cases ao with
  | some ad =>
    obtain ⟨v', w', hr, h2, h3, _, h5⟩ := run_append_own_at (P := P) w base t ty e i z size bytes ht hi hz0 hz1 hz2 hzs hsz v n xs hown ad m c news hl (by
      intro j u hu
      have hne : news ≠ [] := by rintro rfl; simp at hu
      obtain ⟨b, off, e⟩ := hc.addr hne
      obtain rfl := Option.some.inj e
      rw [Addr.add_lit]
      exact hc.cell b off rfl j u hu) h1 h63 hbytes hbase
    refine ⟨v', w', hr, h2, h3, ?_⟩
    rcases h5 with h5 | h5
    · exact .inl h5
    · exact .inr fun k hk => by rw [h5] at hk; simp at hk; omega
  | none =>
    have hn := hc.none_nil
    subst hn
    have hm : m = 0 := by
      rcases Nat.eq_zero_or_pos m with h | h
      · exact h
      · have := Nat.mul_pos h hsz; simp at hl; omega
    subst hm
    refine ⟨v, w, ?_, by simpa using hown, Grow.rf _ _⟩
    rcases hown.2 with ⟨rfl, rfl⟩ | ⟨g, cap, cur, rfl, _, _, hnc, _⟩
    · simp [Builtin.append_, run_underlying ht, sizeOf, typeInfo, hi, Builtin.lenOf, Builtin.firstCells]
    · simp [Builtin.append_, run_underlying ht, sizeOf, typeInfo, hi, Builtin.lenOf, Builtin.firstCells, loadCells, hnc, storeCells, Addr.add]

theorem wp_grow {P : Program} {w : World} {o : Oper} {a : Act} {K : Act → World → Prop} {Q : Exit → Act → World → Prop} (s x : Operand) (t : TypeId)
    (ho : o.op = .call { callee := .builtin .append, args := #[s, x], argTypes := #[t, t] })
    (base : Nat) (e : TypeId) (z : Value) (size bytes : Nat) (ht : P.underlying t = some (.slice e)) (hi : (P.info? e).map (fun i => (i.zero, i.size, i.bytes)) = some (some z, size, bytes))
    (hzs : z.cells.size = size) (hsz : 0 < size) (v : Value) (n : Nat) (xs : List Value) (ao : Option Addr) (m c : Nat) (news : List Value) (hs : a.eval s = v) (hown : w.ownsRow base e size v n xs)
    (hx : a.eval x = .slice ao m c) (hc : Cells w ao news) (hl : news.length = m * size) (h1 : ∀ u ∈ news, u.oneCell' = true) (h63 : n + m ≤ maxLen) (hbytes : (n + m) * bytes ≤ 140737488355328) (hbase : base ≤ w.heap.size)
    (h : ∀ v' w', w'.ownsRow base e size v' (n + m) (xs ++ news) → Grow w w' v v' → K (a.put o.dst v') w') : o.wp P a w K Q := by
  obtain ⟨v', w', hr, h2, h3⟩ := run_grow (P := P) t o.type base e z size bytes ht hi hzs hsz v n xs ao m c news hown hc hl h1 h63 hbytes hbase
  unfold Oper.wp execOp
  simp only [ho, resolve, invoke, builtin, Sem.run_bind, Sem.run_pure, Result.andThen_ok, List.map_toArray, List.map_cons, List.map_nil, hs, hx, hr]
  exact h v' w' h2 h3

theorem wpList_appendAll {P : Program} {w : World} {ops : Array Oper} {rest : List Oper} {o : Oper} {a : Act} {Q : Exit → Act → World → Prop} (hgd : o.guard = none) (s x : Operand) (t : TypeId)
    (ho : o.op = .call { callee := .builtin .append, args := #[s, x], argTypes := #[t, t] })
    (base : Nat) (e : TypeId) (z : Value) (size bytes : Nat) (ht : P.underlying t = some (.slice e)) (hi : (P.info? e).map (fun i => (i.zero, i.size, i.bytes)) = some (some z, size, bytes))
    (hzs : z.cells.size = size) (hsz : 0 < size) (v : Value) (n : Nat) (xs : List Value) (ao : Option Addr) (m c : Nat) (news : List Value) (hs : a.eval s = v) (hown : w.ownsRow base e size v n xs)
    (hx : a.eval x = .slice ao m c) (hc : Cells w ao news) (hl : news.length = m * size) (h1 : ∀ u ∈ news, u.oneCell' = true) (h63 : n + m ≤ maxLen) (hbytes : (n + m) * bytes ≤ 140737488355328) (hbase : base ≤ w.heap.size)
    (h : ∀ v' w', w'.ownsRow base e size v' (n + m) (xs ++ news) → Grow w w' v v' → wpList P ops Q rest (a.put o.dst v') w') : wpList P ops Q (o :: rest) a w :=
  wpList_plain hgd fun _ hK => wp_grow s x t ho base e z size bytes ht hi hzs hsz v n xs ao m c news hs hown hx hc hl h1 h63 hbytes hbase fun v' w' h2 h3 => hK _ _ (h v' w' h2 h3)

/-- The same at a step of a region that draws its order. -/
theorem step_appendAll {P : Program} {w : World} {ops : Array Oper} {o : Oper} {a : Act} {K : Act → World → Prop} {Q : Exit → Act → World → Prop} {E : Prop} (hgd : o.guard = none) (s x : Operand) (t : TypeId)
    (ho : o.op = .call { callee := .builtin .append, args := #[s, x], argTypes := #[t, t] })
    (base : Nat) (e : TypeId) (z : Value) (size bytes : Nat) (ht : P.underlying t = some (.slice e)) (hi : (P.info? e).map (fun i => (i.zero, i.size, i.bytes)) = some (some z, size, bytes))
    (hzs : z.cells.size = size) (hsz : 0 < size) (v : Value) (n : Nat) (xs : List Value) (ao : Option Addr) (m c : Nat) (news : List Value) (hs : a.eval s = v) (hown : w.ownsRow base e size v n xs)
    (hx : a.eval x = .slice ao m c) (hc : Cells w ao news) (hl : news.length = m * size) (h1 : ∀ u ∈ news, u.oneCell' = true) (h63 : n + m ≤ maxLen) (hbytes : (n + m) * bytes ≤ 140737488355328) (hbase : base ≤ w.heap.size)
    (h : ∀ v' w', w'.ownsRow base e size v' (n + m) (xs ++ news) → Grow w w' v v' → K (a.put o.dst v') w') :
    if Region.wanted o (yielded ops a.tmps) = true then Oper.wp P o a w K Q else E := by
  have hw : Region.wanted o (yielded ops a.tmps) = true := by simp [Region.wanted, hgd]
  rw [if_pos hw]
  exact wp_grow s x t ho base e z size bytes ht hi hzs hsz v n xs ao m c news hs hown hx hc hl h1 h63 hbytes hbase h

theorem cells_new (w : World) (news : List Value) (te : TypeId) (g : Nat) (hg : g = w.heap.size) : Cells (w.alloc (.cells news.toArray te)) (some ⟨g, 0, none⟩) news := by
  subst hg
  refine ⟨fun _ => ⟨_, _, rfl⟩, fun b off e j u hu => ?_⟩
  simp only [Option.some.injEq, Addr.mk.injEq, and_true] at e
  obtain ⟨rfl, rfl⟩ := e
  rw [Nat.zero_add, World.cell?_alloc_mark]
  simpa using hu

/-- 'append(out, x)' of one element: the new block that holds x is forgotten. -/
theorem wpList_push {P : Program} {w : World} {ops : Array Oper} {rest : List Oper} {o : Oper} {a : Act} {Q : Exit → Act → World → Prop} (hgd : o.guard = none) (s x : Operand) (t : TypeId)
    (ho : o.op = .call { callee := .builtin .append, args := #[s, x], argTypes := #[t, t] })
    (base : Nat) (e te : TypeId) (z : Value) (size bytes : Nat) (ht : P.underlying t = some (.slice e)) (hi : (P.info? e).map (fun i => (i.zero, i.size, i.bytes)) = some (some z, size, bytes))
    (hzs : z.cells.size = size) (hsz : 0 < size)
    (v : Value) (n : Nat) (xs : List Value) (news : List Value) (hs : a.eval s = v) (hown : w.ownsRow base e size v n xs)
    (gx : Nat) (hx : a.eval x = .slice (some ⟨gx, 0, none⟩) 1 1) (hgx : gx = w.heap.size) (hl : news.length = size) (h1 : ∀ u ∈ news, u.oneCell' = true)
    (h63 : n + 1 ≤ maxLen) (hbytes : (n + 1) * bytes ≤ 140737488355328) (hbase : base ≤ w.heap.size)
    (h : ∀ v' w', w'.ownsRow base e size v' (n + 1) (xs ++ news) → Grow w w' v v' → wpList P ops Q rest (a.put o.dst v') w') :
    wpList P ops Q (o :: rest) a (w.alloc (.cells news.toArray te)) :=
  wpList_appendAll hgd s x t ho base e z size bytes ht hi hzs hsz v n xs _ 1 1 news hs (hown.alloc _) hx (cells_new w news te gx hgx) (by simp [hl]) h1 h63 hbytes (by simp; omega)
    fun v' w' h2 h3 => h v' w' h2 (h3.extL ((Ext.rf w).al _))

/-- The same at a step of a region that draws its order. -/
theorem step_push {P : Program} {w : World} {ops : Array Oper} {o : Oper} {a : Act} {K : Act → World → Prop} {Q : Exit → Act → World → Prop} {E : Prop} (hgd : o.guard = none) (s x : Operand) (t : TypeId)
    (ho : o.op = .call { callee := .builtin .append, args := #[s, x], argTypes := #[t, t] })
    (base : Nat) (e te : TypeId) (z : Value) (size bytes : Nat) (ht : P.underlying t = some (.slice e)) (hi : (P.info? e).map (fun i => (i.zero, i.size, i.bytes)) = some (some z, size, bytes))
    (hzs : z.cells.size = size) (hsz : 0 < size)
    (v : Value) (n : Nat) (xs : List Value) (news : List Value) (hs : a.eval s = v) (hown : w.ownsRow base e size v n xs)
    (gx : Nat) (hx : a.eval x = .slice (some ⟨gx, 0, none⟩) 1 1) (hgx : gx = w.heap.size) (hl : news.length = size) (h1 : ∀ u ∈ news, u.oneCell' = true)
    (h63 : n + 1 ≤ maxLen) (hbytes : (n + 1) * bytes ≤ 140737488355328) (hbase : base ≤ w.heap.size)
    (h : ∀ v' w', w'.ownsRow base e size v' (n + 1) (xs ++ news) → Grow w w' v v' → K (a.put o.dst v') w') :
    if Region.wanted o (yielded ops a.tmps) = true then Oper.wp P o a (w.alloc (.cells news.toArray te)) K Q else E :=
  step_appendAll hgd s x t ho base e z size bytes ht hi hzs hsz v n xs _ 1 1 news hs (hown.alloc _) hx (cells_new w news te gx hgx) (by simp [hl]) h1 h63 hbytes (by simp; omega)
    fun v' w' h2 h3 => h v' w' h2 (h3.extL ((Ext.rf w).al _))

theorem Ext.push {w0 w w' : World} {base : Nat} {e : TypeId} {size : Nat} {v v' : Value} {n : Nat} {xs : List Value} (h : Ext w0 w) (hown : w.ownsRow base e size v n xs) (hb : w0.heap.size ≤ base)
    (hg : Grow w w' v v') : Ext w0 w' :=
  Below.grown h.b hg.togrownBy h.size (fun k hk => by have := (hown.lt k hk).1; omega)

theorem Cells.addAt {w : World} {ad : Addr} {cs : List Value} (h : Cells w (some ad) cs) {j : Nat} (hj : j < cs.length) : w.cell? (ad.add j) = some cs[j] := by
  obtain ⟨b, off, e⟩ := h.addr (by intro e; simp [e] at hj)
  obtain rfl := Option.some.inj e
  rw [Addr.add_lit]
  exact h.cell b off rfl j _ (by simp [hj])

theorem mem_data (s : ByteArray) (k : Nat) (h : k < s.size) : s[k] ∈ s.data.toList := by
  have : s[k] = s.data.toList[k]'(by simpa using h) := rfl
  rw [this]
  exact List.getElem_mem _

theorem strEq (a b : ByteArray) : (a.toList == b.toList) = decide (a.data.toList = b.data.toList) := by
  rw [ByteArray.toList_eq, ByteArray.toList_eq]
  by_cases h : a.data.toList = b.data.toList
  · simp [h]
  · rw [beq_eq_false_iff_ne.2 h, decide_eq_false h]

/-- 'string(rs)', rs a slice of runes. -/
theorem run_runes_string {P : Program} {w : World} {src dst e : TypeId} {ao : Option Addr} {cap : Nat} {zs : List Int} (n : Nat) (hn : n = zs.length)
    (hs : P.underlying src = some (.slice e)) (he : P.underlying e = some (.int .i32)) (hd : P.underlying dst = some .string)
    (hc : Cells w ao (zs.map (.int .i32))) : (convert src dst (.slice ao n cap)).run P w = .ok (.string (runesBytes zs)) w := by
  subst hn
  cases ao with
  | none =>
    have := hc.none_nil
    obtain rfl : zs = [] := by simpa using this
    rw [run_convert_runes_nil w src dst e _ _ hs he hd]
    rfl
  | some ad =>
    rw [run_convert_runes w src dst e ad zs.length cap zs (Nat.le_refl _) hs he hd ?_, List.take_length]
    intro j hj
    rw [hc.addAt (by simpa using hj)]
    simp [hj]

theorem length_flat {α : Type} {enc : α → List Value} {size : Nat} (henc : ∀ x, (enc x).length = size) (l : List α) : (l.flatMap enc).length = l.length * size := by
  induction l with
  | nil => simp
  | cons x l ih => simp [ih, henc, Nat.add_mul, Nat.add_comm]

theorem getElem?_flat {α : Type} {enc : α → List Value} {size : Nat} (henc : ∀ x, (enc x).length = size) (l : List α) (k j : Nat) (hk : k < l.length) (hj : j < size) : (l.flatMap enc)[k * size + j]? = (enc l[k])[j]? := by
  induction l generalizing k with
  | nil => simp at hk
  | cons x l ih =>
    rw [List.flatMap_cons]
    cases k with
    | zero => rw [Nat.zero_mul, Nat.zero_add, List.getElem?_append_left (by rw [henc]; exact hj)]; rfl
    | succ k =>
      rw [List.getElem?_append_right (by rw [henc, Nat.succ_mul]; omega), henc, show (k + 1) * size + j - size = k * size + j by rw [Nat.succ_mul]; omega]
      exact ih k (by simpa using hk)

/-- The cells of the k-th element of a slice of structs. -/
theorem Cells.flat {w : World} {ao : Option Addr} {α : Type} {enc : α → List Value} {size : Nat} (henc : ∀ x, (enc x).length = size) {l : List α} (h : Cells w ao (l.flatMap enc)) {k : Nat} (hk : k < l.length) (hs : 0 < size) :
    ∃ b off, ao = some ⟨b, off, none⟩ ∧ ∀ j u, (enc l[k])[j]? = some u → w.cell? ⟨b, off + (k * size + j), none⟩ = some u := by
  obtain ⟨b, off, e⟩ := h.addr (by
    intro e
    have := length_flat henc l
    rw [e] at this
    have h2 : 0 < l.length * size := Nat.mul_pos (by omega) hs
    simp at this; omega)
  refine ⟨b, off, e, fun j u hu => h.cell b off e _ u ?_⟩
  rw [getElem?_flat henc l k j hk (by have := (List.getElem?_eq_some_iff.1 hu).1; rwa [henc] at this)]
  exact hu

/-- A pair of ints as a struct's two cells. -/
def pairC (p : Int × Int) : List Value := [.int .i64 p.1, .int .i64 p.2]
theorem Cells.pair {w : World} {ao : Option Addr} {l : List (Int × Int)} (h : Cells w ao (l.flatMap pairC)) {k : Nat} (hk : k < l.length) :
    ∃ b off, ao = some ⟨b, off, none⟩ ∧ w.cell? ⟨b, off + k * 2, none⟩ = some (.int .i64 l[k].1) ∧ w.cell? ⟨b, off + k * 2 + 1, none⟩ = some (.int .i64 l[k].2) := by
  obtain ⟨b, off, e, hc⟩ := h.flat (enc := pairC) (size := 2) (fun _ => rfl) hk (by decide)
  exact ⟨b, off, e, hc 0 _ rfl, by rw [Nat.add_assoc]; exact hc 1 _ rfl⟩

theorem own_form {w : World} {base : Nat} {e : TypeId} {size : Nat} {v : Value} {n : Nat} {xs : List Value} (h : w.ownsRow base e size v n xs) : ∃ ao cap, v = .slice ao n cap := by
  obtain ⟨ao, cap, hv, _⟩ := Cells.own h
  exact ⟨ao, cap, hv⟩

/-- A block of another element type than the owned row's is as it was. -/
theorem push_keepsT {w w' : World} {base : Nat} {e : TypeId} {size : Nat} {v v' : Value} {n : Nat} {xs : List Value} (hown : w.ownsRow base e size v n xs) (hg : Grow w w' v v')
    {k : Nat} {c : Array Value} {t : TypeId} {fz : Nat × Nat} (h : w.heap[k]? = some (.cells c t fz)) (ht : t ≠ e) : w'.heap[k]? = some (.cells c t fz) := by
  rw [hg.block k (Array.getElem?_eq_some_iff.1 h).1 ?_]
  · exact h
  · intro e2
    rcases hown.2 with ⟨rfl, _⟩ | ⟨g, cap, cur, rfl, _, hh, _⟩
    · simp [Value.ownBlock] at e2
    · simp only [Value.ownBlock, Option.some.injEq] at e2
      subst e2
      rw [hh] at h
      simp only [Option.some.injEq, Obj.cells.injEq] at h
      exact ht h.2.1.symm

theorem alloc_new (w : World) (o : Obj) : (w.alloc o).heap[w.heap.size]? = some o := heap_alloc_new w o

theorem take_flat2 (R : List (Int × Int)) (k : Nat) (h : k < R.length) : (R.flatMap pairC).take ((k + 1) * 2) = (R.flatMap pairC).take (k * 2) ++ [.int .i64 R[k].1, .int .i64 R[k].2] := by
  induction R generalizing k with
  | nil => simp at h
  | cons p R ih =>
    cases k with
    | zero => simp [pairC]
    | succ k =>
      have e1 : (k + 1 + 1) * 2 = (k + 1) * 2 + 1 + 1 := by omega
      have e2 : (k + 1) * 2 = k * 2 + 1 + 1 := by omega
      rw [e1, e2]
      simp only [List.flatMap_cons, pairC, List.cons_append, List.nil_append, List.take_succ_cons, List.getElem_cons_succ]
      have := ih k (by simpa using h)
      rw [e2] at this
      rw [this]

theorem pairC_set (R : List (Int × Int)) (i : Nat) (h : i < R.length) (a : Int) : (R.set i (a, R[i].2)).flatMap pairC = (R.flatMap pairC).set (i * 2) (.int .i64 a) := by
  induction R generalizing i with
  | nil => simp at h
  | cons p R ih =>
    cases i with
    | zero => simp [pairC]
    | succ i =>
      simp only [List.set_cons_succ, List.flatMap_cons, List.getElem_cons_succ]
      rw [ih i (by simpa using h), List.set_append_right _ _ (by simp [pairC]; omega)]
      congr 2
      simp [pairC]; omega

theorem pairC_set2 (R : List (Int × Int)) (i : Nat) (h : i < R.length) (a : Int) : (R.set i (R[i].1, a)).flatMap pairC = (R.flatMap pairC).set (i * 2 + 1) (.int .i64 a) := by
  induction R generalizing i with
  | nil => simp at h
  | cons p R ih =>
    cases i with
    | zero => simp [pairC]
    | succ i =>
      simp only [List.set_cons_succ, List.flatMap_cons, List.getElem_cons_succ]
      rw [ih i (by simpa using h), List.set_append_right _ _ (by simp [pairC]; omega)]
      congr 2
      simp [pairC]; omega

theorem own_some {w : World} {base : Nat} {e : TypeId} {size : Nat} {v : Value} {n : Nat} {xs : List Value} (h : w.ownsRow base e size v n xs) (hn : 0 < n) : ∃ g cap, v = .slice (some ⟨g, 0, none⟩) n cap := by
  rcases h.2 with ⟨_, h0⟩ | ⟨g, cap, _, hv, _⟩
  · omega
  · exact ⟨g, cap, hv⟩

theorem blk {w : World} {g : Nat} {cs : Array Value} {t : TypeId} {fz : Nat × Nat} (h : w.heap[g]? = some (.cells cs t fz)) (j : Nat) {u : Value} (hj : cs[j]? = some u) : w.cell? ⟨g, j, none⟩ = some u := by
  rw [cell_of_row w g j cs t fz h]; exact hj
theorem Ext.blk {a b : World} (h : Ext a b) {g : Nat} {o : Obj} (hg : a.heap[g]? = some o) : b.heap[g]? = some o := by
  rw [h.block (Array.getElem?_eq_some_iff.1 hg).1]; exact hg

theorem own_ext {w w' : World} {base : Nat} {e : TypeId} {size : Nat} {v : Value} {n : Nat} {xs : List Value} (h : w.ownsRow base e size v n xs) (hb : Ext w w') : w'.ownsRow base e size v n xs :=
  h.kept (row := none) ⟨hb.b.os, hb.b.tape, hb.b.output, hb.size, fun k hk _ => hb.block hk⟩ (by cases hv : v.ownBlock <;> simp)

theorem own_drN {w : World} {base : Nat} {e : TypeId} {size : Nat} {v : Value} {n : Nat} {xs : List Value} (h : w.ownsRow base e size v n xs) (q : Nat) : (w.drewN q).ownsRow base e size v n xs := h

/-- The address lies in block B or behind it. -/
def Fresh (B : Nat) (ao : Option Addr) : Prop := ∀ ad, ao = some ad → B ≤ ad.block
theorem Fresh.mono {B B' : Nat} {ao : Option Addr} (h : Fresh B ao) (hb : B' ≤ B) : Fresh B' ao := fun ad e => Nat.le_trans hb (h ad e)
theorem own_cells {w : World} {base : Nat} {e : TypeId} {size : Nat} {v : Value} {n : Nat} {xs : List Value} (h : w.ownsRow base e size v n xs) :
    ∃ ao cap, v = .slice ao n cap ∧ Cells w ao xs ∧ Fresh base ao := by
  obtain ⟨ao, cap, rfl, _, _, hc⟩ := Cells.own h
  refine ⟨ao, cap, rfl, hc, fun ad e => ?_⟩
  subst e
  exact (h.lt ad.block rfl).1

/-- What hands back a new slice leaves. -/
def RetSl (n : Nat) (cs : List Value) (w : World) (e : Ending) (w' : World) : Prop :=
  ∃ ao cap, e = .returned (.slice ao n cap) ∧ Cells w' ao cs ∧ Ext w w' ∧ Fresh w.heap.size ao

/-- Cells stay while another row grows. -/
theorem Cells.grow {w w' : World} {ao : Option Addr} {cs : List Value} {v v' : Value} (h : Cells w ao cs) (hg : Grow w w' v v') (hne : ∀ ad, ao = some ad → v.ownBlock ≠ some ad.block) : Cells w' ao cs :=
  ⟨h.addr, fun b off e j u hu => by
    have h1 := h.cell b off e j u hu
    exact hg.togrownBy.cell h1 (fun e2 => hne _ e e2.symm)⟩
/-- .. a row from below that grows. -/
theorem Cells.growB {w w' : World} {ao : Option Addr} {cs : List Value} {v v' : Value} {base B : Nat} {e : TypeId} {size n : Nat} {xs : List Value} {w0 : World} (h : Cells w ao cs) (hf : Fresh B ao) (hown : w0.ownsRow base e size v n xs) (hB : w0.heap.size ≤ B)
    (hg : Grow w w' v v') : Cells w' ao cs :=
  h.grow hg fun ad e2 e3 => by have := (hown.lt _ e3).2; have := hf ad e2; omega

/-- A store into an owned row. -/
theorem Ext.stored {w0 w : World} {base : Nat} {e : TypeId} {size : Nat} {v : Value} {n : Nat} {xs : List Value} (h : Ext w0 w) (hown : w.ownsRow base e size v n xs) (hb : w0.heap.size ≤ base) {g : Nat} (hg : v.ownBlock = some g) (j : Nat) (u : Value) :
    Ext w0 (w.setCell ⟨g, j, none⟩ u) :=
  Below.setCell h.b (p := ⟨g, j, none⟩) (Nat.le_trans hb (hown.lt g hg).1) u

/-- A block below the owned row is as it was. -/
theorem push_keeps {w w' : World} {base : Nat} {e : TypeId} {size : Nat} {v v' : Value} {n : Nat} {xs : List Value} (hown : w.ownsRow base e size v n xs) (hg : Grow w w' v v')
    {k : Nat} (hk : k < base) {o : Obj} (h : w.heap[k]? = some o) : w'.heap[k]? = some o := by
  rw [hg.block k (Array.getElem?_eq_some_iff.1 h).1 (fun e => by have := (hown.lt k e.symm).1; omega)]
  exact h

/-- What is shown under a stronger condition is shown under a weaker one. -/
theorem wpAnyH_weaken {P : Program} {md : Region.Mode} {ops : Array Oper} {Q : Exit → Act → World → Prop} {S S' : World → Prop} (hS : ∀ w, S' w → S w) :
    ∀ (fuel : Nat) (listed : Array Bool) (a : Act) (w : World), wpAnyH P md ops Q S' fuel listed a w → wpAnyH P md ops Q S fuel listed a w
  | 0, _, _, _, h => h
  | fuel + 1, _, _, _, h => ⟨h.1, fun i hi => wpOp_mono (fun a' w' h' => ⟨hS w' h'.1, wpAnyH_weaken hS fuel _ a' w' h'.2⟩) (h.2 i hi)⟩

theorem wp_region_ext {P : Program} {ops : Array Oper} {Q : Exit → Act → World → Prop} {id : Nat} {a : Act} {w : World} (S : World → Prop) (hm : P.follows .mixedOrders = true) (hS : S w.drew)
    (h : S w.drew → wpAnyH P .any ops (NoPanic Q) S ops.size (Array.replicate ops.size false) a w.drew) : (Code.region id ops true).wp P Q a w :=
  wp_region_noPanic (wp_region_held_drew hm hS h)

theorem take_op {P : Program} {md : Region.Mode} {Q : Exit → Act → World → Prop} {S : World → Prop} {l : List Oper} (i : Nat) {oi : Oper} {v : Value} {fuel : Nat} {listed : Array Bool} {a : Act} {w : World} (hi : l[i]? = some oi)
    (hs : Region.noSelect l.toArray = true) (hf : Region.free md l.toArray listed i = true) (hr : (Region.ready md l.toArray listed).contains i = true)
    (hy : YieldsIf P l.toArray S oi v a) (hS : S w)
    (h : wpAnyH P md l.toArray (NoPanic Q) S fuel (listed.setIfInBounds i true) (a.put oi.dst v) w) : wpAnyH P md l.toArray (NoPanic Q) S (fuel + 1) listed a w :=
  wpAnyH_take (by simpa using hi) hs hf hr (fun _ _ _ h => h) hy hS h

theorem do_op {P : Program} {md : Region.Mode} {Q : Exit → Act → World → Prop} {S : World → Prop} {l : List Oper} (i : Nat) {o : Oper} {fuel : Nat} {listed : Array Bool} {a : Act} {w : World} (hi : l[i]? = some o) (hr : Region.ready md l.toArray listed = [i])
    (h : ∀ K' : Act → World → Prop, Shut (∀ a w, S w → (S w → wpAnyH P md l.toArray (NoPanic Q) S fuel (listed.setIfInBounds i true) a w) → K' a w) → if Region.wanted o (yielded l.toArray a.tmps) = true then Oper.wp P o a w K' (NoPanic Q) else K' (a.put o.dst undef) w) :
    wpAnyH P md l.toArray (NoPanic Q) S (fuel + 1) listed a w :=
  wpAnyH_ready hr (by simp) (AllReadyH.cons (by simpa using hi) h AllReadyH.nil)

theorem do_op2 {P : Program} {md : Region.Mode} {Q : Exit → Act → World → Prop} {S : World → Prop} {l : List Oper} (i j : Nat) {o o' : Oper} {fuel : Nat} {listed : Array Bool} {a : Act} {w : World} (hi : l[i]? = some o) (hj : l[j]? = some o') (hr : Region.ready md l.toArray listed = [i, j])
    (h : ∀ K' : Act → World → Prop, Shut (∀ a w, S w → (S w → wpAnyH P md l.toArray (NoPanic Q) S fuel (listed.setIfInBounds i true) a w) → K' a w) → if Region.wanted o (yielded l.toArray a.tmps) = true then Oper.wp P o a w K' (NoPanic Q) else K' (a.put o.dst undef) w)
    (h' : ∀ K' : Act → World → Prop, Shut (∀ a w, S w → (S w → wpAnyH P md l.toArray (NoPanic Q) S fuel (listed.setIfInBounds j true) a w) → K' a w) → if Region.wanted o' (yielded l.toArray a.tmps) = true then Oper.wp P o' a w K' (NoPanic Q) else K' (a.put o'.dst undef) w) :
    wpAnyH P md l.toArray (NoPanic Q) S (fuel + 1) listed a w :=
  wpAnyH_ready hr (by simp) (AllReadyH.cons (by simpa using hi) h (AllReadyH.cons (by simpa using hj) h' AllReadyH.nil))

/-- A call that leaves the world alone, in a region that draws its order and only reads. -/
theorem quiet_same {P : Program} {f : FuncId} {args : Array Value} {w : World} {n : Nat} {v : Value}
    (h : Calls P f args (w.drewN n) fun e w' => e = .returned v ∧ w.drewN n = w') : Calls P f args (w.drewN n) fun e w'' => e = .returned v ∧ ∃ m, w'' = w.drewN m :=
  h.mono fun _ _ ⟨he, hm⟩ => ⟨he, n, hm.symm⟩

end Go.Proofs.Ytfeddkfpkdjbeaa
