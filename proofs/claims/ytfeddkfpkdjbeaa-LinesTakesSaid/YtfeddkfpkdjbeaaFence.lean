/- Laws for walks inside a fence (ranges over functions): appends, what is kept. -/
import Derived.RangeFuncNested
import Derived.RangeFuncBound
import Derived.RangeFuncCalls
import Derived.RangeFuncLeaves
import Derived.Shelf.Abstract
import Derived.Shelf.RegionOpen
import Derived.OwnWalkIn
import Derived.TacticsInMore
import Derived.LoopNIn
import Derived.LoopIn
import Derived.Sort.QuietIn
import Derived.Test.YtfeddkfpkdjbeaaBase
namespace Go.Proofs.Ytfeddkfpkdjbeaa
open Go.RowKit Go.Shelf

theorem wpListIn_appendAll {F : Fence} {fn : Nat} {P : Program} {w : World} {ops : Array Oper} {rest : List Oper} {o : Oper} {a : Act} {Q : Exit → Act → World → Prop} (hgd : o.guard = none) (s x : Operand) (t : TypeId)
    (ho : o.op = .call { callee := .builtin .append, args := #[s, x], argTypes := #[t, t] })
    (base : Nat) (e : TypeId) (z : Value) (size bytes : Nat) (ht : P.underlying t = some (.slice e)) (hi : (P.info? e).map (fun i => (i.zero, i.size, i.bytes)) = some (some z, size, bytes))
    (hzs : z.cells.size = size) (hsz : 0 < size) (v : Value) (n : Nat) (xs : List Value) (ao : Option Addr) (m c : Nat) (news : List Value) (hs : a.eval s = v) (hown : w.ownsRow base e size v n xs)
    (hx : a.eval x = .slice ao m c) (hc : Cells w ao news) (hl : news.length = m * size) (h1 : ∀ u ∈ news, u.oneCell' = true) (h63 : n + m ≤ maxLen) (hbytes : (n + m) * bytes ≤ 140737488355328) (hbase : base ≤ w.heap.size)
    (h : ∀ v' w', w'.ownsRow base e size v' (n + m) (xs ++ news) → Grow w w' v v' → wpListIn F fn P ops Q rest (a.put o.dst v') w') : wpListIn F fn P ops Q (o :: rest) a w := by
  refine wpListIn_plain hgd fun K hK' => ?_
  obtain ⟨v', w', hrun, r1, r2⟩ := run_grow (P := P) t o.type base e z size bytes ht hi hzs hsz v n xs ao m c news hown hc hl h1 h63 hbytes hbase
  unfold Oper.wpIn
  refine ⟨?_, ?_⟩
  · simp [Oper.about, ho, resolve, Target.leads, Sem.run_pure]
  · rw [Oper.semAt_plain F _ _ (by rw [ho]; intro c hc'; cases hc')]
    simp [execOp, ho, resolve, invoke, builtin, hs, hx, hrun, Result.andThen]
    exact hK' _ _ (h v' w' r1 r2)

theorem wpListIn_push {F : Fence} {fn : Nat} {P : Program} {w : World} {ops : Array Oper} {rest : List Oper} {o : Oper} {a : Act} {Q : Exit → Act → World → Prop} (hgd : o.guard = none) (s x : Operand) (t : TypeId)
    (ho : o.op = .call { callee := .builtin .append, args := #[s, x], argTypes := #[t, t] })
    (base : Nat) (e te : TypeId) (z : Value) (size bytes : Nat) (ht : P.underlying t = some (.slice e)) (hi : (P.info? e).map (fun i => (i.zero, i.size, i.bytes)) = some (some z, size, bytes))
    (hzs : z.cells.size = size) (hsz : 0 < size)
    (v : Value) (n : Nat) (xs : List Value) (news : List Value) (hs : a.eval s = v) (hown : w.ownsRow base e size v n xs)
    (gx : Nat) (hx : a.eval x = .slice (some ⟨gx, 0, none⟩) 1 1) (hgx : gx = w.heap.size) (hl : news.length = size) (h1 : ∀ u ∈ news, u.oneCell' = true)
    (h63 : n + 1 ≤ maxLen) (hbytes : (n + 1) * bytes ≤ 140737488355328) (hbase : base ≤ w.heap.size)
    (h : ∀ v' w', w'.ownsRow base e size v' (n + 1) (xs ++ news) → Grow w w' v v' → wpListIn F fn P ops Q rest (a.put o.dst v') w') :
    wpListIn F fn P ops Q (o :: rest) a (w.alloc (.cells news.toArray te)) :=
  wpListIn_appendAll hgd s x t ho base e z size bytes ht hi hzs hsz v n xs _ 1 1 news hs (hown.alloc _) hx (cells_new w news te gx hgx) (by simp [hl]) h1 h63 hbytes (by simp; omega)
    fun v' w' h2 h3 => h v' w' h2 (h3.extL ((Ext.rf w).al _))

theorem keeps_grow {w w' : World} {base : Nat} {e : TypeId} {size : Nat} {v v' : Value} {n : Nat} {xs : List Value} (hown : w.ownsRow base e size v n xs) (hg : Grow w w' v v') : KeepsOthers w w' :=
  KeepsOthers.of_grownBy hg.togrownBy fun j o ej hj => by
    rcases hown.2 with ⟨rfl, _⟩ | ⟨g, cap, cur, rfl, _, hgb, _⟩
    · simp [Value.ownBlock] at ej
    · obtain rfl : g = j := by simpa [Value.ownBlock] using ej
      rw [hgb] at hj; cases hj; rfl

theorem below_grow {w0 w w' : World} {B base : Nat} {e : TypeId} {size : Nat} {v v' : Value} {n : Nat} {xs : List Value} (h : Below B w0 w) (hB : B ≤ w.heap.size) (hown : w.ownsRow base e size v n xs) (hb : B ≤ base) (hg : Grow w w' v v') : Below B w0 w' :=
  h.grown hg.togrownBy hB fun k hk => Nat.le_trans hb (hown.lt k hk).1

/-- A block of cells that holds what a datum says speaks of cells alone. -/
theorem blk_own {β : Type} (B : Nat) (t : TypeId) (f : β → Array Value) : Own (fun s W => W.heap[B]? = some (.cells (f s) t (0, 0))) := fun s X Y row hs hg hrow => by
  have hs' : X.heap[B]? = some (.cells (f s) t (0, 0)) := hs
  show Y.heap[B]? = _
  rw [hg.block B (Array.getElem?_eq_some_iff.1 hs').1 (fun e' => by obtain ⟨o, ho, hc⟩ := hrow B e'.symm; rw [hs'] at ho; cases ho; cases hc)]
  exact hs'

theorem setCell_blk {W : World} {a : Addr} {u : Value} {k : Nat} (h : k ≠ a.block) {o : Obj} (hk : W.heap[k]? = some o) : (W.setCell a u).heap[k]? = some o := by
  rw [Below.heap_setCell _ _ _ _ h]; exact hk

/-- What a round keeps: what lay below B0, and the block Bs. -/
def KeepBs (B0 Bs : Nat) (W W' : World) : Prop := Below B0 W W' ∧ ∀ o, W.heap[Bs]? = some o → W'.heap[Bs]? = some o
theorem KeepBs.drN {B0 Bs : Nat} {A B : World} (h : KeepBs B0 Bs A B) (n : Nat) : KeepBs B0 Bs A (B.drewN n) := ⟨⟨h.1.os, h.1.tape, h.1.output, h.1.size, h.1.block⟩, h.2⟩
theorem KeepBs.rf (B0 Bs : Nat) (A : World) : KeepBs B0 Bs A A := ⟨Below.refl _ _, fun _ h => h⟩
theorem KeepBs.tr {B0 Bs : Nat} {A B C : World} (h : KeepBs B0 Bs A B) (k : KeepBs B0 Bs B C) : KeepBs B0 Bs A C := ⟨h.1.trans k.1, fun o ho => k.2 o (h.2 o ho)⟩
theorem KeepBs.al {B0 Bs : Nat} {A B : World} (h : KeepBs B0 Bs A B) (hB : B0 ≤ B.heap.size) (o : Obj) : KeepBs B0 Bs A (B.alloc o) :=
  ⟨h.1.alloc hB o, fun x hx => by have := h.2 x hx; rw [(World.grownBy_alloc B o none).block Bs (Array.getElem?_eq_some_iff.1 this).1 (by simp)]; exact this⟩
theorem KeepBs.set {B0 Bs : Nat} {A B : World} (h : KeepBs B0 Bs A B) {b : Nat} (hb : B0 ≤ b) (hne : Bs ≠ b) (v : Value) : KeepBs B0 Bs A (B.setCell ⟨b, 0, none⟩ v) :=
  ⟨h.1.setCell (p := ⟨b, 0, none⟩) hb _, fun x hx => setCell_blk hne (h.2 x hx)⟩
theorem KeepBs.grow {B0 Bs : Nat} {A B C : World} {base : Nat} {e : TypeId} {size : Nat} {v v' : Value} {n : Nat} {xs : List Value} (h : KeepBs B0 Bs A B) (hB : B0 ≤ B.heap.size) (hown : B.ownsRow base e size v n xs) (hb : B0 ≤ base) (hs : Bs < base) (hg : Grow B C v v') : KeepBs B0 Bs A C :=
  ⟨below_grow h.1 hB hown hb hg, fun x hx => by
    have hx' := h.2 x hx
    rw [hg.togrownBy.block Bs (Array.getElem?_eq_some_iff.1 hx').1 (fun e' => by have := (hown.lt Bs e'.symm).1; omega)]
    exact hx'⟩
theorem KeepBs.putObj {B0 Bs : Nat} {w : World} (hn : B0 ≤ w.heap.size) (hs : Bs < w.heap.size) (W : World) (l : Nat) (o o' : Obj) (hl : w.heap.size ≤ l) (h : W.heap[l]? = some o) (h1 : o.isCells = false) (h2 : o.isWalk = false) : KeepBs B0 Bs W (W.putObj l o') :=
  ⟨belowK_b hn W l o o' hl h h1 h2, fun x hx => by
    rw [(grownBy_putObj' W l o').block Bs (Array.getElem?_eq_some_iff.1 hx).1 (by intro e; cases e; omega)]
    exact hx⟩

end Go.Proofs.Ytfeddkfpkdjbeaa
