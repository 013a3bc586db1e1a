/- ref17.Head, walked. Laws for walks inside a fence (ranges over functions): appends, what is kept. A range over a function whose iterator turns cells of its own between two rounds. -/
import Derived.Test.YtkdnbnkbnegckaaGreatDoorAhw
import Derived.RangeFuncNested
import Derived.RangeFuncBound
import Derived.RangeFuncCalls
import Derived.RangeFuncLeaves
import Derived.Shelf.Abstract
import Derived.Shelf.RegionOpen
import Derived.OwnWalkIn
import Derived.TacticsInMore
import Derived.LoopNIn
import Derived.LoopIn
import Derived.Sort.QuietIn
import Derived.Test.YtkdnbnkbnegckaaGreatDoorBase
namespace Go.Proofs.YtkdnbnkbnegckaaGreatDoor
open Go.RowKit
set_option maxRecDepth 20000
set_option linter.unusedVariables false
end Go.Proofs.YtkdnbnkbnegckaaGreatDoor
namespace Go.Proofs.YtkdnbnkbnegckaaGreatDoor
open Go.RowKit Go.Shelf

theorem below_grow {w0 w w' : World} {B base : Nat} {e : TypeId} {size : Nat} {v v' : Value} {n : Nat} {xs : List Value} (h : Below B w0 w) (hB : B ≤ w.heap.size) (hown : w.ownsRow base e size v n xs) (hb : B ≤ base) (hg : Grow w w' v v') : Below B w0 w' :=
  h.grown hg.togrownBy hB fun k hk => Nat.le_trans hb (hown.lt k hk).1

theorem setCell_blk {W : World} {a : Addr} {u : Value} {k : Nat} (h : k ≠ a.block) {o : Obj} (hk : W.heap[k]? = some o) : (W.setCell a u).heap[k]? = some o := by
  rw [Below.heap_setCell _ _ _ _ h]; exact hk

/-- What a round keeps: what lay below B0, and the block Bs. -/
def KeepBs (B0 Bs : Nat) (W W' : World) : Prop := Below B0 W W' ∧ ∀ o, W.heap[Bs]? = some o → W'.heap[Bs]? = some o
theorem KeepBs.drN {B0 Bs : Nat} {A B : World} (h : KeepBs B0 Bs A B) (n : Nat) : KeepBs B0 Bs A (B.drewN n) := ⟨⟨h.1.os, h.1.tape, h.1.output, h.1.size, h.1.block⟩, h.2⟩
theorem KeepBs.rf (B0 Bs : Nat) (A : World) : KeepBs B0 Bs A A := ⟨Below.refl _ _, fun _ h => h⟩
theorem KeepBs.tr {B0 Bs : Nat} {A B C : World} (h : KeepBs B0 Bs A B) (k : KeepBs B0 Bs B C) : KeepBs B0 Bs A C := ⟨h.1.trans k.1, fun o ho => k.2 o (h.2 o ho)⟩
theorem KeepBs.al {B0 Bs : Nat} {A B : World} (h : KeepBs B0 Bs A B) (hB : B0 ≤ B.heap.size) (o : Obj) : KeepBs B0 Bs A (B.alloc o) :=
  ⟨h.1.alloc hB o, fun x hx => by have := h.2 x hx; rw [(World.grownBy_alloc B o none).block Bs (Array.getElem?_eq_some_iff.1 this).1 (by simp)]; exact this⟩
theorem KeepBs.set {B0 Bs : Nat} {A B : World} (h : KeepBs B0 Bs A B) {b : Nat} (hb : B0 ≤ b) (hne : Bs ≠ b) (v : Value) : KeepBs B0 Bs A (B.setCell ⟨b, 0, none⟩ v) :=
  ⟨h.1.setCell (p := ⟨b, 0, none⟩) hb _, fun x hx => setCell_blk hne (h.2 x hx)⟩
theorem KeepBs.grow {B0 Bs : Nat} {A B C : World} {base : Nat} {e : TypeId} {size : Nat} {v v' : Value} {n : Nat} {xs : List Value} (h : KeepBs B0 Bs A B) (hB : B0 ≤ B.heap.size) (hown : B.ownsRow base e size v n xs) (hb : B0 ≤ base) (hs : Bs < base) (hg : Grow B C v v') : KeepBs B0 Bs A C :=
  ⟨below_grow h.1 hB hown hb hg, fun x hx => by
    have hx' := h.2 x hx
    rw [hg.togrownBy.block Bs (Array.getElem?_eq_some_iff.1 hx').1 (fun e' => by have := (hown.lt Bs e'.symm).1; omega)]
    exact hx'⟩
theorem KeepBs.putObj {B0 Bs : Nat} {w : World} (hn : B0 ≤ w.heap.size) (hs : Bs < w.heap.size) (W : World) (l : Nat) (o o' : Obj) (hl : w.heap.size ≤ l) (h : W.heap[l]? = some o) (h1 : o.isCells = false) (h2 : o.isWalk = false) : KeepBs B0 Bs W (W.putObj l o') :=
  ⟨belowK_b hn W l o o' hl h h1 h2, fun x hx => by
    rw [(grownBy_putObj' W l o').block Bs (Array.getElem?_eq_some_iff.1 hx).1 (by intro e; cases e; omega)]
    exact hx⟩

end Go.Proofs.YtkdnbnkbnegckaaGreatDoor
namespace Go.Proofs.YtkdnbnkbnegckaaGreatDoor
open Go.RowKit
set_option linter.unusedVariables false
variable {F : Fence} {n : Nat} {P : Program} {w : World}
theorem size_putObj (W : World) (l : Nat) (o : Obj) : (W.putObj l o).heap.size = W.heap.size := by simp [World.putObj]
/-- Nothing that was there has turned, but for the blocks of X. -/
structure StepX (X : Nat → Prop) (A B : World) : Prop where
  os : B.os = A.os
  tape : B.tape = A.tape
  output : B.output = A.output
  size : A.heap.size ≤ B.heap.size
  block : ∀ k, k < A.heap.size → ¬ X k → B.heap[k]? = A.heap[k]?
theorem StepX.refl (X : Nat → Prop) (A : World) : StepX X A A := ⟨rfl, rfl, rfl, Nat.le_refl _, fun _ _ _ => rfl⟩
theorem StepX.trans {X : Nat → Prop} {A B C : World} (h : StepX X A B) (k : StepX X B C) : StepX X A C :=
  ⟨k.os.trans h.os, k.tape.trans h.tape, k.output.trans h.output, Nat.le_trans h.size k.size, fun i hi hx => (k.block i (Nat.lt_of_lt_of_le hi h.size) hx).trans (h.block i hi hx)⟩
theorem StepX.mono {X Y : Nat → Prop} {A B : World} (h : StepX X A B) (hXY : ∀ k, k < A.heap.size → X k → Y k) : StepX Y A B := ⟨h.os, h.tape, h.output, h.size, fun k hk hy => h.block k hk fun hx => hy (hXY k hk hx)⟩
theorem StepX.ext {X : Nat → Prop} {A B : World} (h : Below A.heap.size A B) : StepX X A B := ⟨h.os, h.tape, h.output, h.size, fun k hk _ => h.block k hk⟩
theorem StepX.alloc {X : Nat → Prop} {A B : World} (h : StepX X A B) (o : Obj) : StepX X A (B.alloc o) := h.trans (.ext ((Below.refl _ _).alloc (Nat.le_refl _) o))
theorem StepX.set {X : Nat → Prop} {A B : World} (h : StepX X A B) {b : Nat} (hb : X b) (j : Nat) (v : Value) : StepX X A (B.setCell ⟨b, j, none⟩ v) :=
  h.trans ⟨rfl, rfl, rfl, by simp [World.setCell], fun k _ hx => Below.heap_setCell _ _ _ _ fun e => hx (by rw [e]; exact hb)⟩
theorem StepX.putObj {X : Nat → Prop} {A B : World} (h : StepX X A B) {l : Nat} (hl : X l) (o : Obj) : StepX X A (B.putObj l o) :=
  h.trans ⟨rfl, rfl, rfl, by simp [World.putObj], fun k _ hx => World.putObj_heap_other fun e => hx (by rw [e]; exact hl)⟩
theorem StepX.dr {X : Nat → Prop} {A B : World} (h : StepX X A B) : StepX X A B.drew := ⟨h.os, h.tape, h.output, h.size, h.block⟩
/-- The blocks of X have not turned. -/
def KpX (X : Nat → Prop) (A B : World) : Prop := A.heap.size ≤ B.heap.size ∧ ∀ k, X k → k < A.heap.size → B.heap[k]? = A.heap[k]?
theorem KpX.refl (X : Nat → Prop) (A : World) : KpX X A A := ⟨Nat.le_refl _, fun _ _ _ => rfl⟩
theorem KpX.trans {X : Nat → Prop} {A B C : World} (h : KpX X A B) (k : KpX X B C) : KpX X A C := ⟨Nat.le_trans h.1 k.1, fun i hx hi => (k.2 i hx (Nat.lt_of_lt_of_le hi h.1)).trans (h.2 i hx hi)⟩
theorem KpX.ext {X : Nat → Prop} {A B : World} (h : Below A.heap.size A B) : KpX X A B := ⟨h.size, fun k _ hk => h.block k hk⟩
theorem KpX.putObj {X : Nat → Prop} {A B : World} (h : KpX X A B) {l : Nat} (hl : ¬ X l) (o : Obj) : KpX X A (B.putObj l o) :=
  h.trans ⟨by simp [World.putObj], fun k hx _ => World.putObj_heap_other fun e => hl (by rw [← e]; exact hx)⟩
theorem KpX.set {X : Nat → Prop} {A B : World} (h : KpX X A B) {b : Nat} (hb : ¬ X b) (j : Nat) (v : Value) : KpX X A (B.setCell ⟨b, j, none⟩ v) :=
  h.trans ⟨by simp [World.setCell], fun k hx _ => Below.heap_setCell _ _ _ _ fun e => hb (by rw [← show k = b from e]; exact hx)⟩
theorem KpX.mono {X Y : Nat → Prop} {A B : World} (h : KpX X A B) (hXY : ∀ k, k < A.heap.size → Y k → X k) : KpX Y A B := ⟨h.1, fun k hy hk => h.2 k (hXY k hk hy) hk⟩
/-- AN ITERATOR's CONTRACT: it gives xs, one behind the other; between two rounds it turns blocks of X alone; a round leaves these as they lay. -/
def SeqX {α : Type} (F : Fence) (n : Nat) (P : Program) (g : Nat) (lb : Array Value) (encs : α → Array Value) (X : Nat → Prop) (m : Nat) (xs : List α) (W1 : World) : Prop :=
  ∀ (l : Nat) (J : Nat → World → Prop) (Jx : World → Prop), (∀ i A B, J i A → StepX X A B → J i B) → (∀ A B, Jx A → StepX X A B → Jx B) →
    (∀ i (h : i < xs.length) W, J i W → m ≤ W.heap.size → YieldAt F (n - 1) P l (encs xs[i]) W fun e W' => (e = .returned (.bool true) ∧ J (i + 1) W' ∧ KpX X W W') ∨ (e = .returned (.bool false) ∧ Jx W' ∧ KpX X W W')) →
    J 0 W1 → CallsIn F n P g (#[.func (.yield l) #[] #[]] ++ lb) W1 fun e W' => (∃ v, e = .returned v) ∧ (J xs.length W' ∨ Jx W')
/-- How a round's body may be left. -/
def postX (X : Nat → Prop) (I : Nat → World → Prop) (Ix : Code → World → Prop) (i : Nat) (W : World) : Exit → Act → World → Prop
  | .normal, _, W' => KpX X W W' ∧ I (i + 1) W'
  | .ret, _, W' => KpX X W W' ∧ Ix .ret W'
  | .exit id, _, W' => KpX X W W' ∧ Ix (.exit id) W'
  | .goto t, _, W' => KpX X W W' ∧ Ix (.goto t) W'
  | .panic _, _, _ => False
  | .outgrown, _, _ => False
def withLoop (X : Nat → Prop) (D : Nat) : Nat → Prop := fun k => X k ∨ k = D ∨ k = D + 1
theorem wpIn_rangeFuncX {α : Type} {g : Operand} {ps : Array Tmp} {assign body : Code} {Q : Exit → Act → World → Prop} {a : Act} {w : World}
    (hro : F.round = none) (h1 : 1 ≤ n) {gf : Nat} {lb : Array Value} (hg : a.eval g = .func (.func gf) #[] lb) (hFg : F.fn gf) (eg : ∀ args w, (callFunc gf args).run P w = .ok (.enter gf args) w)
    {encs : α → Array Value} {X : Nat → Prop} {m : Nat} {xs : List α} (hseq : ∀ r : Loop, SeqX F (n - 1) P gf lb encs X m xs ((w.alloc (.deferred (some []))).alloc (.loop r)))
    (hXD : ¬ X w.heap.size) (hXl : ¬ X (w.heap.size + 1)) (hps : ∀ x, (encs x).size = ps.size)
    (I : Nat → World → Prop) (Ix : Code → World → Prop) (hI : ∀ i A B, I i A → StepX (withLoop X w.heap.size) A B → I i B) (hIx : ∀ c A B, Ix c A → StepX (withLoop X w.heap.size) A B → Ix c B) (h0 : I 0 w) (a₁ : α → Act)
    (hassign : ∀ (l : Nat) (x : α) (W : World) (K : Act → World → Prop), K (a₁ x) W →
      assign.wpIn (F.inRound l) (n - 1 - 1) P (Exit.then K (fun _ _ _ => False)) { tmps := (ps.zip (encs x)).foldl (fun t (p, v) => t.setIfInBounds p v) a.tmps, defers := [] } W)
    (hbody : ∀ (i : Nat) (h : i < xs.length) (W : World), w.heap.size + 2 ≤ W.heap.size → I i W → m ≤ W.heap.size → body.wpIn (F.inRound (w.heap.size + 1)) (n - 1 - 1) P (postX (withLoop X w.heap.size) I Ix i W) (a₁ xs[i]) W)
    (hdone : ∀ W, I xs.length W → W.heap[w.heap.size]? = some (.deferred (some [])) → Q .normal { a with defers := { target := .collected w.heap.size, args := #[] } :: a.defers } W)
    (hstop : ∀ (c : Code) W, Ix c W → W.heap[w.heap.size]? = some (.deferred (some [])) → c.wpIn F n P Q { a with defers := { target := .collected w.heap.size, args := #[] } :: a.defers } W) :
    (Code.rangeFunc g ps assign body).wpIn F n P Q a w := by
  refine wpIn_rangeFunc ?_
  intro fn hfn
  rw [hro]
  obtain ⟨rec, hrec⟩ : ∃ rec : LoopState → Option Code → Loop, rec = fun st pe => { state := st, pending := pe, fn, tmps := a.tmps, params := ps, assign, body, defers := w.heap.size } := ⟨_, rfl⟩
  obtain ⟨W1, hW1⟩ : ∃ W1, (w.alloc (.deferred (some []))).alloc (.loop (rec .ready none)) = W1 := ⟨_, rfl⟩
  have hL1 : W1.heap[w.heap.size + 1]? = some (.loop (rec .ready none)) := by
    rw [← hW1]; have := World.alloc_heap_new (w.alloc (.deferred (some []))) (.loop (rec .ready none)); rwa [World.size_alloc] at this
  have hK1 : W1.heap[w.heap.size]? = some (.deferred (some [])) := by
    rw [← hW1]; exact (Below.heap_alloc _ _ _ (by simp)).trans (World.alloc_heap_new w _)
  have hI1 : I 0 W1 := by rw [← hW1]; exact hI _ _ _ h0 (((StepX.refl _ _).alloc _).alloc _)
  have hq := hseq (rec .ready none)
  rw [hW1] at hq
  refine ⟨w.heap.size + 1, [{ target := .collected w.heap.size, args := #[] }], W1, { target := .fn (.func gf) lb, args := #[.func (.yield (w.heap.size + 1)) #[] #[]] }, W1, gf,
    #[.func (.yield (w.heap.size + 1)) #[] #[]] ++ lb, W1, ?_, ?_, ?_, ?_, fun _ => h1, ?_⟩
  · rw [← hW1, hrec]; exact run_enterLoop_outer _ _ _ _ _
  · simp only [resolve, hg]
    simp [go_sem]
  · intro f' hf'; simp [Target.leads] at hf'; subst hf'; exact hFg
  · simp [invoke, go_sem, eg]
  · have hlift : ∀ {A B : World}, StepX X A B → StepX (withLoop X w.heap.size) A B := fun h => h.mono fun k _ hx => .inl hx
    have keep : ∀ {A B : World} {o : Obj} {k : Nat}, A.heap[k]? = some o → ¬ X k → StepX X A B → B.heap[k]? = some o := fun h hx hs => (hs.block _ (Array.getElem?_eq_some_iff.1 h).1 hx).trans h
    refine (hq (w.heap.size + 1)
      (fun i W => I i W ∧ W.heap[w.heap.size + 1]? = some (.loop (rec .ready none)) ∧ W.heap[w.heap.size]? = some (.deferred (some [])))
      (fun W => ∃ c, Ix c W ∧ W.heap[w.heap.size + 1]? = some (.loop (rec .done (some c))) ∧ W.heap[w.heap.size]? = some (.deferred (some [])))
      (fun i A B hs hx => ⟨hI i A B hs.1 (hlift hx), keep hs.2.1 hXl hx, keep hs.2.2 hXD hx⟩)
      (fun A B hs hx => by
        obtain ⟨c, hc, hl, hk⟩ := hs
        exact ⟨c, hIx c A B hc (hlift hx), keep hl hXl hx, keep hk hXD hx⟩)
      ?_ ⟨hI1, hL1, hK1⟩).mono ?_
    · -- ONE ROUND
      rintro i hi' W ⟨hi, hl, hk⟩ hm
      have hlt : w.heap.size + 1 < W.heap.size := (Array.getElem?_eq_some_iff.1 hl).1
      have hy := run_yield (P := P) (args := encs xs[i]) hl (by rw [hrec]; exact hps _)
      rw [hrec] at hy
      refine ⟨fn, _, assign, body, hy, roundIn_of_wpIn hfn (hassign _ xs[i] W _ ?_)⟩
      clear hy
      refine ⟨_, run_beginRound hl (by rw [hrec]), ?_⟩
      have hl2 : (W.putObj (w.heap.size + 1) (.loop { rec .ready none with state := .busy })).heap[w.heap.size + 1]? = some (.loop { rec .ready none with state := .busy }) := World.putObj_heap_same hlt
      have hk2 : (W.putObj (w.heap.size + 1) (.loop { rec .ready none with state := .busy })).heap[w.heap.size]? = some (.deferred (some [])) := (World.putObj_heap_other (by omega)).trans hk
      have hs2 : (W.putObj (w.heap.size + 1) (.loop { rec .ready none with state := .busy })).heap.size = W.heap.size := by simp [World.putObj]
      have hw2 : KpX X W (W.putObj (w.heap.size + 1) (.loop { rec .ready none with state := .busy })) := (KpX.refl X W).putObj hXl _
      have hX1 : withLoop X w.heap.size (w.heap.size + 1) := .inr (.inr rfl)
      have hX0 : withLoop X w.heap.size w.heap.size := .inr (.inl rfl)
      refine wpIn_mono (hbody i hi' _ (by rw [size_putObj]; omega) (hI _ _ _ hi ((StepX.refl _ _).putObj hX1 _)) (by rw [size_putObj]; exact hm)) ?_
      have fin : ∀ (jump : Option Code) (W3 : World), KpX (withLoop X w.heap.size) (W.putObj (w.heap.size + 1) (.loop { rec .ready none with state := .busy })) W3 →
          (Instr.endRound (w.heap.size + 1) jump).run P W3 = .ok (.bool jump.isNone) (W3.putObj (w.heap.size + 1) (.loop (rec (if jump.isNone then .ready else .done) jump))) ∧
          (W3.putObj (w.heap.size + 1) (.loop (rec (if jump.isNone then .ready else .done) jump))).heap[w.heap.size + 1]? = some (.loop (rec (if jump.isNone then .ready else .done) jump)) ∧
          (W3.putObj (w.heap.size + 1) (.loop (rec (if jump.isNone then .ready else .done) jump))).heap[w.heap.size]? = some (.deferred (some [])) := fun jump W3 hk3 => by
        have hl3 := (hk3.2 _ hX1 (by omega)).trans hl2
        have := run_endRound (P := P) jump hl3
        rw [hrec] at this ⊢
        exact ⟨this, World.putObj_heap_same (Array.getElem?_eq_some_iff.1 hl3).1, (World.putObj_heap_other (by omega)).trans ((hk3.2 _ hX0 (by omega)).trans hk2)⟩
      rintro e a3 W3 hp
      cases e with
      | normal =>
        obtain ⟨hk3, hi3⟩ := hp
        obtain ⟨hr, hl4, hk4⟩ := fin none W3 hk3
        exact ⟨_, _, hr, .inl ⟨rfl, ⟨hI _ _ _ hi3 ((StepX.refl _ _).putObj hX1 _), hl4, hk4⟩, (hw2.trans (hk3.mono fun k _ hx => .inl hx)).putObj hXl _⟩⟩
      | ret =>
        obtain ⟨hk3, hi3⟩ := hp
        obtain ⟨hr, hl4, hk4⟩ := fin (some .ret) W3 hk3
        exact ⟨_, _, hr, .inr ⟨rfl, ⟨.ret, hIx _ _ _ hi3 ((StepX.refl _ _).putObj hX1 _), hl4, hk4⟩, (hw2.trans (hk3.mono fun k _ hx => .inl hx)).putObj hXl _⟩⟩
      | exit id =>
        obtain ⟨hk3, hi3⟩ := hp
        obtain ⟨hr, hl4, hk4⟩ := fin (some (.exit id)) W3 hk3
        exact ⟨_, _, hr, .inr ⟨rfl, ⟨.exit id, hIx _ _ _ hi3 ((StepX.refl _ _).putObj hX1 _), hl4, hk4⟩, (hw2.trans (hk3.mono fun k _ hx => .inl hx)).putObj hXl _⟩⟩
      | goto t =>
        obtain ⟨hk3, hi3⟩ := hp
        obtain ⟨hr, hl4, hk4⟩ := fin (some (.goto t)) W3 hk3
        exact ⟨_, _, hr, .inr ⟨rfl, ⟨.goto t, hIx _ _ _ hi3 ((StepX.refl _ _).putObj hX1 _), hl4, hk4⟩, (hw2.trans (hk3.mono fun k _ hx => .inl hx)).putObj hXl _⟩⟩
      | panic ch => exact hp.elim
      | outgrown => exact hp.elim
    · -- BEHIND THE ITERATOR
      rintro e W2 ⟨⟨v, rfl⟩, (⟨hi, hl, hk⟩ | ⟨c, hi, hl, hk⟩)⟩
      · exact ⟨none, _, by have := run_endLoop (P := P) hl (by rw [hrec]; simp); rw [hrec] at this; exact this, hdone _ (hI _ _ _ hi ((StepX.refl _ _).putObj (.inr (.inr rfl)) _)) ((World.putObj_heap_other (by omega)).trans hk)⟩
      · exact ⟨some c, _, by have := run_endLoop (P := P) hl (by rw [hrec]; simp); rw [hrec] at this; exact this, hstop c _ (hIx c _ _ hi ((StepX.refl _ _).putObj (.inr (.inr rfl)) _)) ((World.putObj_heap_other (by omega)).trans hk)⟩
end Go.Proofs.YtkdnbnkbnegckaaGreatDoor
