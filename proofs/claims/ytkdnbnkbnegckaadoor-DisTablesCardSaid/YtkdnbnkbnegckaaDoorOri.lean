/- Laws for walks inside a fence (ranges over functions): appends, what is kept. The slots of a set, rising: the iterator. Regions that draw their order, inside a fence or a round: op by op, by hand. -/
import Derived.RangeFuncNested
import Derived.RangeFuncBound
import Derived.RangeFuncCalls
import Derived.RangeFuncLeaves
import Derived.Shelf.Abstract
import Derived.Shelf.RegionOpen
import Derived.OwnWalkIn
import Derived.TacticsInMore
import Derived.LoopNIn
import Derived.LoopIn
import Derived.Sort.QuietIn
import Derived.Test.YtkdnbnkbnegckaaDoorBase
import Derived.Test.YtkdnbnkbnegckaaDoorSqT
import Derived.Test.YtkdnbnkbnegckaaDoorStructQ
import Derived.Shelf.Spec.TrailingZeros
namespace Go.Proofs.YtkdnbnkbnegckaaDoor
open Go.RowKit Go.Shelf

theorem keeps_grow {w w' : World} {base : Nat} {e : TypeId} {size : Nat} {v v' : Value} {n : Nat} {xs : List Value} (hown : w.ownsRow base e size v n xs) (hg : Grow w w' v v') : KeepsOthers w w' :=
  KeepsOthers.of_grownBy hg.togrownBy fun j o ej hj => by
    rcases hown.2 with ⟨rfl, _⟩ | ⟨g, cap, cur, rfl, _, hgb, _⟩
    · simp [Value.ownBlock] at ej
    · obtain rfl : g = j := by simpa [Value.ownBlock] using ej
      rw [hgb] at hj; cases hj; rfl

theorem below_grow {w0 w w' : World} {B base : Nat} {e : TypeId} {size : Nat} {v v' : Value} {n : Nat} {xs : List Value} (h : Below B w0 w) (hB : B ≤ w.heap.size) (hown : w.ownsRow base e size v n xs) (hb : B ≤ base) (hg : Grow w w' v v') : Below B w0 w' :=
  h.grown hg.togrownBy hB fun k hk => Nat.le_trans hb (hown.lt k hk).1

theorem setCell_blk {W : World} {a : Addr} {u : Value} {k : Nat} (h : k ≠ a.block) {o : Obj} (hk : W.heap[k]? = some o) : (W.setCell a u).heap[k]? = some o := by
  rw [Below.heap_setCell _ _ _ _ h]; exact hk

/-- What a round keeps: what lay below B0, and the block Bs. -/
def KeepBs (B0 Bs : Nat) (W W' : World) : Prop := Below B0 W W' ∧ ∀ o, W.heap[Bs]? = some o → W'.heap[Bs]? = some o
theorem KeepBs.drN {B0 Bs : Nat} {A B : World} (h : KeepBs B0 Bs A B) (n : Nat) : KeepBs B0 Bs A (B.drewN n) := ⟨⟨h.1.os, h.1.tape, h.1.output, h.1.size, h.1.block⟩, h.2⟩
theorem KeepBs.rf (B0 Bs : Nat) (A : World) : KeepBs B0 Bs A A := ⟨Below.refl _ _, fun _ h => h⟩
theorem KeepBs.tr {B0 Bs : Nat} {A B C : World} (h : KeepBs B0 Bs A B) (k : KeepBs B0 Bs B C) : KeepBs B0 Bs A C := ⟨h.1.trans k.1, fun o ho => k.2 o (h.2 o ho)⟩
theorem KeepBs.al {B0 Bs : Nat} {A B : World} (h : KeepBs B0 Bs A B) (hB : B0 ≤ B.heap.size) (o : Obj) : KeepBs B0 Bs A (B.alloc o) :=
  ⟨h.1.alloc hB o, fun x hx => by have := h.2 x hx; rw [(World.grownBy_alloc B o none).block Bs (Array.getElem?_eq_some_iff.1 this).1 (by simp)]; exact this⟩
theorem KeepBs.set {B0 Bs : Nat} {A B : World} (h : KeepBs B0 Bs A B) {b : Nat} (hb : B0 ≤ b) (hne : Bs ≠ b) (v : Value) : KeepBs B0 Bs A (B.setCell ⟨b, 0, none⟩ v) :=
  ⟨h.1.setCell (p := ⟨b, 0, none⟩) hb _, fun x hx => setCell_blk hne (h.2 x hx)⟩
theorem KeepBs.grow {B0 Bs : Nat} {A B C : World} {base : Nat} {e : TypeId} {size : Nat} {v v' : Value} {n : Nat} {xs : List Value} (h : KeepBs B0 Bs A B) (hB : B0 ≤ B.heap.size) (hown : B.ownsRow base e size v n xs) (hb : B0 ≤ base) (hs : Bs < base) (hg : Grow B C v v') : KeepBs B0 Bs A C :=
  ⟨below_grow h.1 hB hown hb hg, fun x hx => by
    have hx' := h.2 x hx
    rw [hg.togrownBy.block Bs (Array.getElem?_eq_some_iff.1 hx').1 (fun e' => by have := (hown.lt Bs e'.symm).1; omega)]
    exact hx'⟩
theorem KeepBs.putObj {B0 Bs : Nat} {w : World} (hn : B0 ≤ w.heap.size) (hs : Bs < w.heap.size) (W : World) (l : Nat) (o o' : Obj) (hl : w.heap.size ≤ l) (h : W.heap[l]? = some o) (h1 : o.isCells = false) (h2 : o.isWalk = false) : KeepBs B0 Bs W (W.putObj l o') :=
  ⟨belowK_b hn W l o o' hl h h1 h2, fun x hx => by
    rw [(grownBy_putObj' W l o').block Bs (Array.getElem?_eq_some_iff.1 hx).1 (by intro e; cases e; omega)]
    exact hx⟩

end Go.Proofs.YtkdnbnkbnegckaaDoor
namespace Go.Proofs.YtkdnbnkbnegckaaDoor
open Go.RowKit Go.Shelf
set_option linter.unusedVariables false
attribute [local go_sem] Oper.semAt_some

/-- The library's table, and what it is for. -/
def TzC (W : World) : Prop := ∀ x : Nat, x ≠ 0 → x < 18446744073709551616 → Calls Tryd.prog 46 #[.int .u64 (x : Int)] W fun e w' => e = .returned (.int .i64 (Lib.ctz 64 x : Nat)) ∧ w' = W
theorem tz_core (x k idx : Nat) (w : World) (hx0 : ((x : Int) == 0) = false)
    (key : IntKind.u64.wrap (bits BinOp.and IntKind.u64 (x : Int) (IntKind.u64.wrap (-(x : Int))) * 285870213051353865) / 288230376151711744 = (idx : Int))
    (hi : idx < 64) (hk : k < 64) (hcell : w.cell? ⟨0, idx, none⟩ = some (.int .u8 k)) : Calls Tryd.prog 46 #[.int .u64 (x : Int)] w fun e w' => e = .returned (.int .i64 (k : Int)) ∧ w' = w := by
  go_enter Tryd.func46, Tryd.ntmps46
  go_wp2_with (simp only [key])
  go_ret
  exact ⟨rfl, rfl⟩
theorem tz_walk {W : World} (hT : TabAt 0 Lib.deBruijn64tab W) : TzC W := fun x hx0 hx => by
  obtain ⟨hlow, hk⟩ := Lib.lowest_bit 64 x hx0 hx
  obtain ⟨hi, htab⟩ := Lib.deBruijn64_at _ hk
  have hcell := hT _ hi
  rw [htab] at hcell
  exact tz_core x _ _ W (by simp; omega) (tz64_key x _ hx hx0 hlow) hi hk hcell
theorem tabAt_below {B : Nat} {W W' : World} (h : TabAt 0 Lib.deBruijn64tab W) (hB : 0 < B) (hx : Below B W W') : TabAt 0 Lib.deBruijn64tab W' := fun j hj => (hx.cell (p := ⟨0, j, none⟩) hB).trans (h j hj)
abbrev F256 := Fin 256
theorem slots_All (s : SetT) (w : World) :
    Calls Tryd.prog 23 #[.agg (setC s).toArray] w fun e w' => e = .returned (.func (.func 45) #[] #[.pointer (some ⟨w.heap.size, 0, none⟩)]) ∧ w' = w.alloc (.cells (setC s).toArray 62) := by
  go_enter Tryd.func23, Tryd.ntmps23
  simp only [setC]
  go_wp2
  go_ret
  exact ⟨rfl, rfl⟩

set_option maxHeartbeats 2000000 in
set_option maxRecDepth 100000 in
theorem all_in (n : Nat) (hn : 1 ≤ n) (lp Bs B0 : Nat) (s : SetT) (hs : Set64 s) (J Jx : List F256 → World → Prop)
    (hY : ∀ pre x W, J pre W → pre.length < 256 → YieldAt Fence.wide (n - 1) Tryd.prog lp #[.int .i64 ((x.val : Nat) : Int)] W fun e W' =>
      (e = .returned (.bool true) ∧ J (pre ++ [x]) W' ∧ KeepBs B0 Bs W W') ∨ (e = .returned (.bool false) ∧ Jx (pre ++ [x]) W'))
    (W : World) (hBs : W.heap[Bs]? = some (.cells (setC s).toArray 62 (0, 0))) (hT : ∀ W', Below B0 W W' → TzC W') (h0 : J [] W) :
    CallsIn Fence.wide n Tryd.prog 45 #[.func (.yield lp) #[] #[], .pointer (some ⟨Bs, 0, none⟩)] W fun e W' => (∃ v, e = .returned v) ∧
      ((∃ ys, ys.map (·.val) = slotsOf s 256 ∧ J ys W') ∨ (∃ pre, True ∧ Jx pre W')) := by
  have HY := Lib.hid hY
  have HT := Lib.hid hT
  have HB := Lib.hid hBs
  have HS := Lib.hid hs
  have c0 : W.cell? ⟨Bs, 0, none⟩ = some (.int .u64 s.a) := blk hBs 0 rfl
  have c1 : W.cell? ⟨Bs, 1, none⟩ = some (.int .u64 s.b) := blk hBs 1 rfl
  have c2 : W.cell? ⟨Bs, 2, none⟩ = some (.int .u64 s.c) := blk hBs 2 rfl
  have c3 : W.cell? ⟨Bs, 3, none⟩ = some (.int .u64 s.d) := blk hBs 3 rfl
  clear hY hT hBs hs
  refine callsIn_of_wp Tryd.func45 rfl trivial ?_ rfl
  simp only [Tryd.ntmps45, List.size_toArray, List.length_cons, List.length_nil, Nat.reduceAdd, Nat.reduceSub, Array.replicate_succ, Array.replicate_zero, List.push_toArray, List.append_toArray, List.nil_append, List.cons_append]
  gi_wp2
  clear c0 c1 c2 c3
  gi_loopw [6] (fun i wr => ∃ (pre : List F256) (k : Nat), i = .int .i64 k ∧ k ≤ 4 ∧ Hid (pre.map (·.val) = slotsOf s (64 * k)) ∧ J pre wr ∧ KeepBs B0 Bs W wr)
    (fun i _ => 4 - (intOf i).toNat)
  case atStart => exact ⟨[], 0, rfl, Nat.zero_le _, Lib.hid (by simp [slotsOf]), h0, KeepBs.rf _ _ _⟩
  case round =>
    obtain ⟨pre, k, rfl, hk, HP, hJ, hkp⟩ := hrel
    by_cases hlt : k < 4
    · have hi := fun W => run_index_ints (P := Tryd.prog) (k := .u64) (ki := .i64) (t := 62) (e := 60) (n := 4) Tryd.underlying62 Tryd.underlying60 (fun _ => by kernel_rfl) (setI s) rfl k hlt _ (setI_word hlt) W
      have hW := word_64 HS.out k
      have HSL := Lib.hid (slotsOf_word (s := s) hlt)
      generalize word s k = x0 at *
      simp only [setI, List.map_cons, List.map_nil] at hi
      have t0 : decide ((k : Int) < 4) = true := decide_eq_true (by omega)
      gi_wp2
      gi_loopw [4] (fun v wq => ∃ (pre : List F256) (x : Nat), v = .int .u64 x ∧ x < 18446744073709551616 ∧ Hid (pre.map (·.val) ++ (bitsL x).map (64 * k + ·) = slotsOf s (64 * (k + 1))) ∧ J pre wq ∧ KeepBs B0 Bs W wq)
        (fun v _ => (intOf v).toNat)
      case atStart => exact ⟨pre, x0, rfl, hW, Lib.hid (by rw [HP.out, HSL.out]), hJ, hkp⟩
      case round =>
        clear hJ hkp hi HP HSL hW
        obtain ⟨pre, x, rfl, hx, HP, hJ, hkp⟩ := hrel
        by_cases hx0 : x = 0
        · subst hx0
          gi_wp2
          go_roundw
          case rel => exact ⟨pre, k + 1, by go_num, by omega, Lib.hid (by have := HP.out; rw [bitsL_zero] at this; simpa using this), hJ, hkp⟩
          case measure => simp [intOf]; omega
        · obtain ⟨hb, hc⟩ := bitsL_step hx0 hx
          have HTz := Lib.hid (HT.out wr hkp.1 x hx0 hx)
          have e2 := and_pred_u64 hx0 hx
          have hlt2 := and_lt hx0
          have hbn : ((x : Int) != 0) = true := by simp; omega
          have HP2 : Hid (pre.map (·.val) ++ (64 * k + Lib.ctz 64 x) :: (bitsL (x &&& (x - 1))).map (64 * k + ·) = slotsOf s (64 * (k + 1))) := Lib.hid (by have := HP.out; rwa [hb, List.map_cons] at this)
          have hml : pre.length < 256 := by
            have h1 := congrArg List.length HP2.out
            have h2 := slotsOf_len s (64 * (k + 1))
            simp only [List.length_append, List.length_map, List.length_cons] at h1
            omega
          clear hb HP
          generalize Lib.ctz 64 x = c at *
          generalize x &&& (x - 1) = y at *
          obtain ⟨fn, tmps, assign, body, hy, hR⟩ := HY.out pre ⟨64 * k + c, by omega⟩ wr hJ hml
          dsimp only at hy
          rw [show ((64 * k + c : Nat) : Int) = 64 * (k : Int) + (c : Int) by omega] at hy
          have n1 : IntKind.i64.wrap (64 * (k : Int)) = 64 * (k : Int) := by rw [IntKind.wrap_i64]; omega
          have n2 : IntKind.i64.wrap (64 * (k : Int) + (c : Int)) = 64 * (k : Int) + (c : Int) := by rw [IntKind.wrap_i64]; omega
          gi_wp2_with (refine ⟨trivial, ?_⟩; gi_at_call 46; refine (callsIn_wide.2 HTz.out).mono ?_; rintro e w' ⟨rfl, rfl⟩)
          refine hR.mono ?_
          rintro e W3 (⟨rfl, hJ3, hk3⟩ | ⟨rfl, hJx3⟩)
          · gi_wp2
            go_roundw
            case rel => exact ⟨pre ++ [⟨64 * k + c, by omega⟩], y, rfl, by omega, Lib.hid (by have := HP2.out; rw [List.map_append, List.append_assoc]; exact this), hJ3, hkp.tr hk3⟩
            case measure => simp [intOf]; omega
          · gi_wp2
            refine bodyPost_ret (results_none rfl _ _ _) rfl ?_
            exact ⟨⟨_, rfl⟩, .inr ⟨_, trivial, hJx3⟩⟩
    · obtain rfl : k = 4 := by omega
      gi_wp2
      go_end0
      exact ⟨⟨_, rfl⟩, .inl ⟨pre, HP.out, hJ⟩⟩
theorem all_stops (n : Nat) (hn : 1 ≤ n) (Bs B0 : Nat) (s : SetT) (hs : Set64 s) (w : World) (hBsl : Bs < w.heap.size) (hBs : w.heap[Bs]? = some (.cells (setC s).toArray 62 (0, 0))) (hB0 : B0 ≤ w.heap.size) (hB : 0 < B0) (hT : TabAt 0 Lib.deBruijn64tab w) :
    SeqStopsK Fence.wide n Tryd.prog 45 #[.pointer (some ⟨Bs, 0, none⟩)] (fun x : F256 => #[.int .i64 ((x.val : Nat) : Int)]) (KeepBs B0 Bs) (fun ys => ys.map (·.val) = slotsOf s 256) (fun _ => True) 256 w := fun lp J Jx W hW hJ _ hY h0 =>
  all_in n hn lp Bs B0 s hs J Jx hY W ((hW.block Bs hBsl).trans hBs) (fun W' h => tz_walk (tabAt_below hT hB ((hW.mono hB0).trans h))) h0
end Go.Proofs.YtkdnbnkbnegckaaDoor
namespace Go.Proofs.YtkdnbnkbnegckaaDoor
open Go.RowKit Go.Shelf
theorem wpIn_draws {F : Fence} {n : Nat} {P : Program} {l : List Oper} {Q : Exit → Act → World → Prop} {id : Nat} {a : Act} {w : World} (hm : P.follows .mixedOrders = true)
    (h : wpAnyIn F n P .any l.toArray Q l.length (Array.replicate l.length false) a w.drew) : (Code.region id l.toArray true).wpIn F n P Q a w := wpIn_region_any hm h
theorem doIn_op {F : Fence} {n : Nat} {P : Program} {md : Region.Mode} {Q : Exit → Act → World → Prop} {l : List Oper} (i : Nat) {o : Oper} {fuel : Nat} {listed : Array Bool} {a : Act} {w : World} (hi : l[i]? = some o) (hg : o.guard = none) (hr : Region.ready md l.toArray listed = [i])
    (h : ∀ K' : Act → World → Prop, Shut (∀ a w, wpAnyIn F n P md l.toArray Q fuel (listed.setIfInBounds i true) a w → K' a w) → Oper.wpIn F n P o a w K' Q) :
    wpAnyIn F n P md l.toArray Q (fuel + 1) listed a w :=
  wpAnyIn_ready hr (by simp) (AllReadyIn.cons (by simpa using hi) (fun K hK => by simp only [Region.wanted, hg, if_true]; exact h K hK) AllReadyIn.nil)
theorem doIn_op2 {F : Fence} {n : Nat} {P : Program} {md : Region.Mode} {Q : Exit → Act → World → Prop} {l : List Oper} (i j : Nat) {o o' : Oper} {fuel : Nat} {listed : Array Bool} {a : Act} {w : World} (hi : l[i]? = some o) (hj : l[j]? = some o') (hg : o.guard = none) (hg' : o'.guard = none) (hr : Region.ready md l.toArray listed = [i, j])
    (h : ∀ K' : Act → World → Prop, Shut (∀ a w, wpAnyIn F n P md l.toArray Q fuel (listed.setIfInBounds i true) a w → K' a w) → Oper.wpIn F n P o a w K' Q)
    (h' : ∀ K' : Act → World → Prop, Shut (∀ a w, wpAnyIn F n P md l.toArray Q fuel (listed.setIfInBounds j true) a w → K' a w) → Oper.wpIn F n P o' a w K' Q) :
    wpAnyIn F n P md l.toArray Q (fuel + 1) listed a w :=
  wpAnyIn_ready hr (by simp) (AllReadyIn.cons (by simpa using hi) (fun K hK => by simp only [Region.wanted, hg, if_true]; exact h K hK) (AllReadyIn.cons (by simpa using hj) (fun K hK => by simp only [Region.wanted, hg', if_true]; exact h' K hK) AllReadyIn.nil))
end Go.Proofs.YtkdnbnkbnegckaaDoor
