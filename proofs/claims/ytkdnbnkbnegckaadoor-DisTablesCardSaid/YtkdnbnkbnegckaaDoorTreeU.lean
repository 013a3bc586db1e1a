/- Whether two slices of structs, or of arrays, are the same: slices.Equal and the references' loops. Whether two slices of ints are the same: slices.Equal and the references' loops. Whether two functions are the same: fnc.Same. Functions: how many slots they have, whether they have tables, whether their types may be. Inline trees: whether they may be. Inline trees: tree.Right. Inline trees: a node, its parent, and so on. -/
import Derived.Test.YtkdnbnkbnegckaaDoorSigP
import Derived.Test.YtkdnbnkbnegckaaDoorStructQ
import Derived.Test.YtkdnbnkbnegckaaDoorInstr
import Derived.Deep.DeepCutAuto
namespace Go.Proofs.YtkdnbnkbnegckaaDoor
open Go.RowKit
end Go.Proofs.YtkdnbnkbnegckaaDoor
namespace Go.Proofs.YtkdnbnkbnegckaaDoor
open Go.RowKit
end Go.Proofs.YtkdnbnkbnegckaaDoor
namespace Go.Proofs.YtkdnbnkbnegckaaDoor
open Go.RowKit

theorem bcell {W w1 : World} (hb : Ext W w1) : ∀ b o, b < W.heap.size → w1.cell? ⟨b, o, none⟩ = W.cell? ⟨b, o, none⟩ :=
  fun b o h => hb.cell (p := ⟨b, o, none⟩) h

end Go.Proofs.YtkdnbnkbnegckaaDoor
namespace Go.Proofs.YtkdnbnkbnegckaaDoor
open Go.RowKit

theorem one_box (w : World) (cs : List Value) (t : TypeId) :
    Ext w (w.alloc (.cells cs.toArray t)) ∧ w.heap.size < (w.alloc (.cells cs.toArray t)).heap.size ∧ Cells (w.alloc (.cells cs.toArray t)) (some ⟨w.heap.size, 0, none⟩) cs :=
  ⟨(Ext.rf w).al _, by simp, cells_new w cs t _ rfl⟩

end Go.Proofs.YtkdnbnkbnegckaaDoor
namespace Go.Proofs.YtkdnbnkbnegckaaDoor
open Go.RowKit

def within (n lo hi : Int) : Bool := decide (lo ≤ n) && decide (n ≤ hi)
def headNode (n : NodeT) : Bool := decide (n = ⟨-1, n.fn, 0, 0, n.args, n.upto, 0⟩)
def mayNode (n : NodeT) (i : Nat) (bt : Int) : Bool :=
  within n.fn 0 39 && (within n.line 0 65535 && (within n.args 0 8 && (within n.frm bt 256 && (within n.upto (n.frm + n.args) 256 && (bif i == 0 then headNode n else within n.par 0 ((i : Int) - 1) && within n.res 1 1999)))))
def toAt (l : List NodeT) (k : Nat) : Int := if k = 0 then 0 else (l[k - 1]?.map (·.upto)).getD 0
def mayAt (l : List NodeT) (k : Nat) : Bool := match l[k]? with
  | some n => mayNode n k (toAt l k)
  | none => true
def rightTree (l : List NodeT) : Bool := decide (0 < l.length) && decide (l.length ≤ 120) && (List.range l.length).all (mayAt l)

end Go.Proofs.YtkdnbnkbnegckaaDoor
namespace Go.Proofs.YtkdnbnkbnegckaaDoor
open Go.RowKit

theorem mayNode_iff (n : NodeT) (k : Nat) (bt : Int) : mayNode n k bt = true ↔ (0 ≤ n.fn ∧ n.fn ≤ 39) ∧ (0 ≤ n.line ∧ n.line ≤ 65535) ∧ (0 ≤ n.args ∧ n.args ≤ 8) ∧ (bt ≤ n.frm ∧ n.frm ≤ 256) ∧ (n.frm + n.args ≤ n.upto ∧ n.upto ≤ 256) ∧
    ((k = 0 ∧ n.par = -1 ∧ n.line = 0 ∧ n.frm = 0 ∧ n.res = 0) ∨ (k ≠ 0 ∧ 0 ≤ n.par ∧ n.par < k ∧ 1 ≤ n.res ∧ n.res ≤ 1999)) := by
  simp only [mayNode, within, Bool.and_eq_true, decide_eq_true_eq]
  by_cases hk : k = 0
  · subst hk
    simp only [beq_self_eq_true, cond_true, headNode, decide_eq_true_eq]
    cases n
    simp only [NodeT.mk.injEq, true_and, and_true, ne_eq, not_true_eq_false, false_and, or_false]
    all_goals (constructor <;> (intro h; omega))
  · have : (k == 0) = false := beq_eq_false_iff_ne.2 hk
    simp only [this, cond_false, within, Bool.and_eq_true, decide_eq_true_eq, hk, false_and, false_or, ne_eq, not_false_eq_true, true_and]
    constructor <;> (intro h; omega)

theorem toAt_succ {l : List NodeT} {k : Nat} {x : NodeT} (h : l[k]? = some x) : toAt l (k + 1) = x.upto := by
  simp [toAt, h]
theorem mayAt_some {l : List NodeT} {k : Nat} {x : NodeT} (h : l[k]? = some x) : mayAt l k = mayNode x k (toAt l k) := by
  simp [mayAt, h]
theorem rightTree_not {l : List NodeT} {k : Nat} (hk : k < l.length) (h : mayAt l k = false) : rightTree l = false := by
  rw [rightTree, Bool.and_eq_false_iff]
  right
  rw [← Bool.not_eq_true, List.all_eq_true]
  intro q
  have := q k (by simpa using hk)
  rw [h] at this; cases this
theorem rightTree_yes {l : List NodeT} (h0 : 0 < l.length) (h1 : l.length ≤ 120) (h : ∀ j < l.length, mayAt l j = true) : rightTree l = true := by
  rw [rightTree, decide_eq_true h0, decide_eq_true h1]
  simp only [Bool.true_and, List.all_eq_true, List.mem_range]
  exact h
end Go.Proofs.YtkdnbnkbnegckaaDoor
namespace Go.Proofs.YtkdnbnkbnegckaaDoor
open Go.RowKit

def isNode (l : List NodeT) (n : Int) : Bool := decide (0 ≤ n) && decide (n < l.length)
def parOf (l : List NodeT) (n : Int) : Int := ((l[n.toNat]?).map (·.par)).getD 0
def upF (l : List NodeT) : Nat → Int → List Int
  | 0, _ => []
  | f + 1, n => bif isNode l n then n :: upF l f (parOf l n) else []
theorem upF_yes {l : List NodeT} {f : Nat} {n : Int} (h : isNode l n = true) : upF l (f + 1) n = n :: upF l f (parOf l n) := by simp [upF, h]
theorem upF_no {l : List NodeT} {f : Nat} {n : Int} (h : isNode l n = false) : upF l f n = [] := by cases f <;> simp [upF, h]
theorem isNode_of {l : List NodeT} {n : Int} (h : isNode l n = true) : ∃ k : Nat, n = k ∧ k < l.length := by
  simp only [isNode, Bool.and_eq_true, decide_eq_true_eq] at h
  exact ⟨n.toNat, by omega, by omega⟩
theorem parOf_nat {l : List NodeT} {k : Nat} (h : k < l.length) : parOf l k = l[k].par := by simp [parOf, h]
theorem upF_len (l : List NodeT) (f : Nat) : ∀ n, (upF l f n).length ≤ f := by
  induction f with
  | zero => intro n; simp [upF]
  | succ f ih => intro n; rw [upF]; cases isNode l n <;> simp [ih]

theorem tree_is (ao : Option Addr) (cap : Nat) (l : List NodeT) (n : Int) (w : World) (hl : l.length ≤ 17592186044416) :
    Calls Tryd.prog 73 #[.slice ao l.length cap, .int .i64 n] w fun e w' => e = .returned (.bool (isNode l n)) ∧ w = w' := by
  unfold isNode
  cases t1 : decide (0 ≤ n) <;> cases t2 : decide (n < (l.length : Int)) <;>
  (go_enter Tryd.func73, Tryd.ntmps73
   go_wp2
   go_ret
   exact ⟨rfl, rfl⟩)

set_option maxHeartbeats 2000000 in
set_option maxRecDepth 20000 in
theorem tree_Up (ao : Option Addr) (cap : Nat) (l : List NodeT) (n : Int) (w : World) (hc : Cells w ao (l.flatMap nodeC)) (hl : l.length ≤ 17592186044416) :
    Calls Tryd.prog 63 #[.slice ao l.length cap, .int .i64 n] w (RetSl (upF l l.length n).length ((upF l l.length n).map (.int .i64)) w) := by
  go_enter Tryd.func63, Tryd.ntmps63
  go_wp2_with fail
  go_step3
  go_wp2_with fail
  go_step3
  go_wp2_with fail
  go_loopw [1, 5, 8] (fun m u i wr => ∃ (k : Nat) (a : Int) (done : List Int), k ≤ l.length ∧ i = .int .i64 k ∧ m = .int .i64 a ∧ done.length = k ∧ Hid (upF l l.length n = done ++ upF l (l.length - k) a) ∧ wr.ownsRow w.heap.size 3 1 u k (done.map (.int .i64)) ∧ Ext w wr)
    (fun _ _ i _ => l.length - (intOf i).toNat)
  case atStart => exact ⟨0, n, [], Nat.zero_le _, rfl, rfl, rfl, Lib.hid (by simp), World.ownsRow_nil _ _ _ _, Ext.rf w⟩
  case round =>
    obtain ⟨k, a, done, hk, rfl, rfl, hdl, hup, hown, hext⟩ := hrel
    by_cases hlt : k < l.length
    · go_wp2_with fail
      refine (tree_is _ _ l a _ hl).mono ?_
      rintro e w1 ⟨rfl, rfl⟩
      cases hi : isNode l a with
      | true =>
        obtain ⟨q, rfl, hq⟩ := isNode_of hi
        obtain ⟨b, off, rfl, hcl⟩ := hc.flat (enc := nodeC) (size := 7) (fun _ => rfl) hq (by decide)
        have HP := Lib.hid (parOf_nat hq)
        have HU : Hid (upF l (l.length - k) q = (q : Int) :: upF l (l.length - (k + 1)) (parOf l q)) := by
          rw [Hid, show l.length - k = (l.length - (k + 1)) + 1 by omega, upF_yes hi]
        have e0 := Lib.hid (show w.cell? ⟨b, off + q * 7, none⟩ = some (.int .i64 l[q].par) from hcl 0 _ rfl)
        have j1 : (0 : Int) ≤ q := by omega
        have j2 : (q : Int) < l.length := by omega
        clear hcl hi
        generalize l[q] = x at *
        go_wp2_with (at_builtin; (refine wpList_push rfl (.tmp 14) (.tmp 16) 24 rfl w.heap.size 3 3 (.int .i64 0) 1 8 Tryd.underlying24 (by kernel_rfl) rfl (by decide) _ k _ [.int .i64 q] rfl hown _ rfl (by simp) rfl (by simp [Value.oneCell']) (by unfold maxLen; omega) (by omega) hext.size ?_; intro v' w1 hown1 hgr; have hext1 := hext.push hown (Nat.le_refl _) hgr; have e1 := hext1.has e0.out; clear hgr hown hext))
        go_roundw
        case rel => exact ⟨k + 1, x.par, done ++ [(q : Int)], by omega, by go_num, by go_num, by simp [hdl], by rw [Hid, hup.out, HU.out, HP.out]; simp, by simpa using hown1, hext1⟩
        case measure => simp [intOf]; omega
      | false =>
        have HU : Hid (upF l l.length n = done) := by rw [Hid, hup.out, upF_no hi, List.append_nil]
        clear hi
        obtain ⟨ro, rc, rfl, hc', hf'⟩ := own_cells hown
        clear hown
        go_wp2_with fail
        try rw [Exit.noGoto_ret]
        go_ret
        exact ⟨ro, rc, by rw [HU.out, hdl] <;> rfl, by rw [HU.out]; exact hc', hext, hf'⟩
    · obtain rfl : k = l.length := by omega
      have HU : Hid (upF l l.length n = done) := by rw [Hid, hup.out, Nat.sub_self]; simp [upF]
      obtain ⟨ro, rc, rfl, hc', hf'⟩ := own_cells hown
      clear hown
      go_wp2_with fail
      try rw [Exit.noGoto_ret]
      go_ret
      exact ⟨ro, rc, by rw [HU.out, hdl] <;> rfl, by rw [HU.out]; exact hc', hext, hf'⟩

/-- In a tree one more step says nothing more. -/
theorem rightTree_par {l : List NodeT} (h : rightTree l = true) {k : Nat} (hk : k < l.length) : l[k].par < k := by
  simp only [rightTree, Bool.and_eq_true, List.all_eq_true, List.mem_range] at h
  have h1 := h.2 k hk
  rw [mayAt_some (List.getElem?_eq_getElem hk)] at h1
  have h2 := (mayNode_iff _ _ _).1 h1
  omega
theorem upF_more {l : List NodeT} (h : rightTree l = true) : ∀ (f : Nat) (n : Int), n < f → upF l (f + 1) n = upF l f n := by
  intro f
  induction f with
  | zero =>
    intro n hn
    have : isNode l n = false := by
      simp only [isNode, Bool.and_eq_false_iff, decide_eq_false_iff_not]; omega
    rw [upF_no this, upF_no this]
  | succ f ih =>
    intro n hn
    cases hi : isNode l n with
    | false => rw [upF_no hi, upF_no hi]
    | true =>
      obtain ⟨k, rfl, hk⟩ := isNode_of hi
      have := rightTree_par h hk
      rw [upF_yes hi, upF_yes hi, parOf_nat hk, ih _ (by omega)]
theorem upF_len1 {l : List NodeT} (h : rightTree l = true) (n : Int) : upF l (l.length + 1) n = upF l l.length n := by
  by_cases hn : n < l.length
  · exact upF_more h _ _ hn
  · have : isNode l n = false := by simp only [isNode, Bool.and_eq_false_iff, decide_eq_false_iff_not]; omega
    rw [upF_no this, upF_no this]

set_option maxHeartbeats 2000000 in
set_option maxRecDepth 20000 in
theorem treeref_Up (ao : Option Addr) (cap : Nat) (l : List NodeT) (n : Int) (w : World) (hc : Cells w ao (l.flatMap nodeC)) (hl : l.length < 17592186044416) :
    Calls Tryd.prog 50 #[.slice ao l.length cap, .int .i64 n] w (RetSl (upF l (l.length + 1) n).length ((upF l (l.length + 1) n).map (.int .i64)) w) := by
  go_enter Tryd.func50, Tryd.ntmps50
  go_wp2_with fail
  go_loopw [1, 5, 6] (fun m u i wr => ∃ (k : Nat) (a : Int) (done : List Int), k ≤ l.length + 1 ∧ i = .int .i64 k ∧ m = .int .i64 a ∧ done.length = k ∧ Hid (upF l (l.length + 1) n = done ++ upF l (l.length + 1 - k) a) ∧ wr.ownsRow w.heap.size 3 1 u k (done.map (.int .i64)) ∧ Ext w wr)
    (fun _ _ i _ => l.length + 1 - (intOf i).toNat)
  case atStart => exact ⟨0, n, [], Nat.zero_le _, rfl, rfl, rfl, Lib.hid (by simp), World.ownsRow_nil _ _ _ _, Ext.rf w⟩
  case round =>
    obtain ⟨k, a, done, hk, rfl, rfl, hdl, hup, hown, hext⟩ := hrel
    by_cases hlt : k < l.length + 1
    · have t1 : decide ((k : Int) ≤ l.length) = true := decide_eq_true (by omega)
      have t1' : decide (k ≤ l.length) = true := decide_eq_true (by omega)
      cases hi : isNode l a with
      | true =>
        obtain ⟨q, rfl, hq⟩ := isNode_of hi
        obtain ⟨b, off, rfl, hcl⟩ := hc.flat (enc := nodeC) (size := 7) (fun _ => rfl) hq (by decide)
        have HP := Lib.hid (parOf_nat hq)
        have HU : Hid (upF l (l.length + 1 - k) q = (q : Int) :: upF l (l.length + 1 - (k + 1)) (parOf l q)) := by
          rw [Hid, show l.length + 1 - k = (l.length + 1 - (k + 1)) + 1 by omega, upF_yes hi]
        have e0 := Lib.hid (show w.cell? ⟨b, off + q * 7, none⟩ = some (.int .i64 l[q].par) from hcl 0 _ rfl)
        have j1 : (0 : Int) ≤ q := by omega
        have j2 : (q : Int) < l.length := by omega
        clear hcl hi
        generalize l[q] = x at *
        go_wp2_with (at_builtin; (refine wpList_push rfl (.tmp 23) (.tmp 25) 24 rfl w.heap.size 3 3 (.int .i64 0) 1 8 Tryd.underlying24 (by kernel_rfl) rfl (by decide) _ k _ [.int .i64 q] rfl hown _ rfl (by simp) rfl (by simp [Value.oneCell']) (by unfold maxLen; omega) (by omega) hext.size ?_; intro v' w1 hown1 hgr; have hext1 := hext.push hown (Nat.le_refl _) hgr; have e1 := hext1.has e0.out; clear hgr hown hext))
        go_roundw
        case rel => exact ⟨k + 1, x.par, done ++ [(q : Int)], by omega, by go_num, by go_num, by simp [hdl], by rw [Hid, hup.out, HU.out, HP.out]; simp, by simpa using hown1, hext1⟩
        case measure => simp [intOf]; omega
      | false =>
        have HU : Hid (upF l (l.length + 1) n = done) := by rw [Hid, hup.out, upF_no hi, List.append_nil]
        obtain ⟨ro, rc, rfl, hc', hf'⟩ := own_cells hown
        clear hown
        cases t2 : decide (0 ≤ a) with
        | false =>
          clear hi
          go_wp2_with fail
          go_ret
          exact ⟨ro, rc, by rw [HU.out, hdl] <;> rfl, by rw [HU.out]; exact hc', hext, hf'⟩
        | true =>
          have t3 : decide (a < (l.length : Int)) = false := by rw [isNode, t2, Bool.true_and] at hi; exact hi
          clear hi
          go_wp2_with fail
          go_ret
          exact ⟨ro, rc, by rw [HU.out, hdl] <;> rfl, by rw [HU.out]; exact hc', hext, hf'⟩
    · obtain rfl : k = l.length + 1 := by omega
      have t1 : decide (((l.length + 1 : Nat) : Int) ≤ l.length) = false := decide_eq_false (by omega)
      have t1' : decide ((l.length : Int) + 1 ≤ l.length) = false := decide_eq_false (by omega)
      have t1'' : decide (l.length + 1 ≤ l.length) = false := decide_eq_false (by omega)
      have HU : Hid (upF l (l.length + 1) n = done) := by rw [Hid, hup.out, Nat.sub_self]; simp [upF]
      obtain ⟨ro, rc, rfl, hc', hf'⟩ := own_cells hown
      clear hown
      go_wp2_with fail
      go_ret
      exact ⟨ro, rc, by rw [HU.out, hdl] <;> rfl, by rw [HU.out]; exact hc', hext, hf'⟩
end Go.Proofs.YtkdnbnkbnegckaaDoor
