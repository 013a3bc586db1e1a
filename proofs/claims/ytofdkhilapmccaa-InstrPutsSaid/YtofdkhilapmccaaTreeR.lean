/- Inline trees: tree.Right. -/
import Derived.Test.YtofdkhilapmccaaTree
namespace Go.Proofs.Ytofdkhilapmccaa
open Go.RowKit

theorem mayNode_iff (n : NodeT) (k : Nat) (bt : Int) : mayNode n k bt = true ↔ (0 ≤ n.fn ∧ n.fn ≤ 39) ∧ (0 ≤ n.line ∧ n.line ≤ 65535) ∧ (0 ≤ n.args ∧ n.args ≤ 8) ∧ (bt ≤ n.frm ∧ n.frm ≤ 256) ∧ (n.frm + n.args ≤ n.upto ∧ n.upto ≤ 256) ∧
    ((k = 0 ∧ n.par = -1 ∧ n.line = 0 ∧ n.frm = 0 ∧ n.res = 0) ∨ (k ≠ 0 ∧ 0 ≤ n.par ∧ n.par < k ∧ 1 ≤ n.res ∧ n.res ≤ 1999)) := by
  simp only [mayNode, within, Bool.and_eq_true, decide_eq_true_eq]
  by_cases hk : k = 0
  · subst hk
    simp only [beq_self_eq_true, cond_true, headNode, decide_eq_true_eq]
    cases n
    simp only [NodeT.mk.injEq, true_and, and_true, ne_eq, not_true_eq_false, false_and, or_false]
    all_goals (constructor <;> (intro h; omega))
  · have : (k == 0) = false := beq_eq_false_iff_ne.2 hk
    simp only [this, cond_false, within, Bool.and_eq_true, decide_eq_true_eq, hk, false_and, false_or, ne_eq, not_false_eq_true, true_and]
    constructor <;> (intro h; omega)

theorem toAt_succ {l : List NodeT} {k : Nat} {x : NodeT} (h : l[k]? = some x) : toAt l (k + 1) = x.upto := by
  simp [toAt, h]
theorem mayAt_some {l : List NodeT} {k : Nat} {x : NodeT} (h : l[k]? = some x) : mayAt l k = mayNode x k (toAt l k) := by
  simp [mayAt, h]
theorem rightTree_not {l : List NodeT} {k : Nat} (hk : k < l.length) (h : mayAt l k = false) : rightTree l = false := by
  rw [rightTree, Bool.and_eq_false_iff]
  right
  rw [← Bool.not_eq_true, List.all_eq_true]
  intro q
  have := q k (by simpa using hk)
  rw [h] at this; cases this
theorem rightTree_yes {l : List NodeT} (h0 : 0 < l.length) (h1 : l.length ≤ 120) (h : ∀ j < l.length, mayAt l j = true) : rightTree l = true := by
  rw [rightTree, decide_eq_true h0, decide_eq_true h1]
  simp only [Bool.true_and, List.all_eq_true, List.mem_range]
  exact h

set_option maxHeartbeats 2000000 in
set_option maxRecDepth 20000 in
theorem tree_Right (ao : Option Addr) (cap : Nat) (l : List NodeT) (w : World) (hc : Cells w ao (l.flatMap nodeC)) (hl : l.length ≤ 17592186044416) :
    Calls Try.prog 22 #[.slice ao l.length cap] w fun e w' => e = .returned (.bool (rightTree l)) ∧ Ext w w' := by
  go_enter Try.func22, Try.ntmps22
  go_wp2_with fail
  go_loopw [3, 8] (fun t i wr => ∃ k : Nat, k ≤ l.length ∧ i = .int .i64 k ∧ t = .int .i64 (toAt l k) ∧ Ext w wr ∧ Hid (∀ j < k, mayAt l j = true) ∧ k ≤ 120 ∧ 0 ≤ toAt l k ∧ toAt l k ≤ 256)
    (fun _ i _ => l.length - (intOf i).toNat)
  case atStart => exact ⟨0, Nat.zero_le _, rfl, rfl, Ext.rf w, Lib.hid (by intro j hj; omega), by omega, by simp [toAt], by simp [toAt]⟩
  case round =>
    obtain ⟨k, hk, rfl, rfl, hext, hall, hk120, hto1, hto2⟩ := hrel
    by_cases hlt : k < l.length
    · obtain ⟨b, off, rfl, hcl⟩ := (hc.ext hext).flat (enc := nodeC) (size := 7) (fun _ => rfl) hlt (by decide)
      have HP : Hid (l[k]? = some l[k]) := List.getElem?_eq_getElem hlt
      generalize l[k] = x at *
      have e0 : wr.cell? ⟨b, off + k * 7, none⟩ = some (.int .i64 x.par) := by exact hcl 0 _ rfl
      have e1 : wr.cell? ⟨b, off + k * 7 + 1, none⟩ = some (.int .i64 x.fn) := by rw [Nat.add_assoc]; exact hcl 1 _ rfl
      have e2 : wr.cell? ⟨b, off + k * 7 + 2, none⟩ = some (.int .i64 x.line) := by rw [Nat.add_assoc]; exact hcl 2 _ rfl
      have e3 : wr.cell? ⟨b, off + k * 7 + 3, none⟩ = some (.int .i64 x.frm) := by rw [Nat.add_assoc]; exact hcl 3 _ rfl
      have e4 : wr.cell? ⟨b, off + k * 7 + 4, none⟩ = some (.int .i64 x.args) := by rw [Nat.add_assoc]; exact hcl 4 _ rfl
      have e5 : wr.cell? ⟨b, off + k * 7 + 5, none⟩ = some (.int .i64 x.upto) := by rw [Nat.add_assoc]; exact hcl 5 _ rfl
      have e6 : wr.cell? ⟨b, off + k * 7 + 6, none⟩ = some (.int .i64 x.res) := by rw [Nat.add_assoc]; exact hcl 6 _ rfl
      clear hcl
      have HTO : Hid (toAt l (k + 1) = x.upto) := toAt_succ HP.out
      have HM : Hid (mayAt l k = mayNode x k (toAt l k)) := mayAt_some HP.out
      generalize toAt l k = bt at *
      go_upto_region 5 with fail
      obtain ⟨hx0, hz0, hcA⟩ := one_box wr ([.int .i64 x.par, .int .i64 x.fn, .int .i64 x.line, .int .i64 x.frm, .int .i64 x.args, .int .i64 x.upto, .int .i64 x.res] : List Value) 87
      generalize hW1 : wr.alloc (.cells ([.int .i64 x.par, .int .i64 x.fn, .int .i64 x.line, .int .i64 x.frm, .int .i64 x.args, .int .i64 x.upto, .int .i64 x.res] : List Value).toArray 87) = W1 at *
      clear hW1
      have c0 : W1.cell? ⟨wr.heap.size, 0, none⟩ = some (.int .i64 x.par) := by have := hcA.cell _ _ rfl 0 _ rfl; rwa [Nat.zero_add] at this
      have c1 : W1.cell? ⟨wr.heap.size, 1, none⟩ = some (.int .i64 x.fn) := by have := hcA.cell _ _ rfl 1 _ rfl; rwa [Nat.zero_add] at this
      have c2 : W1.cell? ⟨wr.heap.size, 2, none⟩ = some (.int .i64 x.line) := by have := hcA.cell _ _ rfl 2 _ rfl; rwa [Nat.zero_add] at this
      have c3 : W1.cell? ⟨wr.heap.size, 3, none⟩ = some (.int .i64 x.frm) := by have := hcA.cell _ _ rfl 3 _ rfl; rwa [Nat.zero_add] at this
      have c4 : W1.cell? ⟨wr.heap.size, 4, none⟩ = some (.int .i64 x.args) := by have := hcA.cell _ _ rfl 4 _ rfl; rwa [Nat.zero_add] at this
      have c5 : W1.cell? ⟨wr.heap.size, 5, none⟩ = some (.int .i64 x.upto) := by have := hcA.cell _ _ rfl 5 _ rfl; rwa [Nat.zero_add] at this
      have c6 : W1.cell? ⟨wr.heap.size, 6, none⟩ = some (.int .i64 x.res) := by have := hcA.cell _ _ rfl 6 _ rfl; rwa [Nat.zero_add] at this
      clear hcA
      clear e0 e1 e2 e3 e4 e5 e6
      have HX0 := Lib.hid (hext.tr hx0)
      clear hx0 hext
      by_cases h120 : k < 120
      · have t1 : decide (120 ≤ (k : Int)) = false := decide_eq_false (by omega)
        go_wp2_with fail
        refine (tree_may x k bt _ (by omega) (by omega) (by omega)).mono ?_
        rintro e w1 ⟨rfl, hy⟩
        have hbz := bcell hy
        have HX1 := Lib.hid (HX0.out.tr hy)
        clear hy
        cases hd : mayNode x k bt with
        | true =>
          have hi := (mayNode_iff x k bt).1 hd
          have hi1 : 0 ≤ x.upto ∧ x.upto ≤ 256 := by omega
          have HALL : Hid (∀ j < k + 1, mayAt l j = true) := fun j hj => by
            rcases Nat.lt_succ_iff_lt_or_eq.1 hj with h | rfl
            · exact hall.out j h
            · rw [HM.out, hd]
          obtain ⟨hi2, hi3⟩ := hi1
          clear hi hd
          go_wp2_with fail
          go_roundw
          case rel => exact ⟨k + 1, by omega, by go_num, by rw [HTO.out], HX1.out, HALL, by omega, by rw [HTO.out]; exact hi2, by rw [HTO.out]; exact hi3⟩
          case measure => simp [intOf]; omega
        | false =>
          have HR := Lib.hid (rightTree_not hlt (HM.out.trans hd))
          clear hd
          go_wp2_with fail
          go_ret
          exact ⟨by rw [HR.out] <;> rfl, HX1.out⟩
      · have t1 : decide (120 ≤ (k : Int)) = true := decide_eq_true (by omega)
        have HR : Hid (rightTree l = false) := by rw [Hid, rightTree, decide_eq_false (show ¬ l.length ≤ 120 by omega)]; simp
        go_wp2_with fail
        go_ret
        exact ⟨by rw [HR.out] <;> rfl, HX0.out⟩
    · obtain rfl : k = l.length := by omega
      by_cases h0 : 0 < l.length
      · have t1 : decide ((0 : Int) < l.length) = true := decide_eq_true (by omega)
        have t2 : decide (0 < l.length) = true := decide_eq_true h0
        have HR := Lib.hid (rightTree_yes h0 hk120 hall.out)
        go_wp2_with fail
        go_ret
        exact ⟨by rw [HR.out] <;> rfl, hext⟩
      · have HR : Hid (rightTree l = false) := by rw [Hid, rightTree, decide_eq_false h0]; rfl
        have t1 : decide ((0 : Int) < l.length) = false := decide_eq_false (by omega)
        have t2 : decide (0 < l.length) = false := decide_eq_false h0
        go_wp2_with fail
        go_ret
        exact ⟨by rw [HR.out] <;> rfl, hext⟩
end Go.Proofs.Ytofdkhilapmccaa
