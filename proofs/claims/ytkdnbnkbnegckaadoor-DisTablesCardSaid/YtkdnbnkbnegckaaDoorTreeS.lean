/- Inline trees: the reference's Right. -/
import Derived.Test.YtkdnbnkbnegckaaDoorTreeU
namespace Go.Proofs.YtkdnbnkbnegckaaDoor
open Go.RowKit

theorem rightTree_head {l : List NodeT} (h : rightTree l = true) : 0 < l.length ∧ l.length ≤ 120 := by
  simp only [rightTree, Bool.and_eq_true, decide_eq_true_eq] at h
  exact h.1

set_option maxHeartbeats 4000000 in
set_option maxRecDepth 20000 in
theorem treeref_Right (ao : Option Addr) (cap : Nat) (l : List NodeT) (w : World) (hc : Cells w ao (l.flatMap nodeC)) (hl : l.length ≤ 17592186044416) :
    Calls Tryd.prog 42 #[.slice ao l.length cap] w fun e w' => e = .returned (.bool (rightTree l)) ∧ Ext w w' := by
  by_cases hs : l.length < 1 ∨ 120 < l.length
  · have HR : Hid (rightTree l = false) := by
      rw [Hid, ← Bool.not_eq_true]; intro h; have := rightTree_head h; omega
    clear hc
    rcases hs with h | h
    · have t1 : decide ((l.length : Int) < 1) = true := decide_eq_true (by omega)
      have t2 : decide (l.length < 1) = true := decide_eq_true (by omega)
      clear h
      go_enter Tryd.func42, Tryd.ntmps42
      go_wp2_with fail
      go_ret
      exact ⟨by rw [HR.out] <;> rfl, Ext.rf _⟩
    · have t1 : decide ((l.length : Int) < 1) = false := decide_eq_false (by omega)
      have t3 : decide ((120 : Int) < l.length) = true := decide_eq_true (by omega)
      go_enter Tryd.func42, Tryd.ntmps42
      go_wp2_with fail
      go_ret
      exact ⟨by rw [HR.out] <;> rfl, Ext.rf _⟩
  have hs1 : 1 ≤ l.length := by omega
  have hs2 : l.length ≤ 120 := by omega
  have t1 : decide ((l.length : Int) < 1) = false := decide_eq_false (by omega)
  have t3 : decide ((120 : Int) < l.length) = false := decide_eq_false (by omega)
  clear hs
  go_enter Tryd.func42, Tryd.ntmps42
  go_wp2_with fail
  go_loopw [3, 4] (fun t i wr => ∃ k : Nat, k ≤ l.length ∧ i = .int .i64 k ∧ t = .int .i64 (toAt l k) ∧ Ext w wr ∧ Hid (∀ j < k, mayAt l j = true) ∧ 0 ≤ toAt l k ∧ toAt l k ≤ 256)
    (fun _ i _ => l.length - (intOf i).toNat)
  case atStart => exact ⟨0, Nat.zero_le _, rfl, rfl, Ext.rf w, Lib.hid (by intro j hj; omega), by simp [toAt], by simp [toAt]⟩
  case round =>
    obtain ⟨k, hk, rfl, rfl, hext, hall, hto1, hto2⟩ := hrel
    by_cases hlt : k < l.length
    · obtain ⟨b, off, rfl, hcl⟩ := (hc.ext hext).flat (enc := nodeC) (size := 7) (fun _ => rfl) hlt (by decide)
      have HP : Hid (l[k]? = some l[k]) := List.getElem?_eq_getElem hlt
      have i1 : (0 : Int) ≤ k := by omega
      have i2 : (k : Int) < l.length := by omega
      generalize l[k] = x at *
      have e0 : wr.cell? ⟨b, off + k * 7, none⟩ = some (.int .i64 x.par) := by exact hcl 0 _ rfl
      have e1 : wr.cell? ⟨b, off + k * 7 + 1, none⟩ = some (.int .i64 x.fn) := by rw [Nat.add_assoc]; exact hcl 1 _ rfl
      have e2 : wr.cell? ⟨b, off + k * 7 + 2, none⟩ = some (.int .i64 x.line) := by rw [Nat.add_assoc]; exact hcl 2 _ rfl
      have e3 : wr.cell? ⟨b, off + k * 7 + 3, none⟩ = some (.int .i64 x.frm) := by rw [Nat.add_assoc]; exact hcl 3 _ rfl
      have e4 : wr.cell? ⟨b, off + k * 7 + 4, none⟩ = some (.int .i64 x.args) := by rw [Nat.add_assoc]; exact hcl 4 _ rfl
      have e5 : wr.cell? ⟨b, off + k * 7 + 5, none⟩ = some (.int .i64 x.upto) := by rw [Nat.add_assoc]; exact hcl 5 _ rfl
      have e6 : wr.cell? ⟨b, off + k * 7 + 6, none⟩ = some (.int .i64 x.res) := by rw [Nat.add_assoc]; exact hcl 6 _ rfl
      clear hcl
      have HTO : Hid (toAt l (k + 1) = x.upto) := toAt_succ HP.out
      have HM : Hid (mayAt l k = mayNode x k (toAt l k)) := mayAt_some HP.out
      generalize toAt l k = bt at *
      go_upto_region 8 with fail
      obtain ⟨hx0, hz0, hcA⟩ := one_box wr ([.int .i64 x.par, .int .i64 x.fn, .int .i64 x.line, .int .i64 x.frm, .int .i64 x.args, .int .i64 x.upto, .int .i64 x.res] : List Value) 86
      generalize hW1 : wr.alloc (.cells ([.int .i64 x.par, .int .i64 x.fn, .int .i64 x.line, .int .i64 x.frm, .int .i64 x.args, .int .i64 x.upto, .int .i64 x.res] : List Value).toArray 86) = W1 at *
      clear hW1
      have c0 : W1.cell? ⟨wr.heap.size, 0, none⟩ = some (.int .i64 x.par) := by have := hcA.cell _ _ rfl 0 _ rfl; rwa [Nat.zero_add] at this
      have c1 : W1.cell? ⟨wr.heap.size, 1, none⟩ = some (.int .i64 x.fn) := by have := hcA.cell _ _ rfl 1 _ rfl; rwa [Nat.zero_add] at this
      have c2 : W1.cell? ⟨wr.heap.size, 2, none⟩ = some (.int .i64 x.line) := by have := hcA.cell _ _ rfl 2 _ rfl; rwa [Nat.zero_add] at this
      have c3 : W1.cell? ⟨wr.heap.size, 3, none⟩ = some (.int .i64 x.frm) := by have := hcA.cell _ _ rfl 3 _ rfl; rwa [Nat.zero_add] at this
      have c4 : W1.cell? ⟨wr.heap.size, 4, none⟩ = some (.int .i64 x.args) := by have := hcA.cell _ _ rfl 4 _ rfl; rwa [Nat.zero_add] at this
      have c5 : W1.cell? ⟨wr.heap.size, 5, none⟩ = some (.int .i64 x.upto) := by have := hcA.cell _ _ rfl 5 _ rfl; rwa [Nat.zero_add] at this
      have c6 : W1.cell? ⟨wr.heap.size, 6, none⟩ = some (.int .i64 x.res) := by have := hcA.cell _ _ rfl 6 _ rfl; rwa [Nat.zero_add] at this
      clear hcA
      clear e0 e1 e2 e3 e4 e5 e6
      have HX0 := Lib.hid (hext.tr hx0)
      clear hx0 hext
      rcases Bool.eq_false_or_eq_true (decide (x.fn < 0)) with hd0 | hd0
      · skip
        have HR : Hid (rightTree l = false) := rightTree_not hlt (HM.out.trans (by
          rw [← Bool.not_eq_true, mayNode_iff]
          simp only [decide_eq_true_eq, decide_eq_false_iff_not, beq_iff_eq, beq_eq_false_iff_ne] at hd0
          omega))
        go_wp2_with fail
        go_ret
        exact ⟨by rw [HR.out] <;> rfl, HX0.out⟩
      · skip
        rcases Bool.eq_false_or_eq_true (decide (39 < x.fn)) with hd1 | hd1
        · skip
          have HR : Hid (rightTree l = false) := rightTree_not hlt (HM.out.trans (by
            rw [← Bool.not_eq_true, mayNode_iff]
            simp only [decide_eq_true_eq, decide_eq_false_iff_not, beq_iff_eq, beq_eq_false_iff_ne] at hd0 hd1
            omega))
          go_wp2_with fail
          go_ret
          exact ⟨by rw [HR.out] <;> rfl, HX0.out⟩
        · skip
          rcases Bool.eq_false_or_eq_true (decide (x.line < 0)) with hd2 | hd2
          · skip
            have HR : Hid (rightTree l = false) := rightTree_not hlt (HM.out.trans (by
              rw [← Bool.not_eq_true, mayNode_iff]
              simp only [decide_eq_true_eq, decide_eq_false_iff_not, beq_iff_eq, beq_eq_false_iff_ne] at hd0 hd1 hd2
              omega))
            go_wp2_with fail
            go_ret
            exact ⟨by rw [HR.out] <;> rfl, HX0.out⟩
          · skip
            rcases Bool.eq_false_or_eq_true (decide (65535 < x.line)) with hd3 | hd3
            · skip
              have HR : Hid (rightTree l = false) := rightTree_not hlt (HM.out.trans (by
                rw [← Bool.not_eq_true, mayNode_iff]
                simp only [decide_eq_true_eq, decide_eq_false_iff_not, beq_iff_eq, beq_eq_false_iff_ne] at hd0 hd1 hd2 hd3
                omega))
              go_wp2_with fail
              go_ret
              exact ⟨by rw [HR.out] <;> rfl, HX0.out⟩
            · skip
              rcases Bool.eq_false_or_eq_true (decide (x.args < 0)) with hd4 | hd4
              · skip
                have HR : Hid (rightTree l = false) := rightTree_not hlt (HM.out.trans (by
                  rw [← Bool.not_eq_true, mayNode_iff]
                  simp only [decide_eq_true_eq, decide_eq_false_iff_not, beq_iff_eq, beq_eq_false_iff_ne] at hd0 hd1 hd2 hd3 hd4
                  omega))
                go_wp2_with fail
                go_ret
                exact ⟨by rw [HR.out] <;> rfl, HX0.out⟩
              · skip
                rcases Bool.eq_false_or_eq_true (decide (8 < x.args)) with hd5 | hd5
                · skip
                  have HR : Hid (rightTree l = false) := rightTree_not hlt (HM.out.trans (by
                    rw [← Bool.not_eq_true, mayNode_iff]
                    simp only [decide_eq_true_eq, decide_eq_false_iff_not, beq_iff_eq, beq_eq_false_iff_ne] at hd0 hd1 hd2 hd3 hd4 hd5
                    omega))
                  go_wp2_with fail
                  go_ret
                  exact ⟨by rw [HR.out] <;> rfl, HX0.out⟩
                · skip
                  rcases Bool.eq_false_or_eq_true (decide (x.frm < bt)) with hd6 | hd6
                  · skip
                    have HR : Hid (rightTree l = false) := rightTree_not hlt (HM.out.trans (by
                      rw [← Bool.not_eq_true, mayNode_iff]
                      simp only [decide_eq_true_eq, decide_eq_false_iff_not, beq_iff_eq, beq_eq_false_iff_ne] at hd0 hd1 hd2 hd3 hd4 hd5 hd6
                      omega))
                    go_wp2_with fail
                    go_ret
                    exact ⟨by rw [HR.out] <;> rfl, HX0.out⟩
                  · skip
                    rcases Bool.eq_false_or_eq_true (decide (256 < x.frm)) with hd7 | hd7
                    · skip
                      have HR : Hid (rightTree l = false) := rightTree_not hlt (HM.out.trans (by
                        rw [← Bool.not_eq_true, mayNode_iff]
                        simp only [decide_eq_true_eq, decide_eq_false_iff_not, beq_iff_eq, beq_eq_false_iff_ne] at hd0 hd1 hd2 hd3 hd4 hd5 hd6 hd7
                        omega))
                      go_wp2_with fail
                      go_ret
                      exact ⟨by rw [HR.out] <;> rfl, HX0.out⟩
                    · skip
                      rcases Bool.eq_false_or_eq_true (decide (x.upto < x.frm)) with hd8 | hd8
                      · skip
                        have HR : Hid (rightTree l = false) := rightTree_not hlt (HM.out.trans (by
                          rw [← Bool.not_eq_true, mayNode_iff]
                          simp only [decide_eq_true_eq, decide_eq_false_iff_not, beq_iff_eq, beq_eq_false_iff_ne] at hd0 hd1 hd2 hd3 hd4 hd5 hd6 hd7 hd8
                          omega))
                        go_wp2_with fail
                        go_ret
                        exact ⟨by rw [HR.out] <;> rfl, HX0.out⟩
                      · skip
                        rcases Bool.eq_false_or_eq_true (decide (256 < x.upto)) with hd9 | hd9
                        · skip
                          have HR : Hid (rightTree l = false) := rightTree_not hlt (HM.out.trans (by
                            rw [← Bool.not_eq_true, mayNode_iff]
                            simp only [decide_eq_true_eq, decide_eq_false_iff_not, beq_iff_eq, beq_eq_false_iff_ne] at hd0 hd1 hd2 hd3 hd4 hd5 hd6 hd7 hd8 hd9
                            omega))
                          go_wp2_with fail
                          go_ret
                          exact ⟨by rw [HR.out] <;> rfl, HX0.out⟩
                        · skip
                          have hs3 : 0 ≤ x.upto - x.frm ∧ x.upto - x.frm ≤ 256 := by
                            simp only [decide_eq_true_eq, decide_eq_false_iff_not] at hd6 hd7 hd8 hd9
                            omega
                          obtain ⟨hs3, hs4⟩ := hs3
                          rcases Bool.eq_false_or_eq_true (decide (x.upto - x.frm < x.args)) with hd10 | hd10
                          · skip
                            have HR : Hid (rightTree l = false) := rightTree_not hlt (HM.out.trans (by
                              rw [← Bool.not_eq_true, mayNode_iff]
                              simp only [decide_eq_true_eq, decide_eq_false_iff_not, beq_iff_eq, beq_eq_false_iff_ne] at hd0 hd1 hd2 hd3 hd4 hd5 hd6 hd7 hd8 hd9 hd10
                              omega))
                            go_wp2_with fail
                            go_ret
                            exact ⟨by rw [HR.out] <;> rfl, HX0.out⟩
                          · skip
                            by_cases hk0 : k = 0
                            · have z1 : ((k : Int) == 0) = true := beq_iff_eq.2 (by omega)
                              have z2 : decide ((0 : Int) < k) = false := decide_eq_false (by omega)
                              have z3 : (k == 0) = true := beq_iff_eq.2 hk0
                              have z4 : decide (0 < k) = false := decide_eq_false (by omega)
                              rcases Bool.eq_false_or_eq_true (x.par == -1) with hd20 | hd20
                              · skip
                                have hm20 : (x.par != -1) = false := by rw [bne, hd20]; rfl
                                rcases Bool.eq_false_or_eq_true (x.line == 0) with hd21 | hd21
                                · skip
                                  have hm21 : (x.line != 0) = false := by rw [bne, hd21]; rfl
                                  rcases Bool.eq_false_or_eq_true (x.frm == 0) with hd22 | hd22
                                  · skip
                                    have hm22 : (x.frm != 0) = false := by rw [bne, hd22]; rfl
                                    rcases Bool.eq_false_or_eq_true (x.res == 0) with hd23 | hd23
                                    · skip
                                      have hm23 : (x.res != 0) = false := by rw [bne, hd23]; rfl
                                      have HY : Hid (mayNode x k bt = true) := by
                                        rw [Hid, mayNode_iff]
                                        simp only [decide_eq_true_eq, decide_eq_false_iff_not, beq_iff_eq, beq_eq_false_iff_ne] at hd0 hd1 hd2 hd3 hd4 hd5 hd6 hd7 hd8 hd9 hd10 hd20 hd21 hd22 hd23
                                        omega
                                      have hi := (mayNode_iff x k bt).1 HY.out
                                      have hi1 : 0 ≤ x.upto ∧ x.upto ≤ 256 := by omega
                                      have HALL : Hid (∀ j < k + 1, mayAt l j = true) := fun j hj => by
                                        rcases Nat.lt_succ_iff_lt_or_eq.1 hj with h | rfl
                                        · exact hall.out j h
                                        · rw [HM.out, HY.out]
                                      obtain ⟨hi2, hi3⟩ := hi1
                                      clear hi
                                      go_wp2_with fail
                                      go_roundw
                                      case rel => exact ⟨k + 1, by omega, by go_num, by rw [HTO.out], HX0.out, HALL, by rw [HTO.out]; exact hi2, by rw [HTO.out]; exact hi3⟩
                                      case measure => simp [intOf]; omega
                                    · skip
                                      have hm23 : (x.res != 0) = true := by rw [bne, hd23]; rfl
                                      have HR : Hid (rightTree l = false) := rightTree_not hlt (HM.out.trans (by
                                        rw [← Bool.not_eq_true, mayNode_iff]
                                        simp only [decide_eq_true_eq, decide_eq_false_iff_not, beq_iff_eq, beq_eq_false_iff_ne] at hd0 hd1 hd2 hd3 hd4 hd5 hd6 hd7 hd8 hd9 hd10 hd20 hd21 hd22 hd23
                                        omega))
                                      go_wp2_with fail
                                      go_ret
                                      exact ⟨by rw [HR.out] <;> rfl, HX0.out⟩
                                  · skip
                                    have hm22 : (x.frm != 0) = true := by rw [bne, hd22]; rfl
                                    have HR : Hid (rightTree l = false) := rightTree_not hlt (HM.out.trans (by
                                      rw [← Bool.not_eq_true, mayNode_iff]
                                      simp only [decide_eq_true_eq, decide_eq_false_iff_not, beq_iff_eq, beq_eq_false_iff_ne] at hd0 hd1 hd2 hd3 hd4 hd5 hd6 hd7 hd8 hd9 hd10 hd20 hd21 hd22
                                      omega))
                                    go_wp2_with fail
                                    go_ret
                                    exact ⟨by rw [HR.out] <;> rfl, HX0.out⟩
                                · skip
                                  have hm21 : (x.line != 0) = true := by rw [bne, hd21]; rfl
                                  have HR : Hid (rightTree l = false) := rightTree_not hlt (HM.out.trans (by
                                    rw [← Bool.not_eq_true, mayNode_iff]
                                    simp only [decide_eq_true_eq, decide_eq_false_iff_not, beq_iff_eq, beq_eq_false_iff_ne] at hd0 hd1 hd2 hd3 hd4 hd5 hd6 hd7 hd8 hd9 hd10 hd20 hd21
                                    omega))
                                  go_wp2_with fail
                                  go_ret
                                  exact ⟨by rw [HR.out] <;> rfl, HX0.out⟩
                              · skip
                                have hm20 : (x.par != -1) = true := by rw [bne, hd20]; rfl
                                have HR : Hid (rightTree l = false) := rightTree_not hlt (HM.out.trans (by
                                  rw [← Bool.not_eq_true, mayNode_iff]
                                  simp only [decide_eq_true_eq, decide_eq_false_iff_not, beq_iff_eq, beq_eq_false_iff_ne] at hd0 hd1 hd2 hd3 hd4 hd5 hd6 hd7 hd8 hd9 hd10 hd20
                                  omega))
                                go_wp2_with fail
                                go_ret
                                exact ⟨by rw [HR.out] <;> rfl, HX0.out⟩
                            · have z1 : ((k : Int) == 0) = false := beq_eq_false_iff_ne.2 (by omega)
                              have z2 : decide ((0 : Int) < k) = true := decide_eq_true (by omega)
                              have z3 : (k == 0) = false := beq_eq_false_iff_ne.2 hk0
                              have z4 : decide (0 < k) = true := decide_eq_true (by omega)
                              rcases Bool.eq_false_or_eq_true (decide (x.par < 0)) with hd30 | hd30
                              · skip
                                have HR : Hid (rightTree l = false) := rightTree_not hlt (HM.out.trans (by
                                  rw [← Bool.not_eq_true, mayNode_iff]
                                  simp only [decide_eq_true_eq, decide_eq_false_iff_not, beq_iff_eq, beq_eq_false_iff_ne] at hd0 hd1 hd2 hd3 hd4 hd5 hd6 hd7 hd8 hd9 hd10 hd30
                                  omega))
                                go_wp2_with fail
                                go_ret
                                exact ⟨by rw [HR.out] <;> rfl, HX0.out⟩
                              · skip
                                rcases Bool.eq_false_or_eq_true (decide ((k : Int) ≤ x.par)) with hd31 | hd31
                                · skip
                                  have HR : Hid (rightTree l = false) := rightTree_not hlt (HM.out.trans (by
                                    rw [← Bool.not_eq_true, mayNode_iff]
                                    simp only [decide_eq_true_eq, decide_eq_false_iff_not, beq_iff_eq, beq_eq_false_iff_ne] at hd0 hd1 hd2 hd3 hd4 hd5 hd6 hd7 hd8 hd9 hd10 hd30 hd31
                                    omega))
                                  go_wp2_with fail
                                  go_ret
                                  exact ⟨by rw [HR.out] <;> rfl, HX0.out⟩
                                · skip
                                  rcases Bool.eq_false_or_eq_true (decide (x.res < 1)) with hd32 | hd32
                                  · skip
                                    have HR : Hid (rightTree l = false) := rightTree_not hlt (HM.out.trans (by
                                      rw [← Bool.not_eq_true, mayNode_iff]
                                      simp only [decide_eq_true_eq, decide_eq_false_iff_not, beq_iff_eq, beq_eq_false_iff_ne] at hd0 hd1 hd2 hd3 hd4 hd5 hd6 hd7 hd8 hd9 hd10 hd30 hd31 hd32
                                      omega))
                                    go_wp2_with fail
                                    go_ret
                                    exact ⟨by rw [HR.out] <;> rfl, HX0.out⟩
                                  · skip
                                    rcases Bool.eq_false_or_eq_true (decide (1999 < x.res)) with hd33 | hd33
                                    · skip
                                      have HR : Hid (rightTree l = false) := rightTree_not hlt (HM.out.trans (by
                                        rw [← Bool.not_eq_true, mayNode_iff]
                                        simp only [decide_eq_true_eq, decide_eq_false_iff_not, beq_iff_eq, beq_eq_false_iff_ne] at hd0 hd1 hd2 hd3 hd4 hd5 hd6 hd7 hd8 hd9 hd10 hd30 hd31 hd32 hd33
                                        omega))
                                      go_wp2_with fail
                                      go_ret
                                      exact ⟨by rw [HR.out] <;> rfl, HX0.out⟩
                                    · skip
                                      have HY : Hid (mayNode x k bt = true) := by
                                        rw [Hid, mayNode_iff]
                                        simp only [decide_eq_true_eq, decide_eq_false_iff_not, beq_iff_eq, beq_eq_false_iff_ne] at hd0 hd1 hd2 hd3 hd4 hd5 hd6 hd7 hd8 hd9 hd10 hd30 hd31 hd32 hd33
                                        omega
                                      have hi := (mayNode_iff x k bt).1 HY.out
                                      have hi1 : 0 ≤ x.upto ∧ x.upto ≤ 256 := by omega
                                      have HALL : Hid (∀ j < k + 1, mayAt l j = true) := fun j hj => by
                                        rcases Nat.lt_succ_iff_lt_or_eq.1 hj with h | rfl
                                        · exact hall.out j h
                                        · rw [HM.out, HY.out]
                                      obtain ⟨hi2, hi3⟩ := hi1
                                      clear hi
                                      go_wp2_with fail
                                      go_roundw
                                      case rel => exact ⟨k + 1, by omega, by go_num, by rw [HTO.out], HX0.out, HALL, by rw [HTO.out]; exact hi2, by rw [HTO.out]; exact hi3⟩
                                      case measure => simp [intOf]; omega
    · obtain rfl : k = l.length := by omega
      have HR := Lib.hid (rightTree_yes hs1 hs2 hall.out)
      go_wp2_with fail
      go_ret
      exact ⟨by rw [HR.out] <;> rfl, hext⟩
end Go.Proofs.YtkdnbnkbnegckaaDoor
