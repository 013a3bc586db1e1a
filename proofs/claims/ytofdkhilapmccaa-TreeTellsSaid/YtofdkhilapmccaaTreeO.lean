/- A node's slots; the nodes whose parent one is. -/
import Derived.Test.YtofdkhilapmccaaMapsR
namespace Go.Proofs.Ytofdkhilapmccaa
open Go.RowKit

def ownS (l : List NodeT) (n : Int) : SetT := if isNode l n then rangeS (l[n.toNat]?.getD ⟨0, 0, 0, 0, 0, 0, 0⟩).frm (l[n.toNat]?.getD ⟨0, 0, 0, 0, 0, 0, 0⟩).upto else zeroS
theorem ownS_64 (l : List NodeT) (n : Int) : Set64 (ownS l n) := by
  unfold ownS; split
  · exact rangeS_64 _ _
  · exact zeroS_64
theorem ownS_no {l : List NodeT} {n : Int} (h : isNode l n = false) : ownS l n = zeroS := by simp [ownS, h]
theorem ownS_yes {l : List NodeT} {k : Nat} (h : k < l.length) : ownS l k = rangeS l[k].frm l[k].upto := by
  have : isNode l k = true := by simp only [isNode, Bool.and_eq_true, decide_eq_true_eq]; omega
  simp [ownS, this, h]


set_option maxHeartbeats 1000000 in
set_option maxRecDepth 20000 in
theorem tree_Own (ao : Option Addr) (cap : Nat) (l : List NodeT) (n : Int) (w : World) (hc : Cells w ao (l.flatMap nodeC)) (hl : l.length ≤ 17592186044416) (hv : ∀ n ∈ l, Node64 n) :
    Calls Try.prog 26 #[.slice ao l.length cap, .int .i64 n] w fun e w' => e = .returned (.agg #[.int .u64 (ownS l n).a, .int .u64 (ownS l n).b, .int .u64 (ownS l n).c, .int .u64 (ownS l n).d]) ∧ Ext w w' := by
  cases hi : isNode l n with
  | false =>
    obtain ⟨W, hW⟩ : ∃ W, W = w.alloc (.cells ([.int .u64 0, .int .u64 0, .int .u64 0, .int .u64 0] : List Value).toArray 43) := ⟨_, rfl⟩
    have hb0 : W.heap[w.heap.size]? = some (.cells (setC zeroS).toArray 43 (0, 0)) := by rw [hW]; exact alloc_new w _
    have hx0 : Ext w W := by rw [hW]; exact (Ext.rf w).al _
    have HO := Lib.hid (ownS_no hi)
    go_enter Try.func26, Try.ntmps26
    go_upto_region 1 with fail
    rw [← hW]
    clear hW
    have d0 : W.cell? ⟨w.heap.size, 0, none⟩ = some (.int .u64 0) := blk hb0 0 rfl
    have d1 : W.cell? ⟨w.heap.size, 1, none⟩ = some (.int .u64 0) := blk hb0 1 rfl
    have d2 : W.cell? ⟨w.heap.size, 2, none⟩ = some (.int .u64 0) := blk hb0 2 rfl
    have d3 : W.cell? ⟨w.heap.size, 3, none⟩ = some (.int .u64 0) := blk hb0 3 rfl
    have f0 : W.frozen? ⟨w.heap.size, 0, none⟩ = false := frozen_of_row W _ 0 _ _ hb0
    have f1 : W.frozen? ⟨w.heap.size, 1, none⟩ = false := frozen_of_row W _ 1 _ _ hb0
    have f2 : W.frozen? ⟨w.heap.size, 2, none⟩ = false := frozen_of_row W _ 2 _ _ hb0
    have f3 : W.frozen? ⟨w.heap.size, 3, none⟩ = false := frozen_of_row W _ 3 _ _ hb0
    have HB0 := Lib.hid hb0
    have HX0 := Lib.hid hx0
    clear hb0 hx0
    go_wp2_with fail
    refine (tree_is _ _ l _ _ hl).mono ?_
    rw [hi]
    rintro e w1 ⟨rfl, rfl⟩
    clear hi
    go_wp2_with fail
    exact bodyPost_ret (ret_cell1 rfl rfl (load_set (set4 HB0.out zeroS))) rfl ⟨by rw [HO.out] <;> rfl, ext4 HX0.out (Nat.le_refl _) _ _ _ _⟩
  | true =>
    obtain ⟨k, rfl, hk⟩ := isNode_of hi
    obtain ⟨b, off, rfl, hcl⟩ := hc.flat (enc := nodeC) (size := 7) (fun _ => rfl) hk (by decide)
    have HO := Lib.hid (ownS_yes hk)
    have hv64 := hv l[k] (List.getElem_mem hk)
    have i1 : (0 : Int) ≤ k := by omega
    have i2 : (k : Int) < l.length := by omega
    have t1 : decide ((k : Int) < 0) = false := decide_eq_false (by omega)
    have t2 : decide ((l.length : Int) ≤ k) = false := decide_eq_false (by omega)
    have t3 : decide (l.length ≤ k) = false := decide_eq_false (by omega)
    generalize l[k] = x at *
    have e3 : w.cell? ⟨b, off + k * 7 + 3, none⟩ = some (.int .i64 x.frm) := by rw [Nat.add_assoc]; exact hcl 3 _ rfl
    have e5 : w.cell? ⟨b, off + k * 7 + 5, none⟩ = some (.int .i64 x.upto) := by rw [Nat.add_assoc]; exact hcl 5 _ rfl
    obtain ⟨W, hW⟩ : ∃ W, W = w.alloc (.cells ([.int .u64 0, .int .u64 0, .int .u64 0, .int .u64 0] : List Value).toArray 43) := ⟨_, rfl⟩
    have hb0 : W.heap[w.heap.size]? = some (.cells (setC zeroS).toArray 43 (0, 0)) := by rw [hW]; exact alloc_new w _
    have hx0 : Ext w W := by rw [hW]; exact (Ext.rf w).al _
    have k3 := hx0.has e3
    have k5 := hx0.has e5
    have h1 := hv64.2.2.2.1.2
    have h2 := hv64.2.2.2.2.2.1.1
    clear hcl e3 e5 hv hv64
    go_enter Try.func26, Try.ntmps26
    go_upto_region 1 with fail
    rw [← hW]
    clear hW
    have d0 : W.cell? ⟨w.heap.size, 0, none⟩ = some (.int .u64 0) := blk hb0 0 rfl
    have d1 : W.cell? ⟨w.heap.size, 1, none⟩ = some (.int .u64 0) := blk hb0 1 rfl
    have d2 : W.cell? ⟨w.heap.size, 2, none⟩ = some (.int .u64 0) := blk hb0 2 rfl
    have d3 : W.cell? ⟨w.heap.size, 3, none⟩ = some (.int .u64 0) := blk hb0 3 rfl
    have f0 : W.frozen? ⟨w.heap.size, 0, none⟩ = false := frozen_of_row W _ 0 _ _ hb0
    have f1 : W.frozen? ⟨w.heap.size, 1, none⟩ = false := frozen_of_row W _ 1 _ _ hb0
    have f2 : W.frozen? ⟨w.heap.size, 2, none⟩ = false := frozen_of_row W _ 2 _ _ hb0
    have f3 : W.frozen? ⟨w.heap.size, 3, none⟩ = false := frozen_of_row W _ 3 _ _ hb0
    have HB0 := Lib.hid hb0
    have HX0 := Lib.hid hx0
    clear hb0 hx0
    go_wp2_with fail
    refine (tree_is _ _ l _ _ hl).mono ?_
    rw [hi]
    rintro e w1 ⟨rfl, rfl⟩
    clear hi
    go_upto_region 3 with fail
    refine wp_region_still_tail 10 (by kernel_rfl) (by kernel_rfl) ?_
    simp only [List.take_succ_cons, List.take_zero, List.drop_succ_cons, List.drop_zero]
    repeat still_step
    refine wpStill_nil ?_
    go_wp2_with fail
    refine (slots_Range x.frm x.upto _ h1 h2).mono ?_
    rintro e w2 ⟨rfl, hx2⟩
    have HX2 := Lib.hid (HX0.out.dr.tr hx2)
    have hb2 := hx2.blk (show W.drew.heap[w.heap.size]? = _ from HB0.out)
    have HB2 := Lib.hid hb2
    generalize hr : rangeS x.frm x.upto = R at *
    have HRr := Lib.hid hr
    clear hr d0 d1 d2 d3 f0 f1 f2 f3 hx2
    have d0 : w2.cell? ⟨w.heap.size, 0, none⟩ = some (.int .u64 0) := blk hb2 0 rfl
    have d1 : w2.cell? ⟨w.heap.size, 1, none⟩ = some (.int .u64 0) := blk hb2 1 rfl
    have d2 : w2.cell? ⟨w.heap.size, 2, none⟩ = some (.int .u64 0) := blk hb2 2 rfl
    have d3 : w2.cell? ⟨w.heap.size, 3, none⟩ = some (.int .u64 0) := blk hb2 3 rfl
    have f0 : w2.frozen? ⟨w.heap.size, 0, none⟩ = false := frozen_of_row w2 _ 0 _ _ hb2
    have f1 : w2.frozen? ⟨w.heap.size, 1, none⟩ = false := frozen_of_row w2 _ 1 _ _ hb2
    have f2 : w2.frozen? ⟨w.heap.size, 2, none⟩ = false := frozen_of_row w2 _ 2 _ _ hb2
    have f3 : w2.frozen? ⟨w.heap.size, 3, none⟩ = false := frozen_of_row w2 _ 3 _ _ hb2
    clear hb2
    go_wp2_with fail
    exact bodyPost_ret (ret_cell1 rfl rfl (load_set (set4 HB2.out R))) rfl ⟨by rw [HO.out], ext4 HX2.out (Nat.le_refl _) _ _ _ _⟩



set_option maxHeartbeats 1000000 in
set_option maxRecDepth 20000 in
theorem treeref_Own (ao : Option Addr) (cap : Nat) (l : List NodeT) (n : Int) (w : World) (hc : Cells w ao (l.flatMap nodeC)) (hl : l.length ≤ 17592186044416) (hv : ∀ n ∈ l, Node64 n) :
    Calls Try.prog 44 #[.slice ao l.length cap, .int .i64 n] w fun e w' => e = .returned (.agg #[.int .u64 (ownS l n).a, .int .u64 (ownS l n).b, .int .u64 (ownS l n).c, .int .u64 (ownS l n).d]) ∧ Ext w w' := by
  cases hi : isNode l n with
  | false =>
    obtain ⟨W, hW⟩ : ∃ W, W = w.alloc (.cells ([.int .u64 0, .int .u64 0, .int .u64 0, .int .u64 0] : List Value).toArray 43) := ⟨_, rfl⟩
    have hb0 : W.heap[w.heap.size]? = some (.cells (setC zeroS).toArray 43 (0, 0)) := by rw [hW]; exact alloc_new w _
    have hx0 : Ext w W := by rw [hW]; exact (Ext.rf w).al _
    have HO := Lib.hid (ownS_no hi)
    by_cases h0 : n < 0
    · have t1 : decide (n < 0) = true := decide_eq_true h0
      clear hi
      go_enter Try.func44, Try.ntmps44
      go_upto_region 1 with fail
      rw [← hW]
      clear hW
      have d0 : W.cell? ⟨w.heap.size, 0, none⟩ = some (.int .u64 0) := blk hb0 0 rfl
      have d1 : W.cell? ⟨w.heap.size, 1, none⟩ = some (.int .u64 0) := blk hb0 1 rfl
      have d2 : W.cell? ⟨w.heap.size, 2, none⟩ = some (.int .u64 0) := blk hb0 2 rfl
      have d3 : W.cell? ⟨w.heap.size, 3, none⟩ = some (.int .u64 0) := blk hb0 3 rfl
      have f0 : W.frozen? ⟨w.heap.size, 0, none⟩ = false := frozen_of_row W _ 0 _ _ hb0
      have f1 : W.frozen? ⟨w.heap.size, 1, none⟩ = false := frozen_of_row W _ 1 _ _ hb0
      have f2 : W.frozen? ⟨w.heap.size, 2, none⟩ = false := frozen_of_row W _ 2 _ _ hb0
      have f3 : W.frozen? ⟨w.heap.size, 3, none⟩ = false := frozen_of_row W _ 3 _ _ hb0
      have HB0 := Lib.hid hb0
      have HX0 := Lib.hid hx0
      clear hb0 hx0
      go_wp2_with fail
      exact bodyPost_ret (ret_cell1 rfl rfl (load_set (set4 HB0.out zeroS))) rfl ⟨by rw [HO.out] <;> rfl, ext4 HX0.out (Nat.le_refl _) _ _ _ _⟩
    · have t1 : decide (n < 0) = false := decide_eq_false h0
      have t2 : decide ((l.length : Int) ≤ n) = true := by
        simp only [isNode, Bool.and_eq_false_iff, decide_eq_false_iff_not] at hi
        exact decide_eq_true (by omega)
      clear hi
      go_enter Try.func44, Try.ntmps44
      go_upto_region 1 with fail
      rw [← hW]
      clear hW
      have d0 : W.cell? ⟨w.heap.size, 0, none⟩ = some (.int .u64 0) := blk hb0 0 rfl
      have d1 : W.cell? ⟨w.heap.size, 1, none⟩ = some (.int .u64 0) := blk hb0 1 rfl
      have d2 : W.cell? ⟨w.heap.size, 2, none⟩ = some (.int .u64 0) := blk hb0 2 rfl
      have d3 : W.cell? ⟨w.heap.size, 3, none⟩ = some (.int .u64 0) := blk hb0 3 rfl
      have f0 : W.frozen? ⟨w.heap.size, 0, none⟩ = false := frozen_of_row W _ 0 _ _ hb0
      have f1 : W.frozen? ⟨w.heap.size, 1, none⟩ = false := frozen_of_row W _ 1 _ _ hb0
      have f2 : W.frozen? ⟨w.heap.size, 2, none⟩ = false := frozen_of_row W _ 2 _ _ hb0
      have f3 : W.frozen? ⟨w.heap.size, 3, none⟩ = false := frozen_of_row W _ 3 _ _ hb0
      have HB0 := Lib.hid hb0
      have HX0 := Lib.hid hx0
      clear hb0 hx0
      go_wp2_with fail
      exact bodyPost_ret (ret_cell1 rfl rfl (load_set (set4 HB0.out zeroS))) rfl ⟨by rw [HO.out] <;> rfl, ext4 HX0.out (Nat.le_refl _) _ _ _ _⟩
  | true =>
    obtain ⟨k, rfl, hk⟩ := isNode_of hi
    obtain ⟨b, off, rfl, hcl⟩ := hc.flat (enc := nodeC) (size := 7) (fun _ => rfl) hk (by decide)
    have HO := Lib.hid (ownS_yes hk)
    have hv64 := hv l[k] (List.getElem_mem hk)
    have i1 : (0 : Int) ≤ k := by omega
    have i2 : (k : Int) < l.length := by omega
    have t1 : decide ((k : Int) < 0) = false := decide_eq_false (by omega)
    have t2 : decide ((l.length : Int) ≤ k) = false := decide_eq_false (by omega)
    have t3 : decide (l.length ≤ k) = false := decide_eq_false (by omega)
    generalize l[k] = x at *
    have e3 : w.cell? ⟨b, off + k * 7 + 3, none⟩ = some (.int .i64 x.frm) := by rw [Nat.add_assoc]; exact hcl 3 _ rfl
    have e5 : w.cell? ⟨b, off + k * 7 + 5, none⟩ = some (.int .i64 x.upto) := by rw [Nat.add_assoc]; exact hcl 5 _ rfl
    obtain ⟨W, hW⟩ : ∃ W, W = w.alloc (.cells ([.int .u64 0, .int .u64 0, .int .u64 0, .int .u64 0] : List Value).toArray 43) := ⟨_, rfl⟩
    have hb0 : W.heap[w.heap.size]? = some (.cells (setC zeroS).toArray 43 (0, 0)) := by rw [hW]; exact alloc_new w _
    have hx0 : Ext w W := by rw [hW]; exact (Ext.rf w).al _
    have k3 := hx0.has e3
    have k5 := hx0.has e5
    have h1 := hv64.2.2.2.1.2
    have h2 := hv64.2.2.2.2.2.1.1
    clear hcl e3 e5 hv hv64
    go_enter Try.func44, Try.ntmps44
    go_upto_region 1 with fail
    rw [← hW]
    clear hW
    have d0 : W.cell? ⟨w.heap.size, 0, none⟩ = some (.int .u64 0) := blk hb0 0 rfl
    have d1 : W.cell? ⟨w.heap.size, 1, none⟩ = some (.int .u64 0) := blk hb0 1 rfl
    have d2 : W.cell? ⟨w.heap.size, 2, none⟩ = some (.int .u64 0) := blk hb0 2 rfl
    have d3 : W.cell? ⟨w.heap.size, 3, none⟩ = some (.int .u64 0) := blk hb0 3 rfl
    have f0 : W.frozen? ⟨w.heap.size, 0, none⟩ = false := frozen_of_row W _ 0 _ _ hb0
    have f1 : W.frozen? ⟨w.heap.size, 1, none⟩ = false := frozen_of_row W _ 1 _ _ hb0
    have f2 : W.frozen? ⟨w.heap.size, 2, none⟩ = false := frozen_of_row W _ 2 _ _ hb0
    have f3 : W.frozen? ⟨w.heap.size, 3, none⟩ = false := frozen_of_row W _ 3 _ _ hb0
    have HB0 := Lib.hid hb0
    have HX0 := Lib.hid hx0
    clear hb0 hx0
    go_upto_region 3 with fail
    refine wp_region_still_tail 10 (by kernel_rfl) (by kernel_rfl) ?_
    simp only [List.take_succ_cons, List.take_zero, List.drop_succ_cons, List.drop_zero]
    repeat still_step
    refine wpStill_nil ?_
    go_wp2_with fail
    refine (setref_Range x.frm x.upto _ h1 h2).mono ?_
    rintro e w2 ⟨rfl, hx2⟩
    have HX2 := Lib.hid (HX0.out.dr.tr hx2)
    have hb2 := hx2.blk (show W.drew.heap[w.heap.size]? = _ from HB0.out)
    have HB2 := Lib.hid hb2
    generalize hr : rangeS x.frm x.upto = R at *
    have HRr := Lib.hid hr
    clear hr d0 d1 d2 d3 f0 f1 f2 f3 hx2
    have d0 : w2.cell? ⟨w.heap.size, 0, none⟩ = some (.int .u64 0) := blk hb2 0 rfl
    have d1 : w2.cell? ⟨w.heap.size, 1, none⟩ = some (.int .u64 0) := blk hb2 1 rfl
    have d2 : w2.cell? ⟨w.heap.size, 2, none⟩ = some (.int .u64 0) := blk hb2 2 rfl
    have d3 : w2.cell? ⟨w.heap.size, 3, none⟩ = some (.int .u64 0) := blk hb2 3 rfl
    have f0 : w2.frozen? ⟨w.heap.size, 0, none⟩ = false := frozen_of_row w2 _ 0 _ _ hb2
    have f1 : w2.frozen? ⟨w.heap.size, 1, none⟩ = false := frozen_of_row w2 _ 1 _ _ hb2
    have f2 : w2.frozen? ⟨w.heap.size, 2, none⟩ = false := frozen_of_row w2 _ 2 _ _ hb2
    have f3 : w2.frozen? ⟨w.heap.size, 3, none⟩ = false := frozen_of_row w2 _ 3 _ _ hb2
    clear hb2
    go_wp2_with fail
    exact bodyPost_ret (ret_cell1 rfl rfl (load_set (set4 HB2.out R))) rfl ⟨by rw [HO.out], ext4 HX2.out (Nat.le_refl _) _ _ _ _⟩

end Go.Proofs.Ytofdkhilapmccaa
