/- TreeApart: the law's walk. -/
import Derived.Test.YtofdkhilapmccaaTreeO
import Derived.Test.YtofdkhilapmccaaTreeI
import Derived.Test.YtofdkhilapmccaaTreeL
import Derived.Test.YtofdkhilapmccaaOpenF
namespace Go.Proofs.Ytofdkhilapmccaa
open Go.RowKit

/-- The slots of the first k nodes. -/
def allS (l : List NodeT) : Nat → SetT
  | 0 => zeroS
  | k + 1 => orS (allS l k) (ownS l k)
theorem allS_64 (l : List NodeT) : ∀ k, Set64 (allS l k)
  | 0 => zeroS_64
  | k + 1 => orS_64 (allS_64 l k) (ownS_64 l k)
theorem right_at {l : List NodeT} (h : rightTree l = true) {k : Nat} (hk : k < l.length) : mayNode l[k] k (toAt l k) = true := by
  simp only [rightTree, Bool.and_eq_true, List.all_eq_true, List.mem_range] at h
  have h1 := h.2 k hk
  rwa [mayAt_some (List.getElem?_eq_getElem hk)] at h1
theorem allS_low {l : List NodeT} (h : rightTree l = true) : ∀ k, k ≤ l.length → ∀ n, hasS (allS l k) n = true → (n : Int) < toAt l k := by
  intro k
  induction k with
  | zero => intro _ n hn; rw [allS, hasS_zero] at hn; cases hn
  | succ k ih =>
    intro hk n hn
    have hlt : k < l.length := by omega
    have hm := (mayNode_iff _ _ _).1 (right_at h hlt)
    rw [toAt_succ (List.getElem?_eq_getElem hlt)]
    rw [allS, hasS_or, Bool.or_eq_true] at hn
    rcases hn with hn | hn
    · have := ih (by omega) n hn; omega
    · rw [ownS_yes hlt, hasS_rangeS] at hn
      simp only [Bool.and_eq_true, decide_eq_true_eq] at hn; omega
theorem apart_sub {l : List NodeT} (h : rightTree l = true) {k : Nat} (hk : k < l.length) : subS (ownS l k) (allS l k) = ownS l k := by
  refine setS_ext (subS_64 (ownS_64 l k)) (ownS_64 l k) fun n hn => ?_
  rw [hasS_sub (allS_64 l k)]
  cases ho : hasS (ownS l k) n with
  | false => rfl
  | true =>
    rw [ownS_yes hk, hasS_rangeS] at ho
    simp only [Bool.and_eq_true, decide_eq_true_eq] at ho
    have hm := (mayNode_iff _ _ _).1 (right_at h hk)
    have : hasS (allS l k) n = false := by
      rw [← Bool.not_eq_true]; intro e
      have := allS_low h k (by omega) n e; omega
    rw [this]; rfl
theorem up_root {l : List NodeT} (h : rightTree l = true) : ∀ (f k : Nat), k < f → k < l.length → (upF l f k).any ((0 : Int) == ·) = true := by
  intro f
  induction f with
  | zero => intro k hk; omega
  | succ f ih =>
    intro k hk hkl
    have hi : isNode l k = true := by simp only [isNode, Bool.and_eq_true, decide_eq_true_eq]; omega
    rw [upF_yes hi, List.any_cons, Bool.or_eq_true]
    by_cases h0 : k = 0
    · left; simp [h0]
    · right
      have hm := (mayNode_iff _ _ _).1 (right_at h hkl)
      rw [parOf_nat hkl]
      obtain ⟨q, hq⟩ : ∃ q : Nat, l[k].par = q := ⟨l[k].par.toNat, by omega⟩
      rw [hq]
      exact ih q (by omega) (by omega)
theorem inside_root {l : List NodeT} (h : rightTree l = true) {k : Nat} (hk : k < l.length) : insideB l k 0 = true := up_root h _ k hk hk

theorem neq_self (r : SetT) (W : World) : (binOp .neq 43 (.agg #[.int .u64 r.a, .int .u64 r.b, .int .u64 r.c, .int .u64 r.d]) (.agg #[.int .u64 r.a, .int .u64 r.b, .int .u64 r.c, .int .u64 r.d])).run Try.prog W = .ok (.bool false) W := by
  have h := run_neq_arr (P := Try.prog) (k := .u64) (t := 43) (e := 41) (n := 4) Try.underlying43 Try.underlying41 (fun _ => by kernel_rfl) W (setI r) (setI r) rfl rfl
  simpa [setI] using h

set_option maxHeartbeats 4000000 in
set_option maxRecDepth 20000 in
theorem TreeApart_walk (ao0 : Option Addr) (cap0 : Nat) (l0 : List NodeT) (w : World) (hl0 : (l0.length ≤ 2513169434916) ∧ Cells w ao0 (l0.flatMap nodeC) ∧ ∀ n ∈ l0, Node64 n) :
    Calls Try.prog 6 #[.slice ao0 l0.length cap0] w fun e w' => e = .returned (.bool true) ∧ Ext w w' := by
  obtain ⟨hlen, hc, hv⟩ := hl0
  have HV := Lib.hid hv
  clear hv
  by_cases h60 : 60 < l0.length
  · have t1 : decide ((60 : Int) < l0.length) = true := decide_eq_true (by omega)
    go_enter Try.func6, Try.ntmps6
    go_wp2_with fail
    refine (tree_lives _).mono ?_
    rintro e w1 ⟨rfl, hb⟩
    go_wp2_with fail
    go_ret
    exact ⟨rfl, hb⟩
  · have t1 : decide ((60 : Int) < l0.length) = false := decide_eq_false (by omega)
    go_enter Try.func6, Try.ntmps6
    go_wp2_with fail
    refine (tree_Right ao0 cap0 l0 _ hc (by omega)).mono ?_
    rintro e w1 ⟨rfl, hx1⟩
    cases hr : rightTree l0 with
    | false =>
      clear hr
      go_wp2_with fail
      refine (tree_lives _).mono ?_
      rintro e w2 ⟨rfl, hb⟩
      go_wp2_with fail
      go_ret
      exact ⟨rfl, hx1.tr hb⟩
    | true =>
      have HR := Lib.hid hr
      clear hr
      go_upto_region 4 with fail
      obtain ⟨W, hW⟩ : ∃ W, W = w1.alloc (.cells ([.int .u64 0, .int .u64 0, .int .u64 0, .int .u64 0] : List Value).toArray 43) := ⟨_, rfl⟩
      have hb0 : W.heap[w1.heap.size]? = some (.cells (setC zeroS).toArray 43 (0, 0)) := by rw [hW]; exact alloc_new w1 _
      have hx0 : Ext w1 W := by rw [hW]; exact (Ext.rf w1).al _
      rw [← hW]
      clear hW
      have HXW := hx1.tr hx0
      have hgs := hx1.size
      generalize w1.heap.size = g at *
      clear hx1 hx0
      go_wp2_with fail
      go_loopw [4] (fun i wr => ∃ k : Nat, k ≤ l0.length ∧ i = .int .i64 k ∧ Ext w wr ∧ Hid (wr.heap[g]? = some (.cells (setC (allS l0 k)).toArray 43 (0, 0))))
        (fun i _ => l0.length - (intOf i).toNat)
      case atStart => exact ⟨0, Nat.zero_le _, rfl, HXW, Lib.hid hb0⟩
      case round =>
        clear HXW hb0
        obtain ⟨k, hk, rfl, hext, hblk⟩ := hrel
        by_cases hlt : k < l0.length
        · have HSUB := Lib.hid (apart_sub HR.out hlt)
          have HIN := Lib.hid (inside_root HR.out hlt)
          have HN : Hid (orS (allS l0 k) (ownS l0 k) = allS l0 (k + 1)) := rfl
          have HO64 := Lib.hid (ownS_64 l0 k)
          have HA64 := Lib.hid (allS_64 l0 k)
          go_wp2_with fail
          refine (tree_Own ao0 cap0 l0 k _ (hc.ext hext) (by omega) HV.out).mono ?_
          rintro e w2 ⟨rfl, hx2⟩
          have hext2 := hext.tr hx2
          have hblk2 := hx2.blk hblk.out
          generalize ownS l0 k = O at *
          generalize allS l0 k = A at *
          clear hext hx2 hblk
          go_upto_region 8 with fail
          obtain ⟨hx3, hz3, hcA⟩ := one_box w2 ([.int .u64 O.a, .int .u64 O.b, .int .u64 O.c, .int .u64 O.d] : List Value) 43
          generalize hW1 : w2.alloc (.cells ([.int .u64 O.a, .int .u64 O.b, .int .u64 O.c, .int .u64 O.d] : List Value).toArray 43) = W3 at *
          clear hW1
          have c0 : W3.cell? ⟨w2.heap.size, 0, none⟩ = some (.int .u64 O.a) := by have := hcA.cell _ _ rfl 0 _ rfl; rwa [Nat.zero_add] at this
          have c1 : W3.cell? ⟨w2.heap.size, 1, none⟩ = some (.int .u64 O.b) := by have := hcA.cell _ _ rfl 1 _ rfl; rwa [Nat.zero_add] at this
          have c2 : W3.cell? ⟨w2.heap.size, 2, none⟩ = some (.int .u64 O.c) := by have := hcA.cell _ _ rfl 2 _ rfl; rwa [Nat.zero_add] at this
          have c3 : W3.cell? ⟨w2.heap.size, 3, none⟩ = some (.int .u64 O.d) := by have := hcA.cell _ _ rfl 3 _ rfl; rwa [Nat.zero_add] at this
          clear hcA
          have hext3 := hext2.tr hx3
          have hblk3 := hx3.blk hblk2
          have d0 : W3.cell? ⟨g, 0, none⟩ = some (.int .u64 A.a) := blk hblk3 0 rfl
          have d1 : W3.cell? ⟨g, 1, none⟩ = some (.int .u64 A.b) := blk hblk3 1 rfl
          have d2 : W3.cell? ⟨g, 2, none⟩ = some (.int .u64 A.c) := blk hblk3 2 rfl
          have d3 : W3.cell? ⟨g, 3, none⟩ = some (.int .u64 A.d) := blk hblk3 3 rfl
          have hneq := neq_self O
          clear hext2 hx3 hblk2
          refine wp_region_ext (fun W => Ext W3 W) (by kernel_rfl) ((Ext.rf _).dr) (fun hS0 => ?_)
          refine take_op 0 (v := ?_) rfl (by kernel_rfl) (by kernel_rfl) (by kernel_rfl) (Or.inl ⟨by rfl, ?_⟩) (by assumption) ?_
          rotate_left 1
          · (intro W hS; have c0 := hS.has c0; have c1 := hS.has c1; have c2 := hS.has c2; have c3 := hS.has c3; have d0 := hS.has d0; have d1 := hS.has d1; have d2 := hS.has d2; have d3 := hS.has d3; go_simp; try with_reducible rfl)
          (try simp only [Act.put, List.setIfInBounds_toArray, List.set_cons_zero, List.set_cons_succ])
          refine take_op 1 (v := ?_) rfl (by kernel_rfl) (by kernel_rfl) (by kernel_rfl) (Or.inl ⟨by rfl, ?_⟩) (by assumption) ?_
          rotate_left 1
          · (intro W hS; have c0 := hS.has c0; have c1 := hS.has c1; have c2 := hS.has c2; have c3 := hS.has c3; have d0 := hS.has d0; have d1 := hS.has d1; have d2 := hS.has d2; have d3 := hS.has d3; go_simp; try with_reducible rfl)
          (try simp only [Act.put, List.setIfInBounds_toArray, List.set_cons_zero, List.set_cons_succ])
          refine take_op 3 (v := ?_) rfl (by kernel_rfl) (by kernel_rfl) (by kernel_rfl) (Or.inl ⟨by rfl, ?_⟩) (by assumption) ?_
          rotate_left 1
          · (intro W hS; have c0 := hS.has c0; have c1 := hS.has c1; have c2 := hS.has c2; have c3 := hS.has c3; have d0 := hS.has d0; have d1 := hS.has d1; have d2 := hS.has d2; have d3 := hS.has d3; go_simp; try with_reducible rfl)
          (try simp only [Act.put, List.setIfInBounds_toArray, List.set_cons_zero, List.set_cons_succ])
          refine do_op 2 rfl (by kernel_rfl) (fun K hK => ?_)
          go_simp; (with_reducible refine (setref_Sub O A _ HO64.out HA64.out).mono ?_); rw [HSUB.out]; rintro e w4 ⟨rfl, hx4⟩; have hy4 := (Ext.rf W3).dr.tr hx4
          refine hK.out _ _ hy4 (fun hS => ?_)
          clear hK K
          (try simp only [Act.put, List.setIfInBounds_toArray, List.set_cons_zero, List.set_cons_succ])
          refine take_op 4 (v := ?_) rfl (by kernel_rfl) (by kernel_rfl) (by kernel_rfl) (Or.inl ⟨by rfl, ?_⟩) (by assumption) ?_
          rotate_left 1
          · (intro W hS; go_simp; try with_reducible rfl)
          (try simp only [Act.put, List.setIfInBounds_toArray, List.set_cons_zero, List.set_cons_succ])
          refine take_op 5 (v := ?_) rfl (by kernel_rfl) (by kernel_rfl) (by kernel_rfl) (Or.inl ⟨by rfl, ?_⟩) (by assumption) ?_
          rotate_left 1
          · (intro W hS; go_simp; try with_reducible rfl)
          (try simp only [Act.put, List.setIfInBounds_toArray, List.set_cons_zero, List.set_cons_succ])
          refine take_op 6 (v := ?_) rfl (by kernel_rfl) (by kernel_rfl) (by kernel_rfl) (Or.inl ⟨by rfl, ?_⟩) (by assumption) ?_
          rotate_left 1
          · (intro W hS; go_simp; try with_reducible rfl)
          (try simp only [Act.put, List.setIfInBounds_toArray, List.set_cons_zero, List.set_cons_succ])
          refine take_op 7 (v := ?_) rfl (by kernel_rfl) (by kernel_rfl) (by kernel_rfl) (Or.inl ⟨by rfl, ?_⟩) (by assumption) ?_
          rotate_left 1
          · (intro W hS; go_simp; try with_reducible rfl)
          (try simp only [Act.put, List.setIfInBounds_toArray, List.set_cons_zero, List.set_cons_succ])
          refine do_op 8 rfl (by kernel_rfl) (fun K hK => ?_)
          go_simp; (with_reducible refine (tree_Inside ao0 cap0 l0 k 0 _ (hc.ext (hext3.tr hy4)) (by omega)).mono ?_); rw [HIN.out]; rintro e w5 ⟨rfl, hx5⟩; have hy5 := hy4.tr hx5
          refine hK.out _ _ hy5 (fun hS => ?_)
          clear hK K
          (try simp only [Act.put, List.setIfInBounds_toArray, List.set_cons_zero, List.set_cons_succ])
          refine take_op 9 (v := ?_) rfl (by kernel_rfl) (by kernel_rfl) (by kernel_rfl) (Or.inl ⟨by rfl, ?_⟩) (by assumption) ?_
          rotate_left 1
          · (intro W hS; go_simp; try with_reducible rfl)
          (try simp only [Act.put, List.setIfInBounds_toArray, List.set_cons_zero, List.set_cons_succ])
          refine take_op 10 (v := ?_) rfl (by kernel_rfl) (by kernel_rfl) (by kernel_rfl) (Or.inl ⟨by rfl, ?_⟩) (by assumption) ?_
          rotate_left 1
          · (intro W hS; go_simp; try with_reducible rfl)
          (try simp only [Act.put, List.setIfInBounds_toArray, List.set_cons_zero, List.set_cons_succ])
          refine wpAnyH_done (by kernel_rfl) ?_ _
          refine NoPanic.normal ?_
          have hext5 := hext3.tr hy5
          have hblk5 := hy5.blk hblk3
          have c0' := hy5.has c0
          have c1' := hy5.has c1
          have c2' := hy5.has c2
          have c3' := hy5.has c3
          have p0 : w5.cell? ⟨g, 0, none⟩ = some (.int .u64 A.a) := blk hblk5 0 rfl
          have p1 : w5.cell? ⟨g, 1, none⟩ = some (.int .u64 A.b) := blk hblk5 1 rfl
          have p2 : w5.cell? ⟨g, 2, none⟩ = some (.int .u64 A.c) := blk hblk5 2 rfl
          have p3 : w5.cell? ⟨g, 3, none⟩ = some (.int .u64 A.d) := blk hblk5 3 rfl
          clear c0 c1 c2 c3 d0 d1 d2 d3 hext3 hblk3 hy4 hy5 hx4 hx5 hneq
          go_wp2_with fail
          refine (setref_Or A O _ HA64.out HO64.out).mono ?_
          rw [HN.out]
          rintro e w6 ⟨rfl, hx6⟩
          have hext6 := hext5.tr hx6
          have hblk6 := hx6.blk hblk5
          have HB6 := Lib.hid hblk6
          generalize hA : allS l0 (k + 1) = A' at *
          have HA := Lib.hid hA
          clear hA
          have q0 : w6.cell? ⟨g, 0, none⟩ = some (.int .u64 A.a) := blk hblk6 0 rfl
          have q1 : w6.cell? ⟨g, 1, none⟩ = some (.int .u64 A.b) := blk hblk6 1 rfl
          have q2 : w6.cell? ⟨g, 2, none⟩ = some (.int .u64 A.c) := blk hblk6 2 rfl
          have q3 : w6.cell? ⟨g, 3, none⟩ = some (.int .u64 A.d) := blk hblk6 3 rfl
          have f0 : w6.frozen? ⟨g, 0, none⟩ = false := frozen_of_row w6 _ 0 _ _ hblk6
          have f1 : w6.frozen? ⟨g, 1, none⟩ = false := frozen_of_row w6 _ 1 _ _ hblk6
          have f2 : w6.frozen? ⟨g, 2, none⟩ = false := frozen_of_row w6 _ 2 _ _ hblk6
          have f3 : w6.frozen? ⟨g, 3, none⟩ = false := frozen_of_row w6 _ 3 _ _ hblk6
          clear hext5 hx6 hblk5 hblk6 p0 p1 p2 p3 c0' c1' c2' c3'
          go_wp2_with fail
          go_roundw
          case rel => exact ⟨k + 1, by omega, by go_num, ext4 hext6 hgs _ _ _ _, by rw [Hid, HA.out]; exact set4 HB6.out A'⟩
          case measure => simp [intOf]; omega
        · go_wp2_with fail
          refine (tree_lives _).mono ?_
          rintro e w2 ⟨rfl, hb⟩
          go_wp2_with fail
          go_ret
          exact ⟨rfl, hext.tr hb⟩
end Go.Proofs.Ytofdkhilapmccaa
