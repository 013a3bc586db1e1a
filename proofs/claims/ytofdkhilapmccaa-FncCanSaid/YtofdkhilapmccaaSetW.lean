/- Sets of slots: slots.Sub and what stands on it. -/
import Derived.Test.YtofdkhilapmccaaSetP
import Derived.Test.YtofdkhilapmccaaStructQ
import Derived.Test.YtofdkhilapmccaaRefC
import Derived.Test.YtofdkhilapmccaaFncSame
import Derived.Laws.BitsAllLaws
namespace Go.Proofs.Ytofdkhilapmccaa
open Go.RowKit

theorem slots_sub1 (x y : Nat) (w : World) (hx : x < 18446744073709551616) (hy : y < 18446744073709551616) : Calls Try.prog 207 #[.int .u64 x, .int .u64 y] w fun e w' => e = .returned (.int .u64 (subN x y)) ∧ w = w' := by
  have hq : bits .andNot .u64 (x : Int) (y : Int) = ((subN x y : Nat) : Int) := u64_andNot_nat x y hx hy
  clear hx hy
  go_enter Try.func207, Try.ntmps207
  go_wp2
  go_ret
  exact ⟨rfl, rfl⟩

theorem three_boxes (w : World) (cs ds es : List Value) (t u v : TypeId) :
    ∃ W : World, W = ((w.alloc (.cells cs.toArray t)).alloc (.cells ds.toArray u)).alloc (.cells es.toArray v) ∧ Ext w W ∧ W.heap.size = w.heap.size + 3 ∧
      W.heap[w.heap.size]? = some (.cells cs.toArray t (0, 0)) ∧ W.heap[w.heap.size + 1]? = some (.cells ds.toArray u (0, 0)) ∧ W.heap[w.heap.size + 2]? = some (.cells es.toArray v (0, 0)) := by
  refine ⟨_, rfl, (((Ext.rf w).al _).al _).al _, by simp, ?_, ?_, ?_⟩
  · exact (((Ext.rf _).al _).al _).blk (alloc_new w _)
  · have := alloc_new (w.alloc (.cells cs.toArray t)) (.cells ds.toArray u)
    rw [show (w.alloc (.cells cs.toArray t)).heap.size = w.heap.size + 1 by simp] at this
    exact ((Ext.rf _).al _).blk this
  · have := alloc_new ((w.alloc (.cells cs.toArray t)).alloc (.cells ds.toArray u)) (.cells es.toArray v)
    rwa [show ((w.alloc (.cells cs.toArray t)).alloc (.cells ds.toArray u)).heap.size = w.heap.size + 2 by simp] at this

theorem blk_set {w : World} {g : Nat} {cs : Array Value} {t : TypeId} (h : w.heap[g]? = some (.cells cs t (0, 0))) (k : Nat) (v : Value) : (w.setCell ⟨g, k, none⟩ v).heap[g]? = some (.cells (cs.setIfInBounds k v) t (0, 0)) :=
  heap_setCell_same w g k cs t v h
theorem blk_other {w : World} {g b : Nat} {o : Obj} (h : w.heap[b]? = some o) (k : Nat) (v : Value) (hne : b ≠ g) : (w.setCell ⟨g, k, none⟩ v).heap[b]? = some o := by
  rw [heap_setCell_other w ⟨g, k, none⟩ b v hne]; exact h
theorem Ext.set {w0 w : World} (h : Ext w0 w) {g : Nat} (hg : w0.heap.size ≤ g) (k : Nat) (v : Value) : Ext w0 (w.setCell ⟨g, k, none⟩ v) := Below.setCell h.b (p := ⟨g, k, none⟩) hg v

theorem load_set {W : World} {g : Nat} {s : SetT} {t : TypeId} {fz : Nat × Nat} (h : W.heap[g]? = some (.cells (setC s).toArray t fz)) : (loadVar 43 ⟨g, 0, none⟩).run Try.prog W = .ok (.agg #[.int .u64 s.a, .int .u64 s.b, .int .u64 s.c, .int .u64 s.d]) W := by
  have c0 : W.cell? ⟨g, 0, none⟩ = some (.int .u64 s.a) := blk h 0 rfl
  have c1 : W.cell? ⟨g, 1, none⟩ = some (.int .u64 s.b) := blk h 1 rfl
  have c2 : W.cell? ⟨g, 2, none⟩ = some (.int .u64 s.c) := blk h 2 rfl
  have c3 : W.cell? ⟨g, 3, none⟩ = some (.int .u64 s.d) := blk h 3 rfl
  go_simp
/-- A set that is laid over another one. -/
theorem set4 {W : World} {g : Nat} {s0 : SetT} {t : TypeId} (h : W.heap[g]? = some (.cells (setC s0).toArray t (0, 0))) (s : SetT) :
    ((((W.setCell ⟨g, 0, none⟩ (.int .u64 s.a)).setCell ⟨g, 1, none⟩ (.int .u64 s.b)).setCell ⟨g, 2, none⟩ (.int .u64 s.c)).setCell ⟨g, 3, none⟩ (.int .u64 s.d)).heap[g]? = some (.cells (setC s).toArray t (0, 0)) :=
  blk_set (blk_set (blk_set (blk_set h 0 _) 1 _) 2 _) 3 _
theorem ext4 {w W : World} (h : Ext w W) {g : Nat} (hg : w.heap.size ≤ g) (a b c d : Value) : Ext w ((((W.setCell ⟨g, 0, none⟩ a).setCell ⟨g, 1, none⟩ b).setCell ⟨g, 2, none⟩ c).setCell ⟨g, 3, none⟩ d) :=
  (((h.set hg 0 a).set hg 1 b).set hg 2 c).set hg 3 d


set_option maxHeartbeats 2000000 in
set_option maxRecDepth 20000 in
theorem slots_bothSub (s t : SetT) (w : World) (hs : Set64 s) (ht : Set64 t) :
    Calls Try.prog 206 #[.agg #[.int .u64 s.a, .int .u64 s.b, .int .u64 s.c, .int .u64 s.d], .agg #[.int .u64 t.a, .int .u64 t.b, .int .u64 t.c, .int .u64 t.d], .func (.func 207) #[] #[]] w fun e w' => e = .returned (.agg #[.int .u64 (subS s t).a, .int .u64 (subS s t).b, .int .u64 (subS s t).c, .int .u64 (subS s t).d]) ∧ Ext w w' := by
  go_enter Try.func206, Try.ntmps206
  go_wp2_with fail
  obtain ⟨W, hW, hx0, hz, hb1, hb2, hb3⟩ := three_boxes w ([.int .u64 s.a, .int .u64 s.b, .int .u64 s.c, .int .u64 s.d] : List Value) ([.int .u64 t.a, .int .u64 t.b, .int .u64 t.c, .int .u64 t.d] : List Value) ([.int .u64 0, .int .u64 0, .int .u64 0, .int .u64 0] : List Value) 43 43 43
  rw [← hW]
  clear hW
  have HS := Lib.hid hs
  have HT := Lib.hid ht
  clear hs ht
  go_loopw [8] (fun i wr => ∃ k : Nat, k ≤ 4 ∧ i = .int .i64 k ∧ Ext w wr ∧ Hid (wr.heap[w.heap.size]? = some (.cells (setC (mixS s (subS s t) k)).toArray 43 (0, 0))) ∧ Hid (wr.heap[w.heap.size + 1]? = some (.cells (setC t).toArray 43 (0, 0))) ∧ Hid (wr.heap[w.heap.size + 2]? = some (.cells (setC zeroS).toArray 43 (0, 0))))
    (fun i _ => 4 - (intOf i).toNat)
  case atStart => exact ⟨0, by omega, rfl, hx0, Lib.hid (by rw [mixS_0]; exact hb1), Lib.hid hb2, Lib.hid hb3⟩
  case round =>
    clear hb1 hb2 hb3 hx0 hz
    obtain ⟨k, hk, rfl, hext, hb1, hb2, hb3⟩ := hrel
    by_cases hlt : k < 4
    · have c1 : wr.cell? ⟨w.heap.size, k, none⟩ = some (.int .u64 (word s k)) := by
        rw [← mixS_word (t := subS s t) hlt]; exact blk hb1.out k (by simpa using setC_get _ hlt)
      have c2 : wr.cell? ⟨w.heap.size + 1, k, none⟩ = some (.int .u64 (word t k)) := blk hb2.out k (by simpa using setC_get _ hlt)
      have f1 : wr.frozen? ⟨w.heap.size, k, none⟩ = false := frozen_of_row wr _ k _ _ hb1.out
      have i1 : (0 : Int) ≤ k := by omega
      have i2 : (k : Int) < 4 := by omega
      have hx := word_64 HS.out k
      have hy := word_64 HT.out k
      go_upto_region 4 with fail
      refine wp_region_still_tail 10 (by kernel_rfl) (by kernel_rfl) ?_
      simp only [List.take_succ_cons, List.take_zero, List.drop_succ_cons, List.drop_zero]
      repeat still_step
      still_call ((slots_sub1 (word s k) (word t k) wr.drew hx hy).mono fun e w' h => ⟨h.1, h.2.symm⟩)
      repeat still_step
      refine wpStill_nil ?_
      have HW : Hid (word (subS s t) k = (subN) (word s k) (word t k)) := word_map2 (subN) s t hlt
      go_wp2
      go_roundw
      case rel =>
        refine ⟨k + 1, by omega, by go_num, (hext.set (Nat.le_refl _) _ _).dr, ?_, ?_, ?_⟩
        · rw [Hid, ← mixS_step hlt, HW.out, ← setC_set _ hlt]
          exact blk_set hb1.out k _
        · exact blk_other hb2.out k _ (by omega)
        · exact blk_other hb3.out k _ (by omega)
      case measure => simp [intOf]; omega
    · obtain rfl : k = 4 := by omega
      rw [mixS_4] at hb1
      have c0 : wr.cell? ⟨w.heap.size, 0, none⟩ = some (.int .u64 (subS s t).a) := blk hb1.out 0 rfl
      have c1 : wr.cell? ⟨w.heap.size, 1, none⟩ = some (.int .u64 (subS s t).b) := blk hb1.out 1 rfl
      have c2 : wr.cell? ⟨w.heap.size, 2, none⟩ = some (.int .u64 (subS s t).c) := blk hb1.out 2 rfl
      have c3 : wr.cell? ⟨w.heap.size, 3, none⟩ = some (.int .u64 (subS s t).d) := blk hb1.out 3 rfl
      have d0 : wr.cell? ⟨w.heap.size + 1 + 1, 0, none⟩ = some (.int .u64 0) := blk hb3.out 0 rfl
      have d1 : wr.cell? ⟨w.heap.size + 1 + 1, 1, none⟩ = some (.int .u64 0) := blk hb3.out 1 rfl
      have d2 : wr.cell? ⟨w.heap.size + 1 + 1, 2, none⟩ = some (.int .u64 0) := blk hb3.out 2 rfl
      have d3 : wr.cell? ⟨w.heap.size + 1 + 1, 3, none⟩ = some (.int .u64 0) := blk hb3.out 3 rfl
      have f0 : wr.frozen? ⟨w.heap.size + 1 + 1, 0, none⟩ = false := frozen_of_row wr _ 0 _ _ hb3.out
      have f1 : wr.frozen? ⟨w.heap.size + 1 + 1, 1, none⟩ = false := frozen_of_row wr _ 1 _ _ hb3.out
      have f2 : wr.frozen? ⟨w.heap.size + 1 + 1, 2, none⟩ = false := frozen_of_row wr _ 2 _ _ hb3.out
      have f3 : wr.frozen? ⟨w.heap.size + 1 + 1, 3, none⟩ = false := frozen_of_row wr _ 3 _ _ hb3.out
      go_wp2
      exact bodyPost_ret (ret_cell1 rfl rfl (load_set (set4 hb3.out (subS s t)))) rfl ⟨rfl, ext4 hext (by omega) _ _ _ _⟩



set_option maxHeartbeats 2000000 in
set_option maxRecDepth 20000 in
theorem setref_Sub (s t : SetT) (w : World) (hs : Set64 s) (ht : Set64 t) :
    Calls Try.prog 27 #[.agg #[.int .u64 s.a, .int .u64 s.b, .int .u64 s.c, .int .u64 s.d], .agg #[.int .u64 t.a, .int .u64 t.b, .int .u64 t.c, .int .u64 t.d]] w fun e w' => e = .returned (.agg #[.int .u64 (subS s t).a, .int .u64 (subS s t).b, .int .u64 (subS s t).c, .int .u64 (subS s t).d]) ∧ Ext w w' := by
  go_enter Try.func27, Try.ntmps27
  go_wp2_with fail
  obtain ⟨W, hW, hx0, hz, hb1, hb2, hb3⟩ := three_boxes w ([.int .u64 s.a, .int .u64 s.b, .int .u64 s.c, .int .u64 s.d] : List Value) ([.int .u64 t.a, .int .u64 t.b, .int .u64 t.c, .int .u64 t.d] : List Value) ([.int .u64 0, .int .u64 0, .int .u64 0, .int .u64 0] : List Value) 43 43 43
  rw [← hW]
  clear hW
  have HS := Lib.hid hs
  have HT := Lib.hid ht
  clear hs ht
  go_loopw [5] (fun i wr => ∃ k : Nat, k ≤ 4 ∧ i = .int .i64 k ∧ Ext w wr ∧ Hid (wr.heap[w.heap.size]? = some (.cells (setC (mixS s (subS s t) k)).toArray 43 (0, 0))) ∧ Hid (wr.heap[w.heap.size + 1]? = some (.cells (setC t).toArray 43 (0, 0))) ∧ Hid (wr.heap[w.heap.size + 2]? = some (.cells (setC zeroS).toArray 43 (0, 0))))
    (fun i _ => 4 - (intOf i).toNat)
  case atStart => exact ⟨0, by omega, rfl, hx0, Lib.hid (by rw [mixS_0]; exact hb1), Lib.hid hb2, Lib.hid hb3⟩
  case round =>
    clear hb1 hb2 hb3 hx0 hz
    obtain ⟨k, hk, rfl, hext, hb1, hb2, hb3⟩ := hrel
    by_cases hlt : k < 4
    · have c1 : wr.cell? ⟨w.heap.size, k, none⟩ = some (.int .u64 (word s k)) := by
        rw [← mixS_word (t := subS s t) hlt]; exact blk hb1.out k (by simpa using setC_get _ hlt)
      have c2 : wr.cell? ⟨w.heap.size + 1, k, none⟩ = some (.int .u64 (word t k)) := blk hb2.out k (by simpa using setC_get _ hlt)
      have f1 : wr.frozen? ⟨w.heap.size, k, none⟩ = false := frozen_of_row wr _ k _ _ hb1.out
      have i1 : (0 : Int) ≤ k := by omega
      have i2 : (k : Int) < 4 := by omega
      have hx := word_64 HS.out k
      have hy := word_64 HT.out k
      go_upto_region 4 with fail
      refine wp_region_still_tail 9 (by kernel_rfl) (by kernel_rfl) ?_
      simp only [List.take_succ_cons, List.take_zero, List.drop_succ_cons, List.drop_zero]
      have hq : bits .andNot .u64 (word s k : Int) (word t k : Int) = (((subN) (word s k) (word t k) : Nat) : Int) := u64_andNot_nat (word s k) (word t k) hx hy
      repeat still_step
      refine wpStill_nil ?_
      have HW : Hid (word (subS s t) k = (subN) (word s k) (word t k)) := word_map2 (subN) s t hlt
      go_wp2
      go_roundw
      case rel =>
        refine ⟨k + 1, by omega, by go_num, (hext.set (Nat.le_refl _) _ _).dr, ?_, ?_, ?_⟩
        · rw [Hid, ← mixS_step hlt, HW.out, ← setC_set _ hlt]
          exact blk_set hb1.out k _
        · exact blk_other hb2.out k _ (by omega)
        · exact blk_other hb3.out k _ (by omega)
      case measure => simp [intOf]; omega
    · obtain rfl : k = 4 := by omega
      rw [mixS_4] at hb1
      have c0 : wr.cell? ⟨w.heap.size, 0, none⟩ = some (.int .u64 (subS s t).a) := blk hb1.out 0 rfl
      have c1 : wr.cell? ⟨w.heap.size, 1, none⟩ = some (.int .u64 (subS s t).b) := blk hb1.out 1 rfl
      have c2 : wr.cell? ⟨w.heap.size, 2, none⟩ = some (.int .u64 (subS s t).c) := blk hb1.out 2 rfl
      have c3 : wr.cell? ⟨w.heap.size, 3, none⟩ = some (.int .u64 (subS s t).d) := blk hb1.out 3 rfl
      have d0 : wr.cell? ⟨w.heap.size + 1 + 1, 0, none⟩ = some (.int .u64 0) := blk hb3.out 0 rfl
      have d1 : wr.cell? ⟨w.heap.size + 1 + 1, 1, none⟩ = some (.int .u64 0) := blk hb3.out 1 rfl
      have d2 : wr.cell? ⟨w.heap.size + 1 + 1, 2, none⟩ = some (.int .u64 0) := blk hb3.out 2 rfl
      have d3 : wr.cell? ⟨w.heap.size + 1 + 1, 3, none⟩ = some (.int .u64 0) := blk hb3.out 3 rfl
      have f0 : wr.frozen? ⟨w.heap.size + 1 + 1, 0, none⟩ = false := frozen_of_row wr _ 0 _ _ hb3.out
      have f1 : wr.frozen? ⟨w.heap.size + 1 + 1, 1, none⟩ = false := frozen_of_row wr _ 1 _ _ hb3.out
      have f2 : wr.frozen? ⟨w.heap.size + 1 + 1, 2, none⟩ = false := frozen_of_row wr _ 2 _ _ hb3.out
      have f3 : wr.frozen? ⟨w.heap.size + 1 + 1, 3, none⟩ = false := frozen_of_row wr _ 3 _ _ hb3.out
      go_wp2
      exact bodyPost_ret (ret_cell1 rfl rfl (load_set (set4 hb3.out (subS s t)))) rfl ⟨rfl, ext4 hext (by omega) _ _ _ _⟩



set_option maxHeartbeats 2000000 in
set_option maxRecDepth 20000 in
theorem setref_Or (s t : SetT) (w : World) (hs : Set64 s) (ht : Set64 t) :
    Calls Try.prog 29 #[.agg #[.int .u64 s.a, .int .u64 s.b, .int .u64 s.c, .int .u64 s.d], .agg #[.int .u64 t.a, .int .u64 t.b, .int .u64 t.c, .int .u64 t.d]] w fun e w' => e = .returned (.agg #[.int .u64 (orS s t).a, .int .u64 (orS s t).b, .int .u64 (orS s t).c, .int .u64 (orS s t).d]) ∧ Ext w w' := by
  go_enter Try.func29, Try.ntmps29
  go_wp2_with fail
  obtain ⟨W, hW, hx0, hz, hb1, hb2, hb3⟩ := three_boxes w ([.int .u64 s.a, .int .u64 s.b, .int .u64 s.c, .int .u64 s.d] : List Value) ([.int .u64 t.a, .int .u64 t.b, .int .u64 t.c, .int .u64 t.d] : List Value) ([.int .u64 0, .int .u64 0, .int .u64 0, .int .u64 0] : List Value) 43 43 43
  rw [← hW]
  clear hW
  have HS := Lib.hid hs
  have HT := Lib.hid ht
  clear hs ht
  go_loopw [5] (fun i wr => ∃ k : Nat, k ≤ 4 ∧ i = .int .i64 k ∧ Ext w wr ∧ Hid (wr.heap[w.heap.size]? = some (.cells (setC (mixS s (orS s t) k)).toArray 43 (0, 0))) ∧ Hid (wr.heap[w.heap.size + 1]? = some (.cells (setC t).toArray 43 (0, 0))) ∧ Hid (wr.heap[w.heap.size + 2]? = some (.cells (setC zeroS).toArray 43 (0, 0))))
    (fun i _ => 4 - (intOf i).toNat)
  case atStart => exact ⟨0, by omega, rfl, hx0, Lib.hid (by rw [mixS_0]; exact hb1), Lib.hid hb2, Lib.hid hb3⟩
  case round =>
    clear hb1 hb2 hb3 hx0 hz
    obtain ⟨k, hk, rfl, hext, hb1, hb2, hb3⟩ := hrel
    by_cases hlt : k < 4
    · have c1 : wr.cell? ⟨w.heap.size, k, none⟩ = some (.int .u64 (word s k)) := by
        rw [← mixS_word (t := orS s t) hlt]; exact blk hb1.out k (by simpa using setC_get _ hlt)
      have c2 : wr.cell? ⟨w.heap.size + 1, k, none⟩ = some (.int .u64 (word t k)) := blk hb2.out k (by simpa using setC_get _ hlt)
      have f1 : wr.frozen? ⟨w.heap.size, k, none⟩ = false := frozen_of_row wr _ k _ _ hb1.out
      have i1 : (0 : Int) ≤ k := by omega
      have i2 : (k : Int) < 4 := by omega
      have hx := word_64 HS.out k
      have hy := word_64 HT.out k
      go_upto_region 4 with fail
      refine wp_region_still_tail 9 (by kernel_rfl) (by kernel_rfl) ?_
      simp only [List.take_succ_cons, List.take_zero, List.drop_succ_cons, List.drop_zero]
      have hq : bits .or .u64 (word s k : Int) (word t k : Int) = ((((· ||| ·)) (word s k) (word t k) : Nat) : Int) := u64_or_nat (word s k) (word t k) hx hy
      repeat still_step
      refine wpStill_nil ?_
      have HW : Hid (word (orS s t) k = ((· ||| ·)) (word s k) (word t k)) := word_map2 ((· ||| ·)) s t hlt
      go_wp2
      go_roundw
      case rel =>
        refine ⟨k + 1, by omega, by go_num, (hext.set (Nat.le_refl _) _ _).dr, ?_, ?_, ?_⟩
        · rw [Hid, ← mixS_step hlt, HW.out, ← setC_set _ hlt]
          exact blk_set hb1.out k _
        · exact blk_other hb2.out k _ (by omega)
        · exact blk_other hb3.out k _ (by omega)
      case measure => simp [intOf]; omega
    · obtain rfl : k = 4 := by omega
      rw [mixS_4] at hb1
      have c0 : wr.cell? ⟨w.heap.size, 0, none⟩ = some (.int .u64 (orS s t).a) := blk hb1.out 0 rfl
      have c1 : wr.cell? ⟨w.heap.size, 1, none⟩ = some (.int .u64 (orS s t).b) := blk hb1.out 1 rfl
      have c2 : wr.cell? ⟨w.heap.size, 2, none⟩ = some (.int .u64 (orS s t).c) := blk hb1.out 2 rfl
      have c3 : wr.cell? ⟨w.heap.size, 3, none⟩ = some (.int .u64 (orS s t).d) := blk hb1.out 3 rfl
      have d0 : wr.cell? ⟨w.heap.size + 1 + 1, 0, none⟩ = some (.int .u64 0) := blk hb3.out 0 rfl
      have d1 : wr.cell? ⟨w.heap.size + 1 + 1, 1, none⟩ = some (.int .u64 0) := blk hb3.out 1 rfl
      have d2 : wr.cell? ⟨w.heap.size + 1 + 1, 2, none⟩ = some (.int .u64 0) := blk hb3.out 2 rfl
      have d3 : wr.cell? ⟨w.heap.size + 1 + 1, 3, none⟩ = some (.int .u64 0) := blk hb3.out 3 rfl
      have f0 : wr.frozen? ⟨w.heap.size + 1 + 1, 0, none⟩ = false := frozen_of_row wr _ 0 _ _ hb3.out
      have f1 : wr.frozen? ⟨w.heap.size + 1 + 1, 1, none⟩ = false := frozen_of_row wr _ 1 _ _ hb3.out
      have f2 : wr.frozen? ⟨w.heap.size + 1 + 1, 2, none⟩ = false := frozen_of_row wr _ 2 _ _ hb3.out
      have f3 : wr.frozen? ⟨w.heap.size + 1 + 1, 3, none⟩ = false := frozen_of_row wr _ 3 _ _ hb3.out
      go_wp2
      exact bodyPost_ret (ret_cell1 rfl rfl (load_set (set4 hb3.out (orS s t)))) rfl ⟨rfl, ext4 hext (by omega) _ _ _ _⟩

end Go.Proofs.Ytofdkhilapmccaa
