/- Sets of slots: slots.With, slots.Range, the reference's Range. -/
import Derived.Test.YtofdkhilapmccaaSetX
import Derived.Outline
import Derived.IntWalk
namespace Go.Proofs.Ytofdkhilapmccaa
open Go.RowKit

def isSlot (n : Int) : Bool := decide (0 ≤ n) && decide (n < 256)
theorem slots_is (n : Int) (w : World) : Calls Try.prog 177 #[.int .i64 n] w fun e w' => e = .returned (.bool (isSlot n)) ∧ w = w' := by
  unfold isSlot
  cases t1 : decide (0 ≤ n) <;> cases t2 : decide (n < 256) <;>
  (go_enter Try.func177, Try.ntmps177
   go_wp2
   go_ret
   exact ⟨rfl, rfl⟩)

theorem two_blocks (w : World) (cs ds : List Value) (t u : TypeId) :
    ∃ W : World, W = (w.alloc (.cells cs.toArray t)).alloc (.cells ds.toArray u) ∧ Ext w W ∧ W.heap.size = w.heap.size + 2 ∧
      W.heap[w.heap.size]? = some (.cells cs.toArray t (0, 0)) ∧ W.heap[w.heap.size + 1]? = some (.cells ds.toArray u (0, 0)) := by
  refine ⟨_, rfl, ((Ext.rf w).al _).al _, by simp, ?_, ?_⟩
  · exact ((Ext.rf _).al _).blk (alloc_new w _)
  · have := alloc_new (w.alloc (.cells cs.toArray t)) (.cells ds.toArray u)
    rwa [show (w.alloc (.cells cs.toArray t)).heap.size = w.heap.size + 1 by simp] at this

set_option maxHeartbeats 1000000 in
set_option maxRecDepth 20000 in
theorem slots_With (s : SetT) (n : Nat) (w : World) (hs : Set64 s) (hn : n < 256) :
    Calls Try.prog 143 #[.agg #[.int .u64 s.a, .int .u64 s.b, .int .u64 s.c, .int .u64 s.d], .int .i64 n] w fun e w' => e = .returned (.agg #[.int .u64 (withS s n).a, .int .u64 (withS s n).b, .int .u64 (withS s n).c, .int .u64 (withS s n).d]) ∧ Ext w w' := by
  have HS := Lib.hid hs
  have hi : isSlot n = true := by simp only [isSlot, Bool.and_eq_true, decide_eq_true_eq]; omega
  clear hs
  go_enter Try.func143, Try.ntmps143
  go_upto_region 1 with fail
  obtain ⟨W, hW, hx0, hz, hb1, hb2⟩ := two_blocks w ([.int .u64 s.a, .int .u64 s.b, .int .u64 s.c, .int .u64 s.d] : List Value) ([.int .u64 0, .int .u64 0, .int .u64 0, .int .u64 0] : List Value) 43 43
  rw [← hW]
  clear hW
  replace hb1 : W.heap[w.heap.size]? = some (.cells (setC s).toArray 43 (0, 0)) := hb1
  replace hb2 : W.heap[w.heap.size + 1]? = some (.cells (setC zeroS).toArray 43 (0, 0)) := hb2
  go_wp2_with fail
  refine (slots_is n W).mono ?_
  rw [hi]
  rintro e w1 ⟨rfl, rfl⟩
  clear hi
  have hq4 : n / 64 < 4 := by omega
  have hr64 : n % 64 < 64 := Nat.mod_lt _ (by decide)
  have hq : (n : Int) / 64 = ((n / 64 : Nat) : Int) := by omega
  have hr : (n : Int) % 64 = ((n % 64 : Nat) : Int) := by omega
  have hrt : (n : Int).tmod 64 = ((n % 64 : Nat) : Int) := rfl
  have HWD : Hid (withS s n = setW s (n / 64) (word s (n / 64) ||| 2 ^ (n % 64))) := rfl
  generalize n / 64 = q at *
  generalize n % 64 = r at *
  have c1 : W.cell? ⟨w.heap.size, q, none⟩ = some (.int .u64 (word s q)) := blk hb1 q (by simpa using setC_get s hq4)
  have f1 : W.frozen? ⟨w.heap.size, q, none⟩ = false := frozen_of_row W _ q _ _ hb1
  have hx := word_64 HS.out q
  have hy := pow_64 hr64
  obtain ⟨P, hP⟩ : ∃ P : Nat, P = 2 ^ r := ⟨_, rfl⟩
  have hPi : (2 : Int) ^ r = (P : Int) := by rw [hP]; simp
  rw [← hP] at hy HWD
  have hor : bits .or .u64 (word s q : Int) (P : Int) = ((word s q ||| P : Nat) : Int) := u64_or_nat (word s q) P hx hy
  have hsh : IntKind.u64.wrap (P : Int) = (P : Int) := by rw [IntKind.wrap_u64]; omega
  clear hP
  have i1 : (0 : Int) ≤ q := by omega
  have i2 : (q : Int) < 4 := by omega
  have i3 : (0 : Int) ≤ r := by omega
  have i4 : (r : Int) < 64 := by omega
  have hwq : IntKind.i64.wrap (q : Int) = q := IntWalk.i64_in _ (by omega)
  have hwr : IntKind.i64.wrap (r : Int) = r := IntWalk.i64_in _ (by omega)
  have HX := Lib.hid hx0
  have HB1 := Lib.hid hb1
  have HB2 := Lib.hid hb2
  clear hx0 hb1 hb2
  go_upto_region 2 with fail
  refine wp_region_still_tail 9 (by kernel_rfl) (by kernel_rfl) ?_
  simp only [List.take_succ_cons, List.take_zero, List.drop_succ_cons, List.drop_zero]
  repeat still_step
  refine wpStill_nil ?_
  go_upto_region 3 with fail
  have hb5 : (W.setCell ⟨w.heap.size, q, none⟩ (.int .u64 ((word s q ||| P : Nat) : Int))).drew.heap[w.heap.size]? = some (.cells (setC (withS s n)).toArray 43 (0, 0)) := by
    rw [HWD.out, ← setC_set s hq4]; exact blk_set HB1.out q _
  have hb6 : (W.setCell ⟨w.heap.size, q, none⟩ (.int .u64 ((word s q ||| P : Nat) : Int))).drew.heap[w.heap.size + 1]? = some (.cells (setC zeroS).toArray 43 (0, 0)) := blk_other HB2.out q _ (by omega)
  have hx5 := (HX.out.set (Nat.le_refl _) q (.int .u64 ((word s q ||| P : Nat) : Int))).dr
  generalize (W.setCell ⟨w.heap.size, q, none⟩ (.int .u64 ((word s q ||| P : Nat) : Int))).drew = W5 at *
  generalize hr5 : withS s n = R at *
  have HR5 := Lib.hid hr5
  clear hr5 HWD c1 f1
  have c0 : W5.cell? ⟨w.heap.size, 0, none⟩ = some (.int .u64 R.a) := blk hb5 0 rfl
  have c1 : W5.cell? ⟨w.heap.size, 1, none⟩ = some (.int .u64 R.b) := blk hb5 1 rfl
  have c2 : W5.cell? ⟨w.heap.size, 2, none⟩ = some (.int .u64 R.c) := blk hb5 2 rfl
  have c3 : W5.cell? ⟨w.heap.size, 3, none⟩ = some (.int .u64 R.d) := blk hb5 3 rfl
  have d0 : W5.cell? ⟨(w.heap.size + 1), 0, none⟩ = some (.int .u64 0) := blk hb6 0 rfl
  have d1 : W5.cell? ⟨(w.heap.size + 1), 1, none⟩ = some (.int .u64 0) := blk hb6 1 rfl
  have d2 : W5.cell? ⟨(w.heap.size + 1), 2, none⟩ = some (.int .u64 0) := blk hb6 2 rfl
  have d3 : W5.cell? ⟨(w.heap.size + 1), 3, none⟩ = some (.int .u64 0) := blk hb6 3 rfl
  have f0 : W5.frozen? ⟨(w.heap.size + 1), 0, none⟩ = false := frozen_of_row W5 _ 0 _ _ hb6
  have f1 : W5.frozen? ⟨(w.heap.size + 1), 1, none⟩ = false := frozen_of_row W5 _ 1 _ _ hb6
  have f2 : W5.frozen? ⟨(w.heap.size + 1), 2, none⟩ = false := frozen_of_row W5 _ 2 _ _ hb6
  have f3 : W5.frozen? ⟨(w.heap.size + 1), 3, none⟩ = false := frozen_of_row W5 _ 3 _ _ hb6
  have HB6 := Lib.hid hb6
  have HX5 := Lib.hid hx5
  clear hb5 hb6 hx5
  go_wp2_with fail
  exact bodyPost_ret (ret_cell1 rfl rfl (load_set (set4 HB6.out R))) rfl ⟨by rw [HR5.out], ext4 HX5.out (by omega) _ _ _ _⟩
end Go.Proofs.Ytofdkhilapmccaa
