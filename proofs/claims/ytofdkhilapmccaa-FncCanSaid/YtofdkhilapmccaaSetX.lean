/- Sets of slots: slots.Sub, slots.Inside, the reference's Inside. -/
import Derived.Test.YtofdkhilapmccaaSetW
namespace Go.Proofs.Ytofdkhilapmccaa
open Go.RowKit

set_option maxHeartbeats 1000000 in
set_option maxRecDepth 20000 in
theorem slots_Sub (s t : SetT) (w : World) (hs : Set64 s) (ht : Set64 t) :
    Calls Try.prog 205 #[.agg #[.int .u64 s.a, .int .u64 s.b, .int .u64 s.c, .int .u64 s.d], .agg #[.int .u64 t.a, .int .u64 t.b, .int .u64 t.c, .int .u64 t.d]] w fun e w' => e = .returned (.agg #[.int .u64 (subS s t).a, .int .u64 (subS s t).b, .int .u64 (subS s t).c, .int .u64 (subS s t).d]) ∧ Ext w w' := by
  have HS := Lib.hid hs
  have HT := Lib.hid ht
  clear hs ht
  go_enter Try.func205, Try.ntmps205
  go_upto_region 1 with fail
  obtain ⟨W, hW, hx0, hz, hb1, hb2, hb3⟩ := three_boxes w ([.int .u64 s.a, .int .u64 s.b, .int .u64 s.c, .int .u64 s.d] : List Value) ([.int .u64 t.a, .int .u64 t.b, .int .u64 t.c, .int .u64 t.d] : List Value) ([.int .u64 0, .int .u64 0, .int .u64 0, .int .u64 0] : List Value) 43 43 43
  rw [← hW]
  clear hW
  have c0 : W.cell? ⟨w.heap.size, 0, none⟩ = some (.int .u64 s.a) := blk hb1 0 rfl
  have c1 : W.cell? ⟨w.heap.size, 1, none⟩ = some (.int .u64 s.b) := blk hb1 1 rfl
  have c2 : W.cell? ⟨w.heap.size, 2, none⟩ = some (.int .u64 s.c) := blk hb1 2 rfl
  have c3 : W.cell? ⟨w.heap.size, 3, none⟩ = some (.int .u64 s.d) := blk hb1 3 rfl
  have d0 : W.cell? ⟨(w.heap.size + 1), 0, none⟩ = some (.int .u64 t.a) := blk hb2 0 rfl
  have d1 : W.cell? ⟨(w.heap.size + 1), 1, none⟩ = some (.int .u64 t.b) := blk hb2 1 rfl
  have d2 : W.cell? ⟨(w.heap.size + 1), 2, none⟩ = some (.int .u64 t.c) := blk hb2 2 rfl
  have d3 : W.cell? ⟨(w.heap.size + 1), 3, none⟩ = some (.int .u64 t.d) := blk hb2 3 rfl
  have hb3' : W.heap[w.heap.size + 2]? = some (.cells (setC zeroS).toArray 43 (0, 0)) := hb3
  clear hb1 hb2 hb3
  have HX0 := Lib.hid hx0
  have HB := Lib.hid hb3'
  clear hx0 hb3'
  go_wp2_with fail
  refine (slots_bothSub s t _ HS.out HT.out).mono ?_
  rintro e w1 ⟨rfl, hx1⟩
  have HX1 := Lib.hid (HX0.out.tr hx1)
  have hb := hx1.blk HB.out
  clear hx1
  generalize hr : subS s t = r at *
  have HRr := Lib.hid hr
  clear hr
  have d0 : w1.cell? ⟨w.heap.size + 1 + 1, 0, none⟩ = some (.int .u64 0) := blk hb 0 rfl
  have d1 : w1.cell? ⟨w.heap.size + 1 + 1, 1, none⟩ = some (.int .u64 0) := blk hb 1 rfl
  have d2 : w1.cell? ⟨w.heap.size + 1 + 1, 2, none⟩ = some (.int .u64 0) := blk hb 2 rfl
  have d3 : w1.cell? ⟨w.heap.size + 1 + 1, 3, none⟩ = some (.int .u64 0) := blk hb 3 rfl
  have f0 : w1.frozen? ⟨w.heap.size + 1 + 1, 0, none⟩ = false := frozen_of_row w1 _ 0 _ _ hb
  have f1 : w1.frozen? ⟨w.heap.size + 1 + 1, 1, none⟩ = false := frozen_of_row w1 _ 1 _ _ hb
  have f2 : w1.frozen? ⟨w.heap.size + 1 + 1, 2, none⟩ = false := frozen_of_row w1 _ 2 _ _ hb
  have f3 : w1.frozen? ⟨w.heap.size + 1 + 1, 3, none⟩ = false := frozen_of_row w1 _ 3 _ _ hb
  have HB1 := Lib.hid hb
  clear hb
  go_wp2_with fail
  exact bodyPost_ret (ret_cell1 rfl rfl (load_set (set4 HB1.out r))) rfl ⟨by rw [HRr.out], ext4 HX1.out (by omega) _ _ _ _⟩

def insideS (s t : SetT) : Bool := decide (subS s t = zeroS)

theorem eql_zero (r : SetT) (W : World) : (binOp .eql 43 (.agg #[.int .u64 r.a, .int .u64 r.b, .int .u64 r.c, .int .u64 r.d]) (.agg #[.int .u64 0, .int .u64 0, .int .u64 0, .int .u64 0])).run Try.prog W = .ok (.bool (decide (r = zeroS))) W := by
  have h := run_eql_arr (P := Try.prog) (k := .u64) (t := 43) (e := 41) (n := 4) Try.underlying43 Try.underlying41 (fun _ => by kernel_rfl) W (setI r) (setI zeroS) rfl rfl
  simp only [setI_eq] at h
  exact h

set_option maxHeartbeats 1000000 in
set_option maxRecDepth 20000 in
theorem slots_Inside (s t : SetT) (w : World) (hs : Set64 s) (ht : Set64 t) :
    Calls Try.prog 201 #[.agg #[.int .u64 s.a, .int .u64 s.b, .int .u64 s.c, .int .u64 s.d], .agg #[.int .u64 t.a, .int .u64 t.b, .int .u64 t.c, .int .u64 t.d]] w fun e w' => e = .returned (.bool (insideS s t)) ∧ Ext w w' := by
  have HS := Lib.hid hs
  have HT := Lib.hid ht
  have HI : Hid (insideS s t = decide (subS s t = zeroS)) := rfl
  clear hs ht
  go_enter Try.func201, Try.ntmps201
  go_wp2_with fail
  refine (slots_Sub s t _ HS.out HT.out).mono ?_
  rintro e w1 ⟨rfl, hx1⟩
  generalize subS s t = r at *
  have hq := eql_zero r
  go_wp2_with fail
  go_ret
  exact ⟨by rw [HI.out] <;> rfl, (((Ext.rf w).al _).al _).tr hx1⟩

set_option maxHeartbeats 1000000 in
set_option maxRecDepth 20000 in
theorem setref_Inside (s t : SetT) (w : World) (hs : Set64 s) (ht : Set64 t) :
    Calls Try.prog 189 #[.agg #[.int .u64 s.a, .int .u64 s.b, .int .u64 s.c, .int .u64 s.d], .agg #[.int .u64 t.a, .int .u64 t.b, .int .u64 t.c, .int .u64 t.d]] w fun e w' => e = .returned (.bool (insideS s t)) ∧ Ext w w' := by
  have HS := Lib.hid hs
  have HT := Lib.hid ht
  have HI : Hid (insideS s t = decide (subS s t = zeroS)) := rfl
  clear hs ht
  go_enter Try.func189, Try.ntmps189
  go_wp2_with fail
  refine (setref_Sub s t _ HS.out HT.out).mono ?_
  rintro e w1 ⟨rfl, hx1⟩
  generalize subS s t = r at *
  have hq := eql_zero r
  go_wp2_with fail
  go_ret
  exact ⟨by rw [HI.out] <;> rfl, (((Ext.rf w).al _).al _).tr hx1⟩
end Go.Proofs.Ytofdkhilapmccaa
