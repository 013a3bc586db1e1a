/- Chapter 10's own examples. -/
import Derived.Test.YtofdkhilapmccaaInstrR
namespace Go.Proofs.Ytofdkhilapmccaa
open Go.RowKit

theorem dec_2000 : decB 2000 = [50, 48, 48, 48] := by
  rw [decB_nn (by decide)]
  show digN 2000 = _
  rw [digN_ge (by decide), digN_ge (show 10 ≤ 2000 / 10 by decide), digN_ge (show 10 ≤ 2000 / 10 / 10 by decide), digN_lt (show 2000 / 10 / 10 / 10 < 10 by decide), digN_lt (show 2000 / 10 / 10 % 10 < 10 by decide)]
  decide +kernel
theorem dec_m3 : decB (-3) = [45, 51] := by
  rw [decB_neg (by decide)]
  show 45 :: digN 3 = _
  rw [digN_lt (by decide)]
  decide +kernel
theorem num_2000 : numN [50, 48, 48, 48] = (2000, 0) := by
  have h : digW (sgN [50, 48, 48, 48]) (restN [50, 48, 48, 48]) 0 = 2000 := by decide +kernel
  rw [numN_ok ⟨by decide +kernel, by decide +kernel, by decide +kernel, by rw [h]; exact dec_2000⟩, h]
theorem num_m3 : numN [45, 51] = (-3, 0) := by
  have h : digW (sgN [45, 51]) (restN [45, 51]) 0 = -3 := by decide +kernel
  rw [numN_ok ⟨by decide +kernel, by decide +kernel, by decide +kernel, by rw [h]; exact dec_m3⟩, h]
theorem read_jump : readI [106, 117, 109, 112, 32, 50, 48, 48, 48] = ((0, 0), 2) := by
  have h := (readI_eq [106, 117, 109, 112, 32, 50, 48, 48, 48] (21, true) (by decide +kernel) (2000, 0) (by rw [show restS [106, 117, 109, 112, 32, 50, 48, 48, 48] = [50, 48, 48, 48] by decide +kernel, num_2000])).2.2.2.2.2.2
  exact h rfl (by decide +kernel) (by decide +kernel) rfl (by decide +kernel)
theorem read_push : readI [112, 117, 115, 104, 32, 45, 51] = ((1, -3), 0) := by
  have h := (readI_eq [112, 117, 115, 104, 32, 45, 51] (1, true) (by decide +kernel) (-3, 0) (by rw [show restS [112, 117, 115, 104, 32, 45, 51] = [45, 51] by decide +kernel, num_m3])).2.2.2.2.2.1
  exact h rfl (by decide +kernel) (by decide +kernel) rfl (by decide +kernel)
theorem text_push : textI (1, -3) = [112, 117, 115, 104, 32, 45, 51] := by
  rw [textI_has (by decide +kernel) (by decide +kernel), dec_m3]
  decide +kernel

set_option maxHeartbeats 1000000 in
set_option maxRecDepth 20000 in
theorem instr_lives (m : Int) (w : World) (hm : w.cell? ⟨0, 0, none⟩ = some (.int .i64 m)) : Calls Try.prog 30 #[] w fun e w' => e = .returned (.bool true) ∧ Ext w w' := by
  have HR1 := Lib.hid (fun W hm' => instr_Read [106, 117, 109, 112, 32, 50, 48, 48, 48] m W hm' (by decide))
  have HR2 := Lib.hid (fun W hm' => instr_Read [112, 117, 115, 104, 32, 45, 51] m W hm' (by decide))
  rw [read_jump] at HR1
  rw [read_push] at HR2
  have HT := Lib.hid (fun W => instr_Text 1 (-3) W ⟨by decide, by decide⟩)
  rw [text_push] at HT
  have hr : rightInstr (1, -3) = true := by decide +kernel
  have ht : ((strB [112, 117, 115, 104, 32, 45, 51]).toList == [112, 117, 115, 104, 32, 45, 51]) = true := by rw [ByteArray.toList_eq, strB_toL]; decide
  have HM := Lib.hid hm
  clear hm
  go_enter Try.func30, Try.ntmps30
  go_wp2_with fail
  refine (HR1.out _ HM.out).mono ?_
  rintro e w1 ⟨rfl, hx1⟩
  have HX1 := Lib.hid hx1
  clear hx1
  go_wp2_with fail
  refine (HR2.out _ ((HX1.out.al _).has HM.out)).mono ?_
  rintro e w2 ⟨rfl, hx2⟩
  have HX2 := Lib.hid ((HX1.out.al (.cells #[.int .i64 0, .int .i64 0] 49)).tr hx2)
  clear hx2
  go_wp2_with fail
  obtain ⟨w3, hw3⟩ : ∃ x, x = w2.alloc (.cells #[.int .i64 1, .int .i64 (-3)] 49) := ⟨_, rfl⟩
  rw [← hw3]
  have HX3 := Lib.hid (show Ext w w3 by rw [hw3]; exact HX2.out.al _)
  have B3 := Lib.hid (show w3.heap[w2.heap.size]? = some (.cells #[.int .i64 1, .int .i64 (-3)] 49 (0, 0)) by rw [hw3]; exact alloc_new w2 _)
  clear hw3
  generalize w2.heap.size = g at *
  refine (HT.out _).mono ?_
  rintro e w4 ⟨rfl, hx4⟩
  have c0 := blk (hx4.blk B3.out) 0 rfl
  have c1 := blk (hx4.blk B3.out) 1 rfl
  have HX4 := Lib.hid (HX3.out.tr hx4)
  clear hx4
  go_wp2_with fail
  refine (instr_Right 1 (-3) _).mono ?_
  rw [hr]
  rintro e w5 ⟨rfl, hx5⟩
  go_wp2_with fail
  go_ret
  exact ⟨rfl, HX4.out.tr hx5⟩
end Go.Proofs.Ytofdkhilapmccaa
