/- InstrReads: the instruction, and the number, of any text is what the page says: the walk of the law. -/
import Derived.Test.YtofdkhilapmccaaInstrL
import Derived.Test.YtofdkhilapmccaaOpen2
namespace Go.Proofs.Ytofdkhilapmccaa
open Go.RowKit

set_option maxHeartbeats 2000000 in
set_option maxRecDepth 20000 in
theorem InstrReads_walk (s0 : ByteArray) (hs0 : s0.size ≤ 9223372036854775807) (x1 : Int) (hx1 : (Lit.int .i64 x1).wf = true) (m0 : Int) (w : World) (hm0 : w.cell? ⟨0, 0, none⟩ = some (.int .i64 m0)) :
    Calls Try.prog 7 #[.string s0, .int .i64 x1] w fun e w' => e = .returned (.bool true) ∧ Ext w w' := by
  obtain ⟨s, rfl⟩ : ∃ s, s0 = strB s := ⟨s0.data.toList, (strB_data s0).symm⟩
  obtain ⟨hn1, hn2⟩ := wf_i64 hx1
  have HM := Lib.hid hm0
  have HZ : Hid ((strB s).size = s.length) := strB_size s
  clear hx1 hm0
  by_cases h100 : 100 < s.length
  · have t1 : decide ((100 : Int) < (strB s).size) = true := decide_eq_true (by rw [HZ.out]; omega)
    clear h100
    go_enter Try.func7, Try.ntmps7
    go_wp2_with fail
    refine (instr_lives _ _ HM.out).mono ?_
    rintro e w1 ⟨rfl, hb⟩
    go_wp2_with fail
    go_ret
    exact ⟨rfl, hb⟩
  · have t1 : decide ((100 : Int) < (strB s).size) = false := decide_eq_false (by rw [HZ.out]; omega)
    have H1 := Lib.hid (fun W hm => instr_Read s m0 W hm (by omega))
    have H2 := Lib.hid (fun W => instrref_Read s W (by omega))
    have H3 := Lib.hid (fun W => instr_Number s W (by omega))
    have H4 := Lib.hid (fun W => instrref_Number s W (by omega))
    have H5 := Lib.hid (fun W => instr_Digits x1 W hn1 hn2)
    have H6 := Lib.hid (fun W => ref_Digits x1 W hn1 hn2)
    generalize readI s = V at *
    obtain ⟨⟨a, b⟩, er⟩ := V
    generalize numN s = N at *
    obtain ⟨nn, ne⟩ := N
    generalize strB (decB x1) = D at *
    have hq : ∀ W, (binOp .eql 49 (.agg #[.int .i64 a, .int .i64 b]) (.agg #[.int .i64 a, .int .i64 b])).run Try.prog W = .ok (.bool true) W := fun W => by
      have h := run_eql_ints (P := Try.prog) (k := .i64) (t := 49) (n := 2) (by decide) (by kernel_rfl) W [a, b] [a, b] rfl rfl
      simpa using h
    have q1 : (er == er) = true := by simp
    have q2 : (nn == nn) = true := by simp
    have q3 : (ne == ne) = true := by simp
    have q4 : (D.toList == D.toList) = true := by simp
    clear h100
    go_enter Try.func7, Try.ntmps7
    go_wp2_with fail
    refine (H1.out _ HM.out).mono ?_
    rintro e w1 ⟨rfl, hx1⟩
    have HX1 := Lib.hid hx1
    clear hx1
    go_wp2_with fail
    refine (H2.out _).mono ?_
    rintro e w2 ⟨rfl, hx2⟩
    have B1 := Lib.hid (hx2.blk (alloc_new w1 (.cells #[.int .i64 a, .int .i64 b] 49)))
    have HX2 := Lib.hid ((HX1.out.al (.cells #[.int .i64 a, .int .i64 b] 49)).tr hx2)
    clear hx2
    generalize w1.heap.size = g1 at *
    go_wp2_with fail
    obtain ⟨w3, hw3⟩ : ∃ x, x = w2.alloc (.cells #[.int .i64 a, .int .i64 b] 49) := ⟨_, rfl⟩
    rw [← hw3]
    have HX3 := Lib.hid (show Ext w w3 by rw [hw3]; exact HX2.out.al _)
    have B2 := Lib.hid (show w3.heap[w2.heap.size]? = some (.cells #[.int .i64 a, .int .i64 b] 49 (0, 0)) by rw [hw3]; exact alloc_new w2 _)
    have B1 := Lib.hid (show w3.heap[g1]? = some (.cells #[.int .i64 a, .int .i64 b] 49 (0, 0)) by rw [hw3]; exact Ext.blk ((Ext.rf w2).al _) B1.out)
    clear hw3
    generalize w2.heap.size = g2 at *
    refine (H3.out _).mono ?_
    rintro e w4 ⟨rfl, hx4⟩
    go_wp2_with fail
    refine (H4.out _).mono ?_
    rintro e w5 ⟨rfl, hx5⟩
    have hx35 := hx4.tr hx5
    have b0 : w5.cell? ⟨g1, 0, none⟩ = some (.int .i64 a) := blk (hx35.blk B1.out) 0 rfl
    have b1 : w5.cell? ⟨g1, 1, none⟩ = some (.int .i64 b) := blk (hx35.blk B1.out) 1 rfl
    have c0 : w5.cell? ⟨g2, 0, none⟩ = some (.int .i64 a) := blk (hx35.blk B2.out) 0 rfl
    have c1 : w5.cell? ⟨g2, 1, none⟩ = some (.int .i64 b) := blk (hx35.blk B2.out) 1 rfl
    have HX5 := Lib.hid (HX3.out.tr hx35)
    clear hx4 hx5 hx35
    go_wp2_with fail
    refine (H5.out _).mono ?_
    rintro e w6 ⟨rfl, hx6⟩
    go_wp2_with fail
    refine (H6.out _).mono ?_
    rintro e w7 ⟨rfl, hx7⟩
    have HX7 := Lib.hid (HX5.out.tr (hx6.tr hx7))
    clear hx6 hx7
    go_wp2_with fail
    refine (instr_lives _ _ (HX7.out.has HM.out)).mono ?_
    rintro e w8 ⟨rfl, hx8⟩
    go_wp2_with fail
    go_ret
    exact ⟨rfl, HX7.out.tr hx8⟩
end Go.Proofs.Ytofdkhilapmccaa
