/- InstrTakes: the instruction that any bytes begin with is what the page says: the walk of the law. -/
import Derived.Test.YtofdkhilapmccaaInstrK
import Derived.Test.YtofdkhilapmccaaInstrL
import Derived.Test.YtofdkhilapmccaaRefE
import Derived.Test.YtofdkhilapmccaaOpen2
namespace Go.Proofs.Ytofdkhilapmccaa
open Go.RowKit

set_option maxHeartbeats 4000000 in
set_option maxRecDepth 20000 in
theorem InstrTakes_walk (ao0 : Option Addr) (cap0 : Nat) (b0 : List UInt8) (m0 : Int) (w : World) (hl0 : Cells w ao0 (b0.map byteC) ∧ b0.length ≤ cap0 ∧ b0.length ≤ 140737488351232) (hm0 : w.cell? ⟨0, 0, none⟩ = some (.int .i64 m0)) :
    Calls Try.prog 11 #[.slice ao0 b0.length cap0] w fun e w' => e = .returned (.bool true) ∧ Ext w w' := by
  obtain ⟨hc0, hcap, hlen⟩ := hl0
  have HL := Lib.hid (lower_of hc0)
  have HC0 := Lib.hid hc0
  have HM := Lib.hid hm0
  clear hc0 hm0
  have HT := Lib.hid (fun g w' (h : CurAt w' g b0 0) => instr_Take g b0 0 w' h hlen)
  have HTR := Lib.hid (fun w' (h : RefAt w' w.heap.size (.agg #[.slice ao0 b0.length cap0, .int .i64 0]) b0 0) (hB : w.heap.size ≤ w'.heap.size) => instrref_Take _ _ b0 0 w' h hB hlen)
  generalize instrTake b0 0 = R at *
  obtain ⟨⟨a, b⟩, R1, R2⟩ := R
  dsimp only at HT HTR
  have hq : ∀ W, (binOp .eql 49 (.agg #[.int .i64 a, .int .i64 b]) (.agg #[.int .i64 a, .int .i64 b])).run Try.prog W = .ok (.bool true) W := fun W => by
    have h := run_eql_ints (P := Try.prog) (k := .i64) (t := 49) (n := 2) (by decide) (by kernel_rfl) W [a, b] [a, b] rfl rfl
    simpa using h
  go_enter Try.func11, Try.ntmps11
  go_wp2_with fail
  refine (cur_New _ _ _ _ HC0.out hlen).mono ?_
  rintro e w1 ⟨g, rfl, hg, hcu, hx⟩
  have HCU := Lib.hid hcu
  have HX1 := Lib.hid hx
  clear hcu hx
  go_wp2_with fail
  refine (HTR.out _ ⟨b0, ao0, cap0, rfl, HC0.out.ext HX1.out, ⟨HL.out, hcap⟩, fun _ => rfl⟩ HX1.out.size).mono ?_
  rintro e w2 ⟨v2, rfl, hr2, hx2⟩
  have HR2 := Lib.hid hr2
  obtain ⟨a2, n2, c2, rfl⟩ := hr2.shape
  have HC2 := Lib.hid (HCU.out.ext hx2)
  have hy2 := HX1.out.tr hx2
  have hgl := HCU.out.lt
  clear hr2 hx2 HCU HX1
  go_wp2_with fail
  obtain ⟨w4, hw4⟩ : ∃ x, x = (w2.alloc (.cells #[.int .i64 a, .int .i64 b] 49)).alloc (.cells #[.slice a2 n2 c2, .int .i64 R2] 67) := ⟨_, rfl⟩
  rw [← hw4]
  have hxa : Ext w2 w4.drew := by rw [hw4]; exact (((Ext.rf _).al _).al _).dr
  have h6 : w4.drew.heap[w2.heap.size]? = some (.cells #[.int .i64 a, .int .i64 b] 49 (0, 0)) := by rw [hw4]; exact Ext.blk ((Ext.rf _).al _) (alloc_new w2 _)
  have h7 : w4.drew.heap[w2.heap.size + 1]? = some (.cells #[.slice a2 n2 c2, .int .i64 R2] 67 (0, 0)) := by rw [hw4]; exact alloc2 w2 _ _
  have hy := hy2.tr hxa
  have HC := Lib.hid (HC2.out.ext hxa)
  have HR := Lib.hid (HR2.out.ext hxa)
  have hgw : w.heap.size ≤ g := by omega
  have hg2 : g < w2.heap.size := HC2.out.lt
  clear hw4 hxa HR2 HC2 hy2
  generalize w2.heap.size = S at *
  have HLc := Lib.hid (fun w' (h : CurAt w' g R1 R2) => cur_Left g R1 R2 w' h)
  have HLr := Lib.hid (fun w' (h : RefAt w' w.heap.size (.agg #[.slice a2 n2 c2, .int .i64 R2]) R1 R2) => ref_Left _ w.heap.size R1 R2 w' h)
  generalize (if R2 = 0 then R1.length else 0) = L at HLc HLr
  have hq1 : (R2 == R2) = true := by simp
  have hq2 : ((L : Int) == L) = true := by simp
  refine wp_region_ext (fun W => Ext w W ∧ W.heap[S]? = some (.cells #[.int .i64 a, .int .i64 b] 49 (0, 0)) ∧ W.heap[S + 1]? = some (.cells #[.slice a2 n2 c2, .int .i64 R2] 67 (0, 0))) (by kernel_rfl) ⟨hy, h6, h7⟩ (fun hS => ?_)
  refine take_op 0 (v := ?_) rfl (by kernel_rfl) (by kernel_rfl) (by kernel_rfl) (Or.inl ⟨by rfl, ?_⟩) (by assumption) ?_
  rotate_left 1
  · (intro W hS; go_simp; try with_reducible rfl)
  (try simp only [Act.put, List.setIfInBounds_toArray, List.set_cons_zero, List.set_cons_succ])
  refine take_op 2 (v := ?_) rfl (by kernel_rfl) (by kernel_rfl) (by kernel_rfl) (Or.inl ⟨by rfl, ?_⟩) (by assumption) ?_
  rotate_left 1
  · (intro W hS; obtain ⟨-, hS6, hS7⟩ := hS; have l0 := blk hS6 0 rfl; have l1 := blk hS6 1 rfl; have m0 := blk hS7 0 rfl; have m1 := blk hS7 1 rfl; go_simp; try with_reducible rfl)
  (try simp only [Act.put, List.setIfInBounds_toArray, List.set_cons_zero, List.set_cons_succ])
  refine do_op 1 rfl (by kernel_rfl) (fun K hK => ?_)
  go_simp; (with_reducible refine (HT.out g _ HC.out).mono ?_); rintro e w5 ⟨rfl, hcu5, hg5⟩
  refine hK.out _ _ ⟨ext_grown hy hg5 hgw, keepG hg5 h6 (by omega), keepG hg5 h7 (by omega)⟩ (fun hS => ?_)
  clear hK K
  (try simp only [Act.put, List.setIfInBounds_toArray, List.set_cons_zero, List.set_cons_succ])
  replace h6 := keepG hg5 h6 (by omega); replace h7 := keepG hg5 h7 (by omega); replace hy := ext_grown hy hg5 hgw; replace HR := Lib.hid (HR.out.call hg5 hgw); replace HC := Lib.hid hcu5
  refine take_op 3 (v := ?_) rfl (by kernel_rfl) (by kernel_rfl) (by kernel_rfl) (Or.inl ⟨by rfl, ?_⟩) (by assumption) ?_
  rotate_left 1
  · (intro W hS; go_simp; try with_reducible rfl)
  (try simp only [Act.put, List.setIfInBounds_toArray, List.set_cons_zero, List.set_cons_succ])
  refine take_op 4 (v := ?_) rfl (by kernel_rfl) (by kernel_rfl) (by kernel_rfl) (Or.inl ⟨by rfl, ?_⟩) (by assumption) ?_
  rotate_left 1
  · (intro W hS; go_simp; try with_reducible rfl)
  (try simp only [Act.put, List.setIfInBounds_toArray, List.set_cons_zero, List.set_cons_succ])
  refine take_op 5 (v := ?_) rfl (by kernel_rfl) (by kernel_rfl) (by kernel_rfl) (Or.inl ⟨by rfl, ?_⟩) (by assumption) ?_
  rotate_left 1
  · (intro W hS; go_simp; try with_reducible rfl)
  (try simp only [Act.put, List.setIfInBounds_toArray, List.set_cons_zero, List.set_cons_succ])
  refine take_op 7 (v := ?_) rfl (by kernel_rfl) (by kernel_rfl) (by kernel_rfl) (Or.inl ⟨by rfl, ?_⟩) (by assumption) ?_
  rotate_left 1
  · (intro W hS; go_simp; try with_reducible rfl)
  (try simp only [Act.put, List.setIfInBounds_toArray, List.set_cons_zero, List.set_cons_succ])
  refine take_op 8 (v := ?_) rfl (by kernel_rfl) (by kernel_rfl) (by kernel_rfl) (Or.inl ⟨by rfl, ?_⟩) (by assumption) ?_
  rotate_left 1
  · (intro W hS; obtain ⟨-, hS6, hS7⟩ := hS; have l0 := blk hS6 0 rfl; have l1 := blk hS6 1 rfl; have m0 := blk hS7 0 rfl; have m1 := blk hS7 1 rfl; go_simp; try with_reducible rfl)
  (try simp only [Act.put, List.setIfInBounds_toArray, List.set_cons_zero, List.set_cons_succ])
  refine do_op 6 rfl (by kernel_rfl) (fun K hK => ?_)
  go_simp; (with_reducible refine (cur_Err g R1 R2 _ HC.out).mono ?_); rintro e w7 ⟨rfl, rfl⟩
  refine hK.out _ _ ⟨hy, h6, h7⟩ (fun hS => ?_)
  clear hK K
  (try simp only [Act.put, List.setIfInBounds_toArray, List.set_cons_zero, List.set_cons_succ])
  refine take_op 9 (v := ?_) rfl (by kernel_rfl) (by kernel_rfl) (by kernel_rfl) (Or.inl ⟨by rfl, ?_⟩) (by assumption) ?_
  rotate_left 1
  · (intro W hS; go_simp; try with_reducible rfl)
  (try simp only [Act.put, List.setIfInBounds_toArray, List.set_cons_zero, List.set_cons_succ])
  refine take_op 10 (v := ?_) rfl (by kernel_rfl) (by kernel_rfl) (by kernel_rfl) (Or.inl ⟨by rfl, ?_⟩) (by assumption) ?_
  rotate_left 1
  · (intro W hS; go_simp; try with_reducible rfl)
  (try simp only [Act.put, List.setIfInBounds_toArray, List.set_cons_zero, List.set_cons_succ])
  refine take_op 11 (v := ?_) rfl (by kernel_rfl) (by kernel_rfl) (by kernel_rfl) (Or.inl ⟨by rfl, ?_⟩) (by assumption) ?_
  rotate_left 1
  · (intro W hS; go_simp; try with_reducible rfl)
  (try simp only [Act.put, List.setIfInBounds_toArray, List.set_cons_zero, List.set_cons_succ])
  refine take_op 12 (v := ?_) rfl (by kernel_rfl) (by kernel_rfl) (by kernel_rfl) (Or.inl ⟨by rfl, ?_⟩) (by assumption) ?_
  rotate_left 1
  · (intro W hS; go_simp; try with_reducible rfl)
  (try simp only [Act.put, List.setIfInBounds_toArray, List.set_cons_zero, List.set_cons_succ])
  refine take_op 14 (v := ?_) rfl (by kernel_rfl) (by kernel_rfl) (by kernel_rfl) (Or.inl ⟨by rfl, ?_⟩) (by assumption) ?_
  rotate_left 1
  · (intro W hS; obtain ⟨-, hS6, hS7⟩ := hS; have l0 := blk hS6 0 rfl; have l1 := blk hS6 1 rfl; have m0 := blk hS7 0 rfl; have m1 := blk hS7 1 rfl; go_simp; try with_reducible rfl)
  (try simp only [Act.put, List.setIfInBounds_toArray, List.set_cons_zero, List.set_cons_succ])
  refine do_op 13 rfl (by kernel_rfl) (fun K hK => ?_)
  go_simp; (with_reducible refine (HLc.out _ HC.out).mono ?_); rintro e w7 ⟨rfl, rfl⟩
  refine hK.out _ _ ⟨hy, h6, h7⟩ (fun hS => ?_)
  clear hK K
  (try simp only [Act.put, List.setIfInBounds_toArray, List.set_cons_zero, List.set_cons_succ])
  refine do_op 15 rfl (by kernel_rfl) (fun K hK => ?_)
  go_simp; (with_reducible refine (HLr.out _ HR.out).mono ?_); rintro e w8 ⟨rfl, hx8⟩
  refine hK.out _ _ ⟨hy.tr hx8, hx8.blk h6, hx8.blk h7⟩ (fun hS => ?_)
  clear hK K
  (try simp only [Act.put, List.setIfInBounds_toArray, List.set_cons_zero, List.set_cons_succ])
  replace hy := hy.tr hx8; replace h6 := hx8.blk h6; replace h7 := hx8.blk h7
  refine take_op 16 (v := ?_) rfl (by kernel_rfl) (by kernel_rfl) (by kernel_rfl) (Or.inl ⟨by rfl, ?_⟩) (by assumption) ?_
  rotate_left 1
  · (intro W hS; go_simp; try with_reducible rfl)
  (try simp only [Act.put, List.setIfInBounds_toArray, List.set_cons_zero, List.set_cons_succ])
  refine take_op 17 (v := ?_) rfl (by kernel_rfl) (by kernel_rfl) (by kernel_rfl) (Or.inl ⟨by rfl, ?_⟩) (by assumption) ?_
  rotate_left 1
  · (intro W hS; go_simp; try with_reducible rfl)
  (try simp only [Act.put, List.setIfInBounds_toArray, List.set_cons_zero, List.set_cons_succ])
  refine take_op 18 (v := ?_) rfl (by kernel_rfl) (by kernel_rfl) (by kernel_rfl) (Or.inl ⟨by rfl, ?_⟩) (by assumption) ?_
  rotate_left 1
  · (intro W hS; go_simp; try with_reducible rfl)
  (try simp only [Act.put, List.setIfInBounds_toArray, List.set_cons_zero, List.set_cons_succ])
  refine do_op 19 rfl (by kernel_rfl) (fun K hK => ?_)
  go_simp; (with_reducible refine (instr_lives _ _ (hy.has HM.out)).mono ?_); rintro e w9 ⟨rfl, hx9⟩
  refine hK.out _ _ ⟨hy.tr hx9, hx9.blk h6, hx9.blk h7⟩ (fun hS => ?_)
  clear hK K
  (try simp only [Act.put, List.setIfInBounds_toArray, List.set_cons_zero, List.set_cons_succ])
  replace hy := hy.tr hx9
  refine take_op 20 (v := ?_) rfl (by kernel_rfl) (by kernel_rfl) (by kernel_rfl) (Or.inl ⟨by rfl, ?_⟩) (by assumption) ?_
  rotate_left 1
  · (intro W hS; go_simp; try with_reducible rfl)
  (try simp only [Act.put, List.setIfInBounds_toArray, List.set_cons_zero, List.set_cons_succ])
  refine take_op 21 (v := ?_) rfl (by kernel_rfl) (by kernel_rfl) (by kernel_rfl) (Or.inl ⟨by rfl, ?_⟩) (by assumption) ?_
  rotate_left 1
  · (intro W hS; go_simp; try with_reducible rfl)
  (try simp only [Act.put, List.setIfInBounds_toArray, List.set_cons_zero, List.set_cons_succ])
  refine wpAnyH_done (by kernel_rfl) ?_ _
  refine NoPanic.normal ?_
  go_wp2_with fail
  go_ret
  exact ⟨rfl, hy⟩
end Go.Proofs.Ytofdkhilapmccaa
