/- SigTakes: the list that any bytes begin with is what the page says: the walk of the law. -/
import Derived.Test.YtfeddkfpkdjbeaaSigTakes
namespace Go.Proofs.Ytfeddkfpkdjbeaa
open Go.RowKit

set_option maxHeartbeats 4000000 in
set_option maxRecDepth 20000 in
theorem SigTakes_walk (ao0 : Option Addr) (cap0 : Nat) (b0 : List UInt8) (x1 : Int) (w : World) (hl0 : Cells w ao0 (b0.map byteC) ∧ b0.length ≤ cap0 ∧ b0.length ≤ 140737488351232) (hx1 : (Lit.int .i64 x1).wf = true) :
    Calls Try.prog 14 #[.slice ao0 b0.length cap0, .int .i64 x1] w fun e w' => e = .returned (.bool true) ∧ Ext w w' := by
  obtain ⟨hc0, hcap, hlen⟩ := hl0
  have hn := wf_i64 hx1
  have HL := Lib.hid (lower_of hc0)
  have HC0 := Lib.hid hc0
  clear hc0 hx1
  by_cases h3 : 300 < x1
  · have t1 : decide (300 < x1) = true := decide_eq_true h3
    go_enter Try.func14, Try.ntmps14
    go_wp2_with fail
    refine (sig_lives _).mono ?_
    rintro e w1 ⟨rfl, hb⟩
    go_wp2_with fail
    go_ret
    exact ⟨rfl, hb⟩
  · have t1 : decide (300 < x1) = false := decide_eq_false h3
    obtain ⟨hn0, -⟩ := hn
    have hn3 : x1 ≤ 300 := by omega
    have hTO := sigTake_ok b0 0 x1 (by omega)
    have hbig : x1.toNat ≤ 300 := by omega
    clear h3
    have HT := Lib.hid (fun g w' (h : CurAt w' g b0 0) => sig_Take g b0 0 x1 w' h hlen hn0 (by omega))
    have HTR := Lib.hid (fun w' (h : RefAt w' w.heap.size (.agg #[.slice ao0 b0.length cap0, .int .i64 0]) b0 0) (hB : w.heap.size ≤ w'.heap.size) => sigref_Take _ _ b0 0 x1 w' h hB hlen hn0 (by omega))
    generalize sigTake b0 0 x1 = R at *
    go_enter Try.func14, Try.ntmps14
    go_wp2_with fail
    refine (cur_New _ _ _ _ HC0.out hlen).mono ?_
    rintro e w1 ⟨g, rfl, hg, hcu, hx⟩
    have HCU := Lib.hid hcu
    have HX1 := Lib.hid hx
    clear hcu hx
    go_wp2_with fail
    refine (HTR.out _ ⟨b0, ao0, cap0, rfl, HC0.out.ext HX1.out, ⟨HL.out, hcap⟩, fun _ => rfl⟩ HX1.out.size).mono ?_
    rintro e w2 ⟨ao2, cap2, v2, rfl, hcs2, hf2, hr2, hx2⟩
    have HR2 := Lib.hid hr2
    obtain ⟨a2, n2, c2, rfl⟩ := hr2.shape
    have HCS2 := Lib.hid hcs2
    have HF2 := Lib.hid hf2
    have HC2 := Lib.hid (HCU.out.ext hx2)
    have hy2 := HX1.out.tr hx2
    have hgl := HCU.out.lt
    clear hcs2 hf2 hr2 hx2 HCU HX1
    go_wp2_with fail
    obtain ⟨w4, hw4⟩ : ∃ x, x = w2.alloc (.cells #[.slice a2 n2 c2, .int .i64 R.2.2] 83) := ⟨_, rfl⟩
    rw [← hw4]
    have hxa : Ext w2 w4.drew := by rw [hw4]; exact ((Ext.rf _).al _).dr
    have h7 : w4.drew.heap[w2.heap.size]? = some (.cells #[.slice a2 n2 c2, .int .i64 R.2.2] 83 (0, 0)) := by rw [hw4]; exact alloc_new w2 _
    have hy := hy2.tr hxa
    have HC := Lib.hid (HC2.out.ext hxa)
    have HCS := Lib.hid (HCS2.out.ext hxa)
    have HR := Lib.hid (HR2.out.ext hxa)
    have hgw : w.heap.size ≤ g := by omega
    have hg2 : g < w2.heap.size := HC2.out.lt
    clear hw4 hxa HCS2 HR2 HC2 hy2
    generalize w2.heap.size = S at *
    have HLc := Lib.hid (fun w' (h : CurAt w' g R.2.1 R.2.2) => cur_Left g R.2.1 R.2.2 w' h)
    have HLr := Lib.hid (fun w' (h : RefAt w' w.heap.size (.agg #[.slice a2 n2 c2, .int .i64 R.2.2]) R.2.1 R.2.2) => ref_Left _ w.heap.size R.2.1 R.2.2 w' h)
    generalize (if R.2.2 = 0 then R.2.1.length else 0) = L at HLc HLr
    have hq1 : (R.2.2 == R.2.2) = true := by simp
    have hq2 : ((L : Int) == L) = true := by simp
    refine wp_region_ext (fun W => Ext w W ∧ W.heap[S]? = some (.cells #[.slice a2 n2 c2, .int .i64 R.2.2] 83 (0, 0))) (by kernel_rfl) ⟨hy, h7⟩ (fun hS => ?_)
    refine take_op 0 (v := ?_) rfl (by kernel_rfl) (by kernel_rfl) (by kernel_rfl) (Or.inl ⟨by rfl, ?_⟩) (by assumption) ?_
    rotate_left 1
    · (intro W hS; go_simp; try with_reducible rfl)
    (try simp only [Act.put, List.setIfInBounds_toArray, List.set_cons_zero, List.set_cons_succ])
    refine take_op 1 (v := ?_) rfl (by kernel_rfl) (by kernel_rfl) (by kernel_rfl) (Or.inl ⟨by rfl, ?_⟩) (by assumption) ?_
    rotate_left 1
    · (intro W hS; go_simp; try with_reducible rfl)
    (try simp only [Act.put, List.setIfInBounds_toArray, List.set_cons_zero, List.set_cons_succ])
    refine take_op 3 (v := ?_) rfl (by kernel_rfl) (by kernel_rfl) (by kernel_rfl) (Or.inl ⟨by rfl, ?_⟩) (by assumption) ?_
    rotate_left 1
    · (intro W hS; go_simp; try with_reducible rfl)
    (try simp only [Act.put, List.setIfInBounds_toArray, List.set_cons_zero, List.set_cons_succ])
    refine do_op 2 rfl (by kernel_rfl) (fun K hK => ?_)
    go_simp; (with_reducible refine (HT.out g _ HC.out).mono ?_); rintro e w5 ⟨ao5, cap5, rfl, hcs5, hf5, hcu5, hg5⟩
    refine hK.out _ _ ⟨ext_grown hy hg5 hgw, (hg5.block _ (Array.getElem?_eq_some_iff.1 h7).1 (by simp; omega)).trans h7⟩ (fun hS => ?_)
    clear hK K
    (try simp only [Act.put, List.setIfInBounds_toArray, List.set_cons_zero, List.set_cons_succ])
    replace h7 := (hg5.block _ (Array.getElem?_eq_some_iff.1 h7).1 (by simp; omega)).trans h7; replace hy := ext_grown hy hg5 hgw; replace HCS := Lib.hid (HCS.out.grown hg5 (fun ad e => (by have := HF2.out ad e; omega))); replace HR := Lib.hid (HR.out.call hg5 hgw); replace HC := Lib.hid hcu5
    refine do_op 4 rfl (by kernel_rfl) (fun K hK => ?_)
    go_simp; (with_reducible refine (sigref_SameN _ _ _ _ _ _ R.1 _ hcs5 HCS.out rfl rfl (by omega)).mono ?_); rintro e w6 ⟨rfl, hx6⟩
    refine hK.out _ _ ⟨hy.tr hx6, hx6.blk h7⟩ (fun hS => ?_)
    clear hK K
    (try simp only [Act.put, List.setIfInBounds_toArray, List.set_cons_zero, List.set_cons_succ])
    replace hy := hy.tr hx6; replace h7 := hx6.blk h7; replace HC := Lib.hid (HC.out.ext hx6); replace HR := Lib.hid (HR.out.ext hx6)
    refine take_op 5 (v := ?_) rfl (by kernel_rfl) (by kernel_rfl) (by kernel_rfl) (Or.inl ⟨by rfl, ?_⟩) (by assumption) ?_
    rotate_left 1
    · (intro W hS; go_simp; try with_reducible rfl)
    (try simp only [Act.put, List.setIfInBounds_toArray, List.set_cons_zero, List.set_cons_succ])
    refine take_op 6 (v := ?_) rfl (by kernel_rfl) (by kernel_rfl) (by kernel_rfl) (Or.inl ⟨by rfl, ?_⟩) (by assumption) ?_
    rotate_left 1
    · (intro W hS; go_simp; try with_reducible rfl)
    (try simp only [Act.put, List.setIfInBounds_toArray, List.set_cons_zero, List.set_cons_succ])
    refine take_op 8 (v := ?_) rfl (by kernel_rfl) (by kernel_rfl) (by kernel_rfl) (Or.inl ⟨by rfl, ?_⟩) (by assumption) ?_
    rotate_left 1
    · (intro W hS; go_simp; try with_reducible rfl)
    (try simp only [Act.put, List.setIfInBounds_toArray, List.set_cons_zero, List.set_cons_succ])
    refine take_op 9 (v := ?_) rfl (by kernel_rfl) (by kernel_rfl) (by kernel_rfl) (Or.inl ⟨by rfl, ?_⟩) (by assumption) ?_
    rotate_left 1
    · (intro W hS; obtain ⟨-, hS7⟩ := hS; have m0 := blk hS7 0 rfl; have m1 := blk hS7 1 rfl; go_simp; try with_reducible rfl)
    (try simp only [Act.put, List.setIfInBounds_toArray, List.set_cons_zero, List.set_cons_succ])
    refine do_op 7 rfl (by kernel_rfl) (fun K hK => ?_)
    go_simp; (with_reducible refine (cur_Err g R.2.1 R.2.2 _ HC.out).mono ?_); rintro e w7 ⟨rfl, rfl⟩
    refine hK.out _ _ ⟨hy, h7⟩ (fun hS => ?_)
    clear hK K
    (try simp only [Act.put, List.setIfInBounds_toArray, List.set_cons_zero, List.set_cons_succ])
    refine take_op 10 (v := ?_) rfl (by kernel_rfl) (by kernel_rfl) (by kernel_rfl) (Or.inl ⟨by rfl, ?_⟩) (by assumption) ?_
    rotate_left 1
    · (intro W hS; go_simp; try with_reducible rfl)
    (try simp only [Act.put, List.setIfInBounds_toArray, List.set_cons_zero, List.set_cons_succ])
    refine take_op 11 (v := ?_) rfl (by kernel_rfl) (by kernel_rfl) (by kernel_rfl) (Or.inl ⟨by rfl, ?_⟩) (by assumption) ?_
    rotate_left 1
    · (intro W hS; go_simp; try with_reducible rfl)
    (try simp only [Act.put, List.setIfInBounds_toArray, List.set_cons_zero, List.set_cons_succ])
    refine take_op 12 (v := ?_) rfl (by kernel_rfl) (by kernel_rfl) (by kernel_rfl) (Or.inl ⟨by rfl, ?_⟩) (by assumption) ?_
    rotate_left 1
    · (intro W hS; go_simp; try with_reducible rfl)
    (try simp only [Act.put, List.setIfInBounds_toArray, List.set_cons_zero, List.set_cons_succ])
    refine take_op 13 (v := ?_) rfl (by kernel_rfl) (by kernel_rfl) (by kernel_rfl) (Or.inl ⟨by rfl, ?_⟩) (by assumption) ?_
    rotate_left 1
    · (intro W hS; go_simp; try with_reducible rfl)
    (try simp only [Act.put, List.setIfInBounds_toArray, List.set_cons_zero, List.set_cons_succ])
    refine take_op 15 (v := ?_) rfl (by kernel_rfl) (by kernel_rfl) (by kernel_rfl) (Or.inl ⟨by rfl, ?_⟩) (by assumption) ?_
    rotate_left 1
    · (intro W hS; obtain ⟨-, hS7⟩ := hS; have m0 := blk hS7 0 rfl; have m1 := blk hS7 1 rfl; go_simp; try with_reducible rfl)
    (try simp only [Act.put, List.setIfInBounds_toArray, List.set_cons_zero, List.set_cons_succ])
    refine do_op 14 rfl (by kernel_rfl) (fun K hK => ?_)
    go_simp; (with_reducible refine (HLc.out _ HC.out).mono ?_); rintro e w7 ⟨rfl, rfl⟩
    refine hK.out _ _ ⟨hy, h7⟩ (fun hS => ?_)
    clear hK K
    (try simp only [Act.put, List.setIfInBounds_toArray, List.set_cons_zero, List.set_cons_succ])
    refine do_op 16 rfl (by kernel_rfl) (fun K hK => ?_)
    go_simp; (with_reducible refine (HLr.out _ HR.out).mono ?_); rintro e w8 ⟨rfl, hx8⟩
    refine hK.out _ _ ⟨hy.tr hx8, hx8.blk h7⟩ (fun hS => ?_)
    clear hK K
    (try simp only [Act.put, List.setIfInBounds_toArray, List.set_cons_zero, List.set_cons_succ])
    replace hy := hy.tr hx8; replace h7 := hx8.blk h7
    refine take_op 17 (v := ?_) rfl (by kernel_rfl) (by kernel_rfl) (by kernel_rfl) (Or.inl ⟨by rfl, ?_⟩) (by assumption) ?_
    rotate_left 1
    · (intro W hS; go_simp; try with_reducible rfl)
    (try simp only [Act.put, List.setIfInBounds_toArray, List.set_cons_zero, List.set_cons_succ])
    refine take_op 18 (v := ?_) rfl (by kernel_rfl) (by kernel_rfl) (by kernel_rfl) (Or.inl ⟨by rfl, ?_⟩) (by assumption) ?_
    rotate_left 1
    · (intro W hS; go_simp; try with_reducible rfl)
    (try simp only [Act.put, List.setIfInBounds_toArray, List.set_cons_zero, List.set_cons_succ])
    refine take_op 19 (v := ?_) rfl (by kernel_rfl) (by kernel_rfl) (by kernel_rfl) (Or.inl ⟨by rfl, ?_⟩) (by assumption) ?_
    rotate_left 1
    · (intro W hS; go_simp; try with_reducible rfl)
    (try simp only [Act.put, List.setIfInBounds_toArray, List.set_cons_zero, List.set_cons_succ])
    refine do_op 20 rfl (by kernel_rfl) (fun K hK => ?_)
    go_simp; (with_reducible refine (sig_lives _).mono ?_); rintro e w9 ⟨rfl, hx9⟩
    refine hK.out _ _ ⟨hy.tr hx9, hx9.blk h7⟩ (fun hS => ?_)
    clear hK K
    (try simp only [Act.put, List.setIfInBounds_toArray, List.set_cons_zero, List.set_cons_succ])
    replace hy := hy.tr hx9
    refine take_op 21 (v := ?_) rfl (by kernel_rfl) (by kernel_rfl) (by kernel_rfl) (Or.inl ⟨by rfl, ?_⟩) (by assumption) ?_
    rotate_left 1
    · (intro W hS; go_simp; try with_reducible rfl)
    (try simp only [Act.put, List.setIfInBounds_toArray, List.set_cons_zero, List.set_cons_succ])
    refine take_op 22 (v := ?_) rfl (by kernel_rfl) (by kernel_rfl) (by kernel_rfl) (Or.inl ⟨by rfl, ?_⟩) (by assumption) ?_
    rotate_left 1
    · (intro W hS; go_simp; try with_reducible rfl)
    (try simp only [Act.put, List.setIfInBounds_toArray, List.set_cons_zero, List.set_cons_succ])
    refine wpAnyH_done (by kernel_rfl) ?_ _
    refine NoPanic.normal ?_
    go_wp2_with fail
    go_ret
    exact ⟨rfl, hy⟩
end Go.Proofs.Ytfeddkfpkdjbeaa
