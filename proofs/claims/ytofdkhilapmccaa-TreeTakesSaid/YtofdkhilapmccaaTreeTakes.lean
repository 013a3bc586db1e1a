/- TreeTakes: the tree that any bytes begin with is what the page says: the walk of the law. -/
import Derived.Test.YtofdkhilapmccaaTreeW
import Derived.Test.YtofdkhilapmccaaTreeL
import Derived.Test.YtofdkhilapmccaaEquals
import Derived.Test.YtofdkhilapmccaaOpen2
namespace Go.Proofs.Ytofdkhilapmccaa
open Go.RowKit

theorem noderef_SameN (ao bo : Option Addr) (ca cb n m : Nat) (l : List NodeT) (w : World) (hl : Cells w ao (l.flatMap nodeC)) (hm : Cells w bo (l.flatMap nodeC)) (hn : n = l.length) (hmm : m = l.length) (hlen : l.length ≤ 17592186044416) :
    Calls Try.prog 55 #[.slice ao n ca, .slice bo m cb] w fun e w' => e = .returned (.bool true) ∧ Ext w w' := by
  subst hn
  subst hmm
  have := noderef_Same ao bo ca cb l l w hl hm hlen hlen
  simpa using this

set_option maxHeartbeats 4000000 in
set_option maxRecDepth 20000 in
theorem TreeTakes_walk (ao0 : Option Addr) (cap0 : Nat) (b0 : List UInt8) (w : World) (hl0 : Cells w ao0 (b0.map byteC) ∧ b0.length ≤ cap0 ∧ b0.length ≤ 140737488351232) :
    Calls Try.prog 10 #[.slice ao0 b0.length cap0] w fun e w' => e = .returned (.bool true) ∧ Ext w w' := by
  obtain ⟨hc0, hcap, hlen⟩ := hl0
  have HL := Lib.hid (lower_of hc0)
  have HC0 := Lib.hid hc0
  clear hc0
  have hTO := (treeTake_ok b0 0).1
  have HT := Lib.hid (fun g w' (h : CurAt w' g b0 0) => tree_Take g b0 0 w' h hlen)
  have HTR := Lib.hid (fun w' (h : RefAt w' w.heap.size (.agg #[.slice ao0 b0.length cap0, .int .i64 0]) b0 0) (hB : w.heap.size ≤ w'.heap.size) => treeref_Take _ _ b0 0 w' h hB hlen)
  generalize treeTake b0 0 = R at *
  go_enter Try.func10, Try.ntmps10
  go_wp2_with fail
  refine (cur_New _ _ _ _ HC0.out hlen).mono ?_
  rintro e w1 ⟨g, rfl, hg, hcu, hx⟩
  have HCU := Lib.hid hcu
  have HX1 := Lib.hid hx
  clear hcu hx
  go_wp2_with fail
  refine (HTR.out _ ⟨b0, ao0, cap0, rfl, HC0.out.ext HX1.out, ⟨HL.out, hcap⟩, fun _ => rfl⟩ HX1.out.size).mono ?_
  rintro e w2 ⟨ao2, cap2, v2, rfl, hcs2, hf2, hr2, hx2⟩
  have HR2 := Lib.hid hr2
  obtain ⟨a2, n2, c2, rfl⟩ := hr2.shape
  have HCS2 := Lib.hid hcs2
  have HF2 := Lib.hid hf2
  have HC2 := Lib.hid (HCU.out.ext hx2)
  have hy2 := HX1.out.tr hx2
  have hgl := HCU.out.lt
  clear hcs2 hf2 hr2 hx2 HCU HX1
  go_wp2_with fail
  obtain ⟨w4, hw4⟩ : ∃ x, x = w2.alloc (.cells #[.slice a2 n2 c2, .int .i64 R.2.2] 67) := ⟨_, rfl⟩
  rw [← hw4]
  have hxa : Ext w2 w4.drew := by rw [hw4]; exact ((Ext.rf _).al _).dr
  have h7 : w4.drew.heap[w2.heap.size]? = some (.cells #[.slice a2 n2 c2, .int .i64 R.2.2] 67 (0, 0)) := by rw [hw4]; exact alloc_new w2 _
  have hy := hy2.tr hxa
  have HC := Lib.hid (HC2.out.ext hxa)
  have HCS := Lib.hid (HCS2.out.ext hxa)
  have HR := Lib.hid (HR2.out.ext hxa)
  have hgw : w.heap.size ≤ g := by omega
  have hg2 : g < w2.heap.size := HC2.out.lt
  clear hw4 hxa HCS2 HR2 HC2 hy2
  generalize w2.heap.size = S at *
  have HLc := Lib.hid (fun w' (h : CurAt w' g R.2.1 R.2.2) => cur_Left g R.2.1 R.2.2 w' h)
  have HLr := Lib.hid (fun w' (h : RefAt w' w.heap.size (.agg #[.slice a2 n2 c2, .int .i64 R.2.2]) R.2.1 R.2.2) => ref_Left _ w.heap.size R.2.1 R.2.2 w' h)
  generalize (if R.2.2 = 0 then R.2.1.length else 0) = L at HLc HLr
  have hq1 : (R.2.2 == R.2.2) = true := by simp
  have hq2 : ((L : Int) == L) = true := by simp
  refine wp_region_ext (fun W => Ext w W ∧ W.heap[S]? = some (.cells #[.slice a2 n2 c2, .int .i64 R.2.2] 67 (0, 0))) (by kernel_rfl) ⟨hy, h7⟩ (fun hS => ?_)
  refine take_op 0 (v := ?_) rfl (by kernel_rfl) (by kernel_rfl) (by kernel_rfl) (Or.inl ⟨by rfl, ?_⟩) (by assumption) ?_
  rotate_left 1
  · (intro W hS; go_simp; try with_reducible rfl)
  (try simp only [Act.put, List.setIfInBounds_toArray, List.set_cons_zero, List.set_cons_succ])
  refine take_op 2 (v := ?_) rfl (by kernel_rfl) (by kernel_rfl) (by kernel_rfl) (Or.inl ⟨by rfl, ?_⟩) (by assumption) ?_
  rotate_left 1
  · (intro W hS; go_simp; try with_reducible rfl)
  (try simp only [Act.put, List.setIfInBounds_toArray, List.set_cons_zero, List.set_cons_succ])
  refine do_op 1 rfl (by kernel_rfl) (fun K hK => ?_)
  go_simp; (with_reducible refine (HT.out g _ HC.out).mono ?_); rintro e w5 ⟨ao5, cap5, rfl, hcs5, hf5, hcu5, hg5⟩
  refine hK.out _ _ ⟨ext_grown hy hg5 hgw, (hg5.block _ (Array.getElem?_eq_some_iff.1 h7).1 (by simp; omega)).trans h7⟩ (fun hS => ?_)
  clear hK K
  (try simp only [Act.put, List.setIfInBounds_toArray, List.set_cons_zero, List.set_cons_succ])
  replace h7 := (hg5.block _ (Array.getElem?_eq_some_iff.1 h7).1 (by simp; omega)).trans h7; replace hy := ext_grown hy hg5 hgw; replace HCS := Lib.hid (HCS.out.grown hg5 (fun ad e => (by have := HF2.out ad e; omega))); replace HR := Lib.hid (HR.out.call hg5 hgw); replace HC := Lib.hid hcu5
  refine do_op 3 rfl (by kernel_rfl) (fun K hK => ?_)
  go_simp; (with_reducible refine (noderef_SameN _ _ _ _ _ _ R.1 _ hcs5 HCS.out rfl rfl (by omega)).mono ?_); rintro e w6 ⟨rfl, hx6⟩
  refine hK.out _ _ ⟨hy.tr hx6, hx6.blk h7⟩ (fun hS => ?_)
  clear hK K
  (try simp only [Act.put, List.setIfInBounds_toArray, List.set_cons_zero, List.set_cons_succ])
  replace hy := hy.tr hx6; replace h7 := hx6.blk h7; replace HC := Lib.hid (HC.out.ext hx6); replace HR := Lib.hid (HR.out.ext hx6)
  refine take_op 4 (v := ?_) rfl (by kernel_rfl) (by kernel_rfl) (by kernel_rfl) (Or.inl ⟨by rfl, ?_⟩) (by assumption) ?_
  rotate_left 1
  · (intro W hS; go_simp; try with_reducible rfl)
  (try simp only [Act.put, List.setIfInBounds_toArray, List.set_cons_zero, List.set_cons_succ])
  refine take_op 5 (v := ?_) rfl (by kernel_rfl) (by kernel_rfl) (by kernel_rfl) (Or.inl ⟨by rfl, ?_⟩) (by assumption) ?_
  rotate_left 1
  · (intro W hS; go_simp; try with_reducible rfl)
  (try simp only [Act.put, List.setIfInBounds_toArray, List.set_cons_zero, List.set_cons_succ])
  refine take_op 7 (v := ?_) rfl (by kernel_rfl) (by kernel_rfl) (by kernel_rfl) (Or.inl ⟨by rfl, ?_⟩) (by assumption) ?_
  rotate_left 1
  · (intro W hS; go_simp; try with_reducible rfl)
  (try simp only [Act.put, List.setIfInBounds_toArray, List.set_cons_zero, List.set_cons_succ])
  refine take_op 8 (v := ?_) rfl (by kernel_rfl) (by kernel_rfl) (by kernel_rfl) (Or.inl ⟨by rfl, ?_⟩) (by assumption) ?_
  rotate_left 1
  · (intro W hS; obtain ⟨-, hS7⟩ := hS; have m0 := blk hS7 0 rfl; have m1 := blk hS7 1 rfl; go_simp; try with_reducible rfl)
  (try simp only [Act.put, List.setIfInBounds_toArray, List.set_cons_zero, List.set_cons_succ])
  refine do_op 6 rfl (by kernel_rfl) (fun K hK => ?_)
  go_simp; (with_reducible refine (cur_Err g R.2.1 R.2.2 _ HC.out).mono ?_); rintro e w7 ⟨rfl, rfl⟩
  refine hK.out _ _ ⟨hy, h7⟩ (fun hS => ?_)
  clear hK K
  (try simp only [Act.put, List.setIfInBounds_toArray, List.set_cons_zero, List.set_cons_succ])
  refine take_op 9 (v := ?_) rfl (by kernel_rfl) (by kernel_rfl) (by kernel_rfl) (Or.inl ⟨by rfl, ?_⟩) (by assumption) ?_
  rotate_left 1
  · (intro W hS; go_simp; try with_reducible rfl)
  (try simp only [Act.put, List.setIfInBounds_toArray, List.set_cons_zero, List.set_cons_succ])
  refine take_op 10 (v := ?_) rfl (by kernel_rfl) (by kernel_rfl) (by kernel_rfl) (Or.inl ⟨by rfl, ?_⟩) (by assumption) ?_
  rotate_left 1
  · (intro W hS; go_simp; try with_reducible rfl)
  (try simp only [Act.put, List.setIfInBounds_toArray, List.set_cons_zero, List.set_cons_succ])
  refine take_op 11 (v := ?_) rfl (by kernel_rfl) (by kernel_rfl) (by kernel_rfl) (Or.inl ⟨by rfl, ?_⟩) (by assumption) ?_
  rotate_left 1
  · (intro W hS; go_simp; try with_reducible rfl)
  (try simp only [Act.put, List.setIfInBounds_toArray, List.set_cons_zero, List.set_cons_succ])
  refine take_op 12 (v := ?_) rfl (by kernel_rfl) (by kernel_rfl) (by kernel_rfl) (Or.inl ⟨by rfl, ?_⟩) (by assumption) ?_
  rotate_left 1
  · (intro W hS; go_simp; try with_reducible rfl)
  (try simp only [Act.put, List.setIfInBounds_toArray, List.set_cons_zero, List.set_cons_succ])
  refine take_op 14 (v := ?_) rfl (by kernel_rfl) (by kernel_rfl) (by kernel_rfl) (Or.inl ⟨by rfl, ?_⟩) (by assumption) ?_
  rotate_left 1
  · (intro W hS; obtain ⟨-, hS7⟩ := hS; have m0 := blk hS7 0 rfl; have m1 := blk hS7 1 rfl; go_simp; try with_reducible rfl)
  (try simp only [Act.put, List.setIfInBounds_toArray, List.set_cons_zero, List.set_cons_succ])
  refine do_op 13 rfl (by kernel_rfl) (fun K hK => ?_)
  go_simp; (with_reducible refine (HLc.out _ HC.out).mono ?_); rintro e w7 ⟨rfl, rfl⟩
  refine hK.out _ _ ⟨hy, h7⟩ (fun hS => ?_)
  clear hK K
  (try simp only [Act.put, List.setIfInBounds_toArray, List.set_cons_zero, List.set_cons_succ])
  refine do_op 15 rfl (by kernel_rfl) (fun K hK => ?_)
  go_simp; (with_reducible refine (HLr.out _ HR.out).mono ?_); rintro e w8 ⟨rfl, hx8⟩
  refine hK.out _ _ ⟨hy.tr hx8, hx8.blk h7⟩ (fun hS => ?_)
  clear hK K
  (try simp only [Act.put, List.setIfInBounds_toArray, List.set_cons_zero, List.set_cons_succ])
  replace hy := hy.tr hx8; replace h7 := hx8.blk h7
  refine take_op 16 (v := ?_) rfl (by kernel_rfl) (by kernel_rfl) (by kernel_rfl) (Or.inl ⟨by rfl, ?_⟩) (by assumption) ?_
  rotate_left 1
  · (intro W hS; go_simp; try with_reducible rfl)
  (try simp only [Act.put, List.setIfInBounds_toArray, List.set_cons_zero, List.set_cons_succ])
  refine take_op 17 (v := ?_) rfl (by kernel_rfl) (by kernel_rfl) (by kernel_rfl) (Or.inl ⟨by rfl, ?_⟩) (by assumption) ?_
  rotate_left 1
  · (intro W hS; go_simp; try with_reducible rfl)
  (try simp only [Act.put, List.setIfInBounds_toArray, List.set_cons_zero, List.set_cons_succ])
  refine take_op 18 (v := ?_) rfl (by kernel_rfl) (by kernel_rfl) (by kernel_rfl) (Or.inl ⟨by rfl, ?_⟩) (by assumption) ?_
  rotate_left 1
  · (intro W hS; go_simp; try with_reducible rfl)
  (try simp only [Act.put, List.setIfInBounds_toArray, List.set_cons_zero, List.set_cons_succ])
  refine do_op 19 rfl (by kernel_rfl) (fun K hK => ?_)
  go_simp; (with_reducible refine (tree_lives _).mono ?_); rintro e w9 ⟨rfl, hx9⟩
  refine hK.out _ _ ⟨hy.tr hx9, hx9.blk h7⟩ (fun hS => ?_)
  clear hK K
  (try simp only [Act.put, List.setIfInBounds_toArray, List.set_cons_zero, List.set_cons_succ])
  replace hy := hy.tr hx9
  refine take_op 20 (v := ?_) rfl (by kernel_rfl) (by kernel_rfl) (by kernel_rfl) (Or.inl ⟨by rfl, ?_⟩) (by assumption) ?_
  rotate_left 1
  · (intro W hS; go_simp; try with_reducible rfl)
  (try simp only [Act.put, List.setIfInBounds_toArray, List.set_cons_zero, List.set_cons_succ])
  refine take_op 21 (v := ?_) rfl (by kernel_rfl) (by kernel_rfl) (by kernel_rfl) (Or.inl ⟨by rfl, ?_⟩) (by assumption) ?_
  rotate_left 1
  · (intro W hS; go_simp; try with_reducible rfl)
  (try simp only [Act.put, List.setIfInBounds_toArray, List.set_cons_zero, List.set_cons_succ])
  refine wpAnyH_done (by kernel_rfl) ?_ _
  refine NoPanic.normal ?_
  go_wp2_with fail
  go_ret
  exact ⟨rfl, hy⟩
end Go.Proofs.Ytofdkhilapmccaa
