/- LinesTakes: the table that any bytes begin with is what the page says. -/
import Derived.Test.YtfeddkfpkdjbeaaRunsTakes
import Derived.Test.YtfeddkfpkdjbeaaLinesTables
namespace Go.Proofs.Ytfeddkfpkdjbeaa
open Go.RowKit

theorem lines_Take (g : Nat) (bs : List UInt8) (er n : Int) (w : World) (hc : CurAt w g bs er) (hl : bs.length ≤ 140737488351232) (hn : n ≤ 1099511627776) (hn0 : -9223372036854775808 ≤ n) :
    Calls Try.prog 69 #[.pointer (some ⟨g, 0, none⟩), .int .i64 n] w (TakeGoes g (takeRow n 0 65535 bs er) w) := by
  have HT := Lib.hid (runs_Take g bs er n 0 65535 w hc hl hn hn0)
  generalize takeRow n 0 65535 bs er = R at *
  go_enter Try.func69, Try.ntmps69
  go_wp2_with fail
  refine HT.out.mono ?_
  rintro e w1 ⟨ao, cap, rfl, h1, h2, h3, h4⟩
  have H1 := Lib.hid h1
  have H2 := Lib.hid h2
  have H3 := Lib.hid h3
  have H4 := Lib.hid h4
  clear h1 h2 h3 h4
  go_wp2_with fail
  go_ret
  exact ⟨ao, cap, rfl, H1.out, H2.out, H3.out, H4.out⟩

set_option maxRecDepth 20000 in
theorem linesref_Take (v0 : Value) (B : Nat) (bs : List UInt8) (er n : Int) (w : World) (hr : RefAt w B v0 bs er) (hB : B ≤ w.heap.size) (hl : bs.length ≤ 140737488351232) (hn : n ≤ 1099511627776) (hn0 : -9223372036854775808 ≤ n) :
    Calls Try.prog 68 #[v0, .int .i64 n] w (RTakeGoes B (takeRow n 0 65535 bs er) w) := by
  have HT := Lib.hid (fun w' (hx : Ext w w') => runsref_Take v0 B bs er n 0 65535 w' (hr.ext hx) (Nat.le_trans hB hx.size) hl hn hn0)
  generalize takeRow n 0 65535 bs er = R at *
  obtain ⟨a0, n0, c0, rfl⟩ := hr.shape
  clear hr
  go_enter Try.func68, Try.ntmps68
  go_wp2_with fail
  refine (HT.out _ (((Ext.rf w).al _).al _)).mono ?_
  rintro e w1 ⟨ao, cap, v, rfl, h1, h2, h3, h4⟩
  have H1 := Lib.hid h1
  have H2 := Lib.hid h2
  have H3 := Lib.hid h3
  obtain ⟨a3, n3, c3, rfl⟩ := h3.shape
  have hx := (((Ext.rf w).al _).al _).tr h4
  have D5 := Lib.hid (h4.blk (alloc2 w _ _))
  have f0 := frozen_blk D5.out 0
  have f1 := frozen_blk D5.out 1
  have e0 := blk D5.out 0 rfl
  have e1 := blk D5.out 1 rfl
  clear h1 h2 h3 h4
  have hge : ∀ ad, ao = some ad → w.heap.size + 2 ≤ ad.block := fun ad e => by have := H2.out ad e; simp at this; omega
  have HNE : Hid (∀ ad, ao = some ad → ad.block ≠ w.heap.size + 1) := fun ad e => by have := hge ad e; omega
  have HFR : Hid (Fresh w.heap.size ao) := fun ad e => by have := hge ad e; omega
  clear hge
  go_wp2_with fail
  exact bodyPost_ret (ret_tmp_cell (p := 5) (u := 4) rfl rfl (load_ref (set2 D5.out _ _))) rfl ⟨ao, cap, _, rfl, (H1.out.grown (grown_set _ _ 0 _) HNE.out).grown (grown_set _ _ 1 _) HNE.out, HFR.out, (H3.out.setF (by omega) _ _).setF (by omega) _ _, (hx.setN (by omega) _ _).setN (by omega) _ _⟩

set_option maxHeartbeats 4000000 in
set_option maxRecDepth 20000 in
theorem LinesTakes_walk (ao0 : Option Addr) (cap0 : Nat) (b0 : List UInt8) (x1 : Int) (w : World) (hl0 : Cells w ao0 (b0.map byteC) ∧ b0.length ≤ cap0 ∧ b0.length ≤ 140737488351232) (hx1 : (Lit.int .i64 x1).wf = true) :
    Calls Try.prog 13 #[.slice ao0 b0.length cap0, .int .i64 x1] w fun e w' => e = .returned (.bool true) ∧ Ext w w' := by
  obtain ⟨hc0, hcap, hlen⟩ := hl0
  have hn := wf_i64 hx1
  have HL := Lib.hid (lower_of hc0)
  have HC0 := Lib.hid hc0
  clear hc0 hx1
  by_cases h3 : 300 < x1
  · have t1 : decide (300 < x1) = true := decide_eq_true h3
    go_enter Try.func13, Try.ntmps13
    go_wp2_with fail
    refine (lines_lives _).mono ?_
    rintro e w1 ⟨rfl, hb⟩
    go_wp2_with fail
    go_ret
    exact ⟨rfl, hb⟩
  · have t1 : decide (300 < x1) = false := decide_eq_false h3
    obtain ⟨hn0, -⟩ := hn
    have hn3 : x1 ≤ 300 := by omega
    have hTO := takeRow_ok x1 0 65535 b0 0
    have hbig : x1.toNat ≤ 300 := by omega
    clear h3
    have HT := Lib.hid (fun g w' (h : CurAt w' g b0 0) => lines_Take g b0 0 x1 w' h hlen (by omega) hn0)
    have HTR := Lib.hid (fun w' (h : RefAt w' w.heap.size (.agg #[.slice ao0 b0.length cap0, .int .i64 0]) b0 0) (hB : w.heap.size ≤ w'.heap.size) => linesref_Take _ _ b0 0 x1 w' h hB hlen (by omega) hn0)
    generalize takeRow x1 0 65535 b0 0 = R at *
    go_enter Try.func13, Try.ntmps13
    go_wp2_with fail
    refine (cur_New _ _ _ _ HC0.out hlen).mono ?_
    rintro e w1 ⟨g, rfl, hg, hcu, hx⟩
    have HCU := Lib.hid hcu
    have HX1 := Lib.hid hx
    clear hcu hx
    go_wp2_with fail
    refine (HTR.out _ ⟨b0, ao0, cap0, rfl, HC0.out.ext HX1.out, ⟨HL.out, hcap⟩, fun _ => rfl⟩ HX1.out.size).mono ?_
    rintro e w2 ⟨ao2, cap2, v2, rfl, hcs2, hf2, hr2, hx2⟩
    have HR2 := Lib.hid hr2
    obtain ⟨a2, n2, c2, rfl⟩ := hr2.shape
    have HCS2 := Lib.hid hcs2
    have HF2 := Lib.hid hf2
    have HC2 := Lib.hid (HCU.out.ext hx2)
    have hy2 := HX1.out.tr hx2
    have hgl := HCU.out.lt
    clear hcs2 hf2 hr2 hx2 HCU HX1
    go_wp2_with fail
    obtain ⟨w4, hw4⟩ : ∃ x, x = w2.alloc (.cells #[.slice a2 n2 c2, .int .i64 R.2.2] 83) := ⟨_, rfl⟩
    rw [← hw4]
    have hxa : Ext w2 w4.drew := by rw [hw4]; exact ((Ext.rf _).al _).dr
    have h7 : w4.drew.heap[w2.heap.size]? = some (.cells #[.slice a2 n2 c2, .int .i64 R.2.2] 83 (0, 0)) := by rw [hw4]; exact alloc_new w2 _
    have hy := hy2.tr hxa
    have HC := Lib.hid (HC2.out.ext hxa)
    have HCS := Lib.hid (HCS2.out.ext hxa)
    have hgw : w.heap.size ≤ g := by omega
    have hg2 : g < w2.heap.size := HC2.out.lt
    clear hw4 hxa HCS2 HR2 HC2 hy2
    generalize w2.heap.size = S at *
    have hq1 : (R.2.2 == R.2.2) = true := by simp
    refine wp_region_ext (fun W => Ext w W ∧ W.heap[S]? = some (.cells #[.slice a2 n2 c2, .int .i64 R.2.2] 83 (0, 0))) (by kernel_rfl) ⟨hy, h7⟩ (fun hS => ?_)
    refine take_op 0 (v := ?_) rfl (by kernel_rfl) (by kernel_rfl) (by kernel_rfl) (Or.inl ⟨by rfl, ?_⟩) (by assumption) ?_
    rotate_left 1
    · (intro W hS; go_simp; try with_reducible rfl)
    (try simp only [Act.put, List.setIfInBounds_toArray, List.set_cons_zero, List.set_cons_succ])
    refine take_op 1 (v := ?_) rfl (by kernel_rfl) (by kernel_rfl) (by kernel_rfl) (Or.inl ⟨by rfl, ?_⟩) (by assumption) ?_
    rotate_left 1
    · (intro W hS; go_simp; try with_reducible rfl)
    (try simp only [Act.put, List.setIfInBounds_toArray, List.set_cons_zero, List.set_cons_succ])
    refine take_op 3 (v := ?_) rfl (by kernel_rfl) (by kernel_rfl) (by kernel_rfl) (Or.inl ⟨by rfl, ?_⟩) (by assumption) ?_
    rotate_left 1
    · (intro W hS; go_simp; try with_reducible rfl)
    (try simp only [Act.put, List.setIfInBounds_toArray, List.set_cons_zero, List.set_cons_succ])
    refine do_op 2 rfl (by kernel_rfl) (fun K hK => ?_)
    go_simp; (with_reducible refine (HT.out g _ HC.out).mono ?_); rintro e w5 ⟨ao5, cap5, rfl, hcs5, hf5, hcu5, hg5⟩
    refine hK.out _ _ ⟨ext_grown hy hg5 hgw, (hg5.block _ (Array.getElem?_eq_some_iff.1 h7).1 (by simp; omega)).trans h7⟩ (fun hS => ?_)
    clear hK K
    (try simp only [Act.put, List.setIfInBounds_toArray, List.set_cons_zero, List.set_cons_succ])
    replace h7 := (hg5.block _ (Array.getElem?_eq_some_iff.1 h7).1 (by simp; omega)).trans h7; replace hy := ext_grown hy hg5 hgw; replace HCS := Lib.hid (HCS.out.grown hg5 (fun ad e => (by have := HF2.out ad e; omega))); replace HC := Lib.hid hcu5
    refine do_op 4 rfl (by kernel_rfl) (fun K hK => ?_)
    go_simp; (with_reducible refine (runsref_IntsN _ _ _ _ _ _ R.1 _ hcs5 HCS.out rfl rfl (by omega)).mono ?_); rintro e w6 ⟨rfl, hx6⟩
    refine hK.out _ _ ⟨hy.tr hx6, hx6.blk h7⟩ (fun hS => ?_)
    clear hK K
    (try simp only [Act.put, List.setIfInBounds_toArray, List.set_cons_zero, List.set_cons_succ])
    replace hy := hy.tr hx6; replace h7 := hx6.blk h7; replace HC := Lib.hid (HC.out.ext hx6)
    refine take_op 5 (v := ?_) rfl (by kernel_rfl) (by kernel_rfl) (by kernel_rfl) (Or.inl ⟨by rfl, ?_⟩) (by assumption) ?_
    rotate_left 1
    · (intro W hS; go_simp; try with_reducible rfl)
    (try simp only [Act.put, List.setIfInBounds_toArray, List.set_cons_zero, List.set_cons_succ])
    refine take_op 6 (v := ?_) rfl (by kernel_rfl) (by kernel_rfl) (by kernel_rfl) (Or.inl ⟨by rfl, ?_⟩) (by assumption) ?_
    rotate_left 1
    · (intro W hS; go_simp; try with_reducible rfl)
    (try simp only [Act.put, List.setIfInBounds_toArray, List.set_cons_zero, List.set_cons_succ])
    refine take_op 8 (v := ?_) rfl (by kernel_rfl) (by kernel_rfl) (by kernel_rfl) (Or.inl ⟨by rfl, ?_⟩) (by assumption) ?_
    rotate_left 1
    · (intro W hS; go_simp; try with_reducible rfl)
    (try simp only [Act.put, List.setIfInBounds_toArray, List.set_cons_zero, List.set_cons_succ])
    refine take_op 9 (v := ?_) rfl (by kernel_rfl) (by kernel_rfl) (by kernel_rfl) (Or.inl ⟨by rfl, ?_⟩) (by assumption) ?_
    rotate_left 1
    · (intro W hS; obtain ⟨-, hS7⟩ := hS; have m0 := blk hS7 0 rfl; have m1 := blk hS7 1 rfl; go_simp; try with_reducible rfl)
    (try simp only [Act.put, List.setIfInBounds_toArray, List.set_cons_zero, List.set_cons_succ])
    refine do_op 7 rfl (by kernel_rfl) (fun K hK => ?_)
    go_simp; (with_reducible refine (cur_Err g R.2.1 R.2.2 _ HC.out).mono ?_); rintro e w7 ⟨rfl, rfl⟩
    refine hK.out _ _ ⟨hy, h7⟩ (fun hS => ?_)
    clear hK K
    (try simp only [Act.put, List.setIfInBounds_toArray, List.set_cons_zero, List.set_cons_succ])
    refine take_op 10 (v := ?_) rfl (by kernel_rfl) (by kernel_rfl) (by kernel_rfl) (Or.inl ⟨by rfl, ?_⟩) (by assumption) ?_
    rotate_left 1
    · (intro W hS; go_simp; try with_reducible rfl)
    (try simp only [Act.put, List.setIfInBounds_toArray, List.set_cons_zero, List.set_cons_succ])
    refine take_op 11 (v := ?_) rfl (by kernel_rfl) (by kernel_rfl) (by kernel_rfl) (Or.inl ⟨by rfl, ?_⟩) (by assumption) ?_
    rotate_left 1
    · (intro W hS; go_simp; try with_reducible rfl)
    (try simp only [Act.put, List.setIfInBounds_toArray, List.set_cons_zero, List.set_cons_succ])
    refine take_op 12 (v := ?_) rfl (by kernel_rfl) (by kernel_rfl) (by kernel_rfl) (Or.inl ⟨by rfl, ?_⟩) (by assumption) ?_
    rotate_left 1
    · (intro W hS; go_simp; try with_reducible rfl)
    (try simp only [Act.put, List.setIfInBounds_toArray, List.set_cons_zero, List.set_cons_succ])
    refine do_op 13 rfl (by kernel_rfl) (fun K hK => ?_)
    go_simp; (with_reducible refine (lines_lives _).mono ?_); rintro e w9 ⟨rfl, hx9⟩
    refine hK.out _ _ ⟨hy.tr hx9, hx9.blk h7⟩ (fun hS => ?_)
    clear hK K
    (try simp only [Act.put, List.setIfInBounds_toArray, List.set_cons_zero, List.set_cons_succ])
    replace hy := hy.tr hx9
    refine take_op 14 (v := ?_) rfl (by kernel_rfl) (by kernel_rfl) (by kernel_rfl) (Or.inl ⟨by rfl, ?_⟩) (by assumption) ?_
    rotate_left 1
    · (intro W hS; go_simp; try with_reducible rfl)
    (try simp only [Act.put, List.setIfInBounds_toArray, List.set_cons_zero, List.set_cons_succ])
    refine take_op 15 (v := ?_) rfl (by kernel_rfl) (by kernel_rfl) (by kernel_rfl) (Or.inl ⟨by rfl, ?_⟩) (by assumption) ?_
    rotate_left 1
    · (intro W hS; go_simp; try with_reducible rfl)
    (try simp only [Act.put, List.setIfInBounds_toArray, List.set_cons_zero, List.set_cons_succ])
    refine wpAnyH_done (by kernel_rfl) ?_ _
    refine NoPanic.normal ?_
    go_wp2_with fail
    go_ret
    exact ⟨rfl, hy⟩
end Go.Proofs.Ytfeddkfpkdjbeaa
