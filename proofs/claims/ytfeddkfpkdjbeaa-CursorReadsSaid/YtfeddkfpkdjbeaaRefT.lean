/- The walk of the reference's Text. -/
import Derived.Test.YtfeddkfpkdjbeaaRefC
namespace Go.Proofs.Ytfeddkfpkdjbeaa
open Go.RowKit

set_option maxHeartbeats 2000000 in
set_option maxRecDepth 20000 in
theorem ref_Text (v : Value) (B : Nat) (bs : List UInt8) (er most : Int) (w : World) (h : RefAt w B v bs er) (hB : B ≤ w.heap.size) (hl : bs.length ≤ 140737488351232) (hm1 : -9223372036854775808 ≤ most) (hm2 : most ≤ 9223372036854775807) :
    Calls Try.prog 90 #[v, .int .i64 most] w (RGoes B (.string ⟨(curT bs er most).1.toArray⟩) (curT bs er most).2.1 (curT bs er most).2.2 w) := by
  have HO := Lib.hid (numS_ok bs er most hm2)
  have HN : Hid (∀ n, n = curT bs er most → n = if (numS bs er most).2.2 = 0 then (if (numS bs er most).2.1.length < (numS bs er most).1 then ([], (numS bs er most).2.1, 3) else ((numS bs er most).2.1.take (numS bs er most).1, (numS bs er most).2.1.drop (numS bs er most).1, 0)) else ([], (numS bs er most).2.1, (numS bs er most).2.2)) := fun n h => h
  have HX : Hid (∀ o o2, Ext w ((w.alloc o).alloc o2)) := fun o o2 => ((Ext.rf w).al _).al _
  have HB := Lib.hid (fun w' (hx : Ext w w') => ref_Num v B bs er most w' (h.ext hx) (Nat.le_trans hB hx.size) hl hm1 hm2)
  generalize hV : curT bs er most = V
  have HV := Lib.hid (HN.out V hV.symm)
  clear HN hV
  obtain ⟨bs0, ao, cap, rfl, hc, hlo, hbs⟩ := h
  generalize numS bs er most = G at *
  clear hbs hc hlo
  go_enter Try.func90, Try.ntmps90
  go_wp2_with fail
  refine (HB.out _ (HX.out _ _)).mono ?_
  rintro e w1 ⟨v1, rfl, hr1, hx1⟩
  have HR1 := Lib.hid hr1
  obtain ⟨bs1, ao1, cap1, rfl, hc1, hl1, hbs1⟩ := hr1
  have HB1 := Lib.hid hbs1
  have d1 := hx1.blk (alloc2 w _ _)
  have hxw := (HX.out _ _).tr hx1
  have hs1 := hx1.size
  simp only [World.size_alloc] at hs1
  have D1 := Lib.hid d1
  have HXA : Hid (∀ o, Ext w (w1.alloc o)) := fun o => hxw.al o
  have D2 : Hid (∀ o, (w1.alloc o).heap[w.heap.size + 1]? = _) := fun o => Ext.blk ((Ext.rf w1).al o) D1.out
  have e0' := fun o => blk (D2.out o) 0 rfl
  have e1' := fun o => blk (D2.out o) 1 rfl
  have f0' := fun o => frozen_blk (D2.out o) 0
  have f1' := fun o => frozen_blk (D2.out o) 1
  clear d1 hx1 hbs1
  have hu := HO.out.1
  by_cases h0 : G.2.2 = 0
  · have HV1 : Hid (V = if G.2.1.length < G.1 then ([], G.2.1, 3) else (G.2.1.take G.1, G.2.1.drop G.1, 0)) := by rw [Hid, HV.out, if_pos h0]
    have t1 : (G.2.2 != 0) = false := by simpa using h0
    have hbe : bs1 = G.2.1 := HB1.out h0
    have hbl : bs1.length ≤ 140737488351232 := by have := HO.out.2.2; rw [hbe]; omega
    rw [← hbe] at HV1
    have HF := Lib.hid (fun w' (hx : Ext w1 w') => ref_fail _ B G.2.1 G.2.2 3 w' (HR1.out.ext hx))
    rw [show failE G.2.2 3 = 3 by simp [failE, h0]] at HF
    have hcap := hl1.2
    have hcm := hc1
    have hnn : (0 : Int) ≤ G.1 := by omega
    clear HV h0 hbe HR1 HB1
    by_cases h1 : bs1.length < G.1
    · have HV2 : Hid (V = ([], bs1, 3)) := by rw [Hid, HV1.out, if_pos h1]
      have t2 : decide ((bs1.length : Int) < G.1) = true := decide_eq_true (by omega)
      have t2n : decide (bs1.length < G.1) = true := decide_eq_true h1
      clear HV1 h1
      go_wp2_with fail
      refine (HF.out _ ((Ext.rf w1).al _)).mono ?_
      rintro e w2 ⟨v2, rfl, hr2, hx2⟩
      obtain ⟨bs2, ao2, cap2, rfl, hc2, hl2, hbs2⟩ := hr2
      have D3 := Lib.hid (hx2.blk (D2.out _))
      have e0 := blk D3.out 0 rfl
      have e1 := blk D3.out 1 rfl
      have f0 := frozen_blk D3.out 0
      have f1 := frozen_blk D3.out 1
      clear hbs2 e0' e1' f0' f1'
      go_wp2_with fail
      exact bodyPost_ret (ret_tmp_cell rfl rfl (load_ref (set2 D3.out _ _))) rfl ⟨_, by rw [HV2.out] <;> rfl, by
        rw [HV2.out]; exact ⟨bs2, ao2, cap2, rfl, hc2.set2 hl2.1 (by omega) _ _, hl2, fun e => absurd e (by simp)⟩, ext2 ((HXA.out _).tr hx2) (Nat.le_succ _) _ _⟩
    · have HV2 : Hid (V = (bs1.take G.1, bs1.drop G.1, 0)) := by rw [Hid, HV1.out, if_neg h1]
      have t2 : decide ((bs1.length : Int) < G.1) = false := decide_eq_false (by omega)
      have t2n : decide (bs1.length < G.1) = false := decide_eq_false h1
      have hle : G.1 ≤ bs1.length := by omega
      have hle2 : (G.1 : Int) ≤ bs1.length := by omega
      have hle3 : G.1 ≤ cap1 := by omega
      have hcd : Cells w1 (ao1.map fun x => x.add G.1) ((bs1.drop G.1).map byteC) := by rw [List.map_drop]; exact hc1.drop _
      have hct : Cells w1 ao1 ((bs1.take G.1).map byteC) := by rw [List.map_take]; exact hc1.take _
      have hll := hl1.1.drop G.1
      have hlt : Lower B ao1 (bs1.take G.1) := fun hne => hl1.1 (by rintro rfl; simp at hne)
      have hcv : ∀ W c, Cells W ao1 ((bs1.take G.1).map byteC) → (convert 49 9 (.slice ao1 G.1 c)).run Try.prog W = .ok (.string ⟨(bs1.take G.1).toArray⟩) W := fun W c hW => run_bytes_string _ (by rw [List.length_take]; omega) Try.underlying49 Try.underlying5 Try.underlying9 hW
      generalize bs1.take G.1 = T at *
      clear HV1 h1 hc1 hcm
      by_cases hcn : cap1 = G.1
      · subst hcn
        have hz : bs1.length - G.1 = 0 := by omega
        have HZ : Hid (bs1.drop G.1 = []) := List.drop_of_length_le (by omega)
        go_wp2_with fail
        obtain ⟨W0, hW0⟩ : ∃ W0, W0 = w1.alloc (.cells #[.slice ao1 bs1.length G.1, .int .i64 G.2.2] 83) := ⟨_, rfl⟩
        rw [← hW0]
        have hxa : Ext w1 W0 := by rw [hW0]; exact (Ext.rf _).al _
        have k0 : W0.cell? ⟨w1.heap.size, 0, none⟩ = some (.slice ao1 bs1.length G.1) := by rw [hW0]; exact blk (alloc_new w1 _) 0 rfl
        have E1 := Lib.hid (hxa.blk D1.out)
        have e0 := blk E1.out 0 rfl
        have e1 := blk E1.out 1 rfl
        have f0 := frozen_blk E1.out 0
        have f1 := frozen_blk E1.out 1
        have hc0 : Cells W0.drew ao1 (T.map byteC) := hct.ext hxa.dr
        have hcs := fun a b => hc0.set2 (g := w.heap.size + 1) hlt (by omega) a b
        have hxW := hxw.tr hxa
        have hcdW := hcd.ext hxa
        clear hW0 e0' e1' f0' f1' D2 HXA
        go_region_held3 (fun w' => w'.cell? ⟨w1.heap.size, 0, none⟩ = some (.slice ao1 bs1.length G.1) ∧ Cells w' ao1 (T.map byteC)) (refine ⟨?_, ?_⟩ <;> first | exact hc0 | exact hcs _ _ | go_simp) (fail)
        go_wp2
        exact bodyPost_ret (ret_tmp_cell rfl rfl (load_ref (set2 E1.out _ _))) rfl ⟨_, by rw [HV2.out] <;> rfl, by
          rw [HV2.out]; exact ⟨[], ao1, 0, rfl, Cells.nil _ _, ⟨fun h => absurd rfl h, Nat.le_refl _⟩, fun _ => HZ.out.symm⟩, (ext2 hxW (Nat.le_succ _) _ _).dr⟩
      · go_wp2_with fail
        obtain ⟨W0, hW0⟩ : ∃ W0, W0 = w1.alloc (.cells #[.slice ao1 bs1.length cap1, .int .i64 G.2.2] 83) := ⟨_, rfl⟩
        rw [← hW0]
        have hxa : Ext w1 W0 := by rw [hW0]; exact (Ext.rf _).al _
        have k0 : W0.cell? ⟨w1.heap.size, 0, none⟩ = some (.slice ao1 bs1.length cap1) := by rw [hW0]; exact blk (alloc_new w1 _) 0 rfl
        have E1 := Lib.hid (hxa.blk D1.out)
        have e0 := blk E1.out 0 rfl
        have e1 := blk E1.out 1 rfl
        have f0 := frozen_blk E1.out 0
        have f1 := frozen_blk E1.out 1
        have hc0 : Cells W0.drew ao1 (T.map byteC) := hct.ext hxa.dr
        have hcs := fun a b => hc0.set2 (g := w.heap.size + 1) hlt (by omega) a b
        have hxW := hxw.tr hxa
        have hcdW := hcd.ext hxa
        clear hW0 e0' e1' f0' f1' D2 HXA
        go_region_held3 (fun w' => w'.cell? ⟨w1.heap.size, 0, none⟩ = some (.slice ao1 bs1.length cap1) ∧ Cells w' ao1 (T.map byteC)) (refine ⟨?_, ?_⟩ <;> first | exact hc0 | exact hcs _ _ | go_simp) (fail)
        go_wp2
        exact bodyPost_ret (ret_tmp_cell rfl rfl (load_ref (set2 E1.out _ _))) rfl ⟨_, by rw [HV2.out] <;> rfl, by
          rw [HV2.out]; exact ⟨bs1.drop G.1, _, cap1 - G.1, by rw [List.length_drop] <;> rfl, (hcdW.set2 hll (by omega) _ _).ext (Ext.rf _).dr, ⟨hll, by rw [List.length_drop]; omega⟩, fun _ => rfl⟩, (ext2 hxW (Nat.le_succ _) _ _).dr⟩
  · have HV1 : Hid (V = ([], G.2.1, G.2.2)) := by rw [Hid, HV.out, if_neg h0]
    have t1 : (G.2.2 != 0) = true := by simpa using h0
    clear HV h0
    go_wp2_with fail
    go_region_held3 (fun w' => w'.cell? ⟨w1.heap.size, 0, none⟩ = some (.slice ao1 bs1.length cap1) ∧ w'.cell? ⟨w1.heap.size, 1, none⟩ = some (.int .i64 G.2.2)) (constructor <;> go_simp) (fail)
    go_wp2
    exact bodyPost_ret (ret_tmp_cell rfl rfl (load_ref (set2 (D2.out _) _ _))) rfl ⟨_, by rw [HV1.out] <;> rfl, by
      rw [HV1.out]; exact ⟨bs1, ao1, cap1, rfl, (((hc1.ext ((Ext.rf w1).al _)).set2 hl1.1 (by omega) _ _).ext (Ext.rf _).dr), hl1, HB1.out⟩, (ext2 (HXA.out _) (Nat.le_succ _) _ _).dr⟩
end Go.Proofs.Ytfeddkfpkdjbeaa
