/- Inline trees: the walk of the reference's Take. -/
import Derived.Test.YtofdkhilapmccaaTreeV
import Derived.Test.YtofdkhilapmccaaTreeS
namespace Go.Proofs.Ytofdkhilapmccaa
open Go.RowKit

def RTTakeGoes (B : Nat) (R : List NodeT × List UInt8 × Int) (w : World) (e : Ending) (w' : World) : Prop :=
  ∃ ao cap v, e = .returned (.tuple #[.slice ao R.1.length cap, v]) ∧ Cells w' ao (R.1.flatMap nodeC) ∧ Fresh w.heap.size ao ∧ RefAt w' B v R.2.1 R.2.2 ∧ Ext w w'

theorem treeEnd_R {k : Nat} {out : List NodeT} {bs : List UInt8} {er : Int} (h : er ≠ 0) : treeEnd (treeR k out bs er) = ([], bs, er) := by
  have h1 := treeR_err h k out bs
  rw [treeEnd_err (by rw [h1]; exact h), h1]

set_option maxHeartbeats 4000000 in
set_option maxRecDepth 20000 in
theorem treeref_Take (v0 : Value) (B : Nat) (bs : List UInt8) (er : Int) (w : World) (hr : RefAt w B v0 bs er) (hB : B ≤ w.heap.size) (hl : bs.length ≤ 140737488351232) :
    Calls Try.prog 54 #[v0] w (RTTakeGoes B (treeTake bs er) w) := by
  have HM := Lib.hid (fun w' (hx : Ext w w') => ref_Num v0 B bs er 120 w' (hr.ext hx) (Nat.le_trans hB hx.size) hl (by decide) (by decide))
  have HR0 : Hid (treeTake bs er = treeEnd (treeR (numS bs er 120).1 [] (numS bs er 120).2.1 (numS bs er 120).2.2)) := rfl
  have HMO := Lib.hid (numS_ok bs er 120 (by decide))
  have hM : (numS bs er 120).1 ≤ 120 := by have := numS_most bs er 120; omega
  generalize treeTake bs er = R at *
  generalize numS bs er 120 = M at *
  obtain ⟨a0, n0, c0, rfl⟩ := hr.shape
  clear hr
  go_enter Try.func54, Try.ntmps54
  go_wp2_with fail
  refine (HM.out _ (((Ext.rf w).al _).al _)).mono ?_
  rintro e w1 ⟨v1, rfl, hr1, hx1⟩
  have HR1 := Lib.hid hr1
  obtain ⟨a1, n1, c1, rfl⟩ := hr1.shape
  have D2 := Lib.hid (hx1.blk (Ext.blk ((Ext.rf _).al _) (alloc_new w _)))
  have D5 := Lib.hid (hx1.blk (alloc2 w _ _))
  have hext1 := (((Ext.rf w).al _).al _).tr hx1
  have f0 := frozen_blk D2.out 0
  have f1 := frozen_blk D2.out 1
  have e0 := blk D2.out 0 rfl
  have e1 := blk D2.out 1 rfl
  clear hr1 hx1 HM
  go_wp2_with fail
  obtain ⟨w2, hw2⟩ : ∃ x, x = (w1.setCell ⟨w.heap.size, 0, none⟩ (.slice a1 n1 c1)).setCell ⟨w.heap.size, 1, none⟩ (.int .i64 M.2.2) := ⟨_, rfl⟩
  rw [← hw2]
  have E2 := Lib.hid (show w2.heap[w.heap.size]? = some (.cells #[.slice a1 n1 c1, .int .i64 M.2.2] 67 (0, 0)) by rw [hw2]; exact set2 D2.out _ _)
  have E5 := Lib.hid (show w2.heap[w.heap.size + 1]? = some (.cells #[.slice none 0 0, .int .i64 0] 67 (0, 0)) by rw [hw2]; exact blk_set (blk_set D5.out (by omega) _ _) (by omega) _ _)
  have HR2 := Lib.hid (show RefAt w2 B (.agg #[.slice a1 n1 c1, .int .i64 M.2.2]) M.2.1 M.2.2 by rw [hw2]; exact (HR1.out.setF hB _ _).setF hB _ _)
  have hext2 : Ext w w2 := by rw [hw2]; exact (hext1.setN (Nat.le_refl _) _ _).setN (Nat.le_refl _) _ _
  clear hw2 D2 D5 HR1 hext1 e0 e1 f0 f1
  go_loopw [5, 6] (fun v i wr => ∃ (k : Nat) (out : List NodeT) (bs' : List UInt8) (er' : Int) (a1 : Option Addr) (n1 c1 : Nat), i = .int .i64 out.length ∧ wr.ownsRow w.heap.size 87 7 v out.length (out.flatMap nodeC) ∧ Hid (RefAt wr B (.agg #[.slice a1 n1 c1, .int .i64 er']) bs' er') ∧ Hid (wr.heap[w.heap.size]? = some (.cells #[.slice a1 n1 c1, .int .i64 er'] 67 (0, 0))) ∧ Hid (wr.heap[w.heap.size + 1]? = some (.cells #[.slice none 0 0, .int .i64 0] 67 (0, 0))) ∧ Ext w wr ∧ out.length + k = M.1 ∧ bs'.length ≤ bs.length ∧ Hid (R = treeEnd (treeR k out bs' er')))
    (fun _ i _ => M.1 - (intOf i).toNat)
  case atStart => exact ⟨M.1, [], M.2.1, M.2.2, a1, n1, c1, rfl, World.ownsRow_nil _ _ _ _, HR2, E2, E5, hext2, by simp, HMO.out.2.2, HR0⟩
  case round =>
    clear HR0 HR2 E2 E5 hext2
    obtain ⟨k, out, bs', er', a1, n1, c1, rfl, hown, HR, D2, D5, hext, hk, hbs, HT⟩ := hrel
    obtain ⟨ro, rc, rfl⟩ := own_form hown
    have hsz := hext.size
    have hsz2 : w.heap.size + 1 < wr.heap.size := (Array.getElem?_eq_some_iff.1 D5.out).1
    have k0 : wr.cell? ⟨w.heap.size, 0, none⟩ = some (.slice a1 n1 c1) := blk D2.out 0 rfl
    have k1 : wr.cell? ⟨w.heap.size, 1, none⟩ = some (.int .i64 er') := blk D2.out 1 rfl
    by_cases hlt : out.length < M.1
    · have i1 : (out.length : Int) < M.1 := by omega
      by_cases h0 : er' = 0
      · subst h0
        obtain ⟨k, rfl⟩ : ∃ k', k = k' + 1 := ⟨k - 1, by omega⟩
        have HT2 : Hid (R = treeEnd (treeR k (out ++ [(nodeS bs' 0).1]) (nodeS bs' 0).2.1 (nodeS bs' 0).2.2)) := HT.out
        have HVS := Lib.hid (nodeS_less bs' 0)
        go_upto_region 7 with fail
        obtain ⟨W0, hW⟩ : ∃ x, x = wr.alloc (.cells #[.int .i64 0, .int .i64 0, .int .i64 0, .int .i64 0, .int .i64 0, .int .i64 0, .int .i64 0] 101) := ⟨_, rfl⟩
        have hG : Hid (W0.heap[wr.heap.size]? = some (.cells ((partI 0 bs' 0).map (Value.int .i64)).toArray 101 (0, 0))) := by rw [Hid, hW]; exact alloc_new wr _
        have hxa : Ext wr W0 := by rw [hW]; exact (Ext.rf _).al _
        rw [← hW]
        clear hW
        have E2 := Lib.hid (hxa.blk D2.out)
        have E5 := Lib.hid (hxa.blk D5.out)
        have ER := Lib.hid (HR.out.ext hxa)
        have hownE := own_ext hown hxa
        have hextE := hext.tr hxa
        generalize wr.heap.size = g at *
        clear hxa D2 D5 HR hown hext HT k0 k1
        go_wp2_with fail
        go_loopw [8] (fun i wi => ∃ (q : Nat) (a2 : Option Addr) (n2 c2 : Nat), q ≤ 7 ∧ i = .int .i64 q ∧ Hid (wi.heap[g]? = some (.cells ((partI q bs' 0).map (Value.int .i64)).toArray 101 (0, 0))) ∧ wi.ownsRow w.heap.size 87 7 (.slice ro out.length rc) out.length (out.flatMap nodeC) ∧ Hid (RefAt wi B (.agg #[.slice a2 n2 c2, .int .i64 (intsS q bs' 0).2.2]) (intsS q bs' 0).2.1 (intsS q bs' 0).2.2) ∧ Hid (wi.heap[w.heap.size]? = some (.cells #[.slice a2 n2 c2, .int .i64 (intsS q bs' 0).2.2] 67 (0, 0))) ∧ Hid (wi.heap[w.heap.size + 1]? = some (.cells #[.slice none 0 0, .int .i64 0] 67 (0, 0))) ∧ Ext w wi)
          (fun i _ => 7 - (intOf i).toNat)
        case atStart => exact ⟨0, a1, n1, c1, by decide, rfl, hG, hownE, ER, E2, E5, hextE⟩
        case round =>
          clear hG hownE ER E2 E5 hextE
          obtain ⟨q, a2, n2, c2, hq, rfl, hG, hown, HR, D2, D5, hext⟩ := hrel
          have k0 : wr.cell? ⟨w.heap.size, 0, none⟩ = some (.slice a2 n2 c2) := blk D2.out 0 rfl
          have k1 : wr.cell? ⟨w.heap.size, 1, none⟩ = some (.int .i64 (intsS q bs' 0).2.2) := blk D2.out 1 rfl
          by_cases hq7 : q < 7
          · have i2 : (q : Int) < 7 := by omega
            have HB := Lib.hid (ref_Int _ B (intsS q bs' 0).2.1 (intsS q bs' 0).2.2 wr HR.out (Nat.le_trans hB hext.size) (Nat.le_trans (intsS_less q bs' 0) (Nat.le_trans hbs hl)))
            have HP := Lib.hid (partI_set q bs' 0 hq7)
            have HPL := Lib.hid (partI_length q bs' 0 hq)
            have HQ1 : Hid ((intsS (q + 1) bs' 0).2 = ((bitsS (intsS q bs' 0).2.1 (intsS q bs' 0).2.2).2.1, (bitsS (intsS q bs' 0).2.1 (intsS q bs' 0).2.2).2.2)) := rfl
            have HPV : Hid ((intS (intsS q bs' 0).2.1 (intsS q bs' 0).2.2).1 = unfoldI (bitsS (intsS q bs' 0).2.1 (intsS q bs' 0).2.2).1) := rfl
            generalize (intS (intsS q bs' 0).2.1 (intsS q bs' 0).2.2).1 = pv at *
            generalize (intsS q bs' 0).2 = Q at *
            generalize bitsS Q.1 Q.2 = V at *
            obtain ⟨v1, vb, ve⟩ := V
            dsimp only at HB HQ1 HPV
            obtain rfl := HPV.out
            go_wp2_with fail
            refine HB.out.mono ?_
            rintro e w3 ⟨v3, rfl, hr3, hx3⟩
            have HR3 := Lib.hid hr3
            obtain ⟨a3, n3, c3, rfl⟩ := hr3.shape
            have D2 := Lib.hid (hx3.blk D2.out)
            have D5 := Lib.hid (hx3.blk D5.out)
            have hG := Lib.hid (hx3.blk hG.out)
            have hown3 := own_ext hown hx3
            have hext3 := hext.tr hx3
            have f0 := frozen_blk D2.out 0
            have f1 := frozen_blk D2.out 1
            have e0 := blk D2.out 0 rfl
            have e1 := blk D2.out 1 rfl
            have eg : w3.cell? ⟨g, q, none⟩ = some (.int .i64 ((partI q bs' 0)[q]'(by rw [HPL.out]; exact hq7))) := blk hG.out q (by simp [HPL.out, hq7])
            have fg := frozen_blk hG.out q
            clear hr3 hx3 HB hown hext k0 k1 HR
            go_wp2_with fail
            go_roundw
            case rel => exact ⟨q + 1, a3, n3, c3, by omega, by go_num, blk_set (blk_set (by rw [← HP.out, ← map_set_int]; exact set_blk hG.out q _) (by omega) _ _) (by omega) _ _,
              own_set (own_set (own_set hown3 hG.out (by decide) q _) (blk_set D2.out (by omega) q _) (by decide) 0 _) (set_blk (blk_set D2.out (by omega) q _) 0 _) (by decide) 1 _,
              by rw [HQ1.out]; exact ((HR3.out.setF (show B ≤ g by omega) _ _).setF hB _ _).setF hB _ _, by rw [HQ1.out]; exact set2 (blk_set D2.out (by omega) q _) _ _, blk_set (blk_set (blk_set D5.out (by omega) _ _) (by omega) _ _) (by omega) _ _, ((hext3.setN (by omega) _ _).setN (by omega) _ _).setN (by omega) _ _⟩
            case measure => simp [intOf]; omega
          · obtain rfl : q = 7 := by omega
            have i2 : decide ((7 : Int) < 7) = false := by decide
            have hX : nodeI (nodeS bs' 0).1 = (intsS 7 bs' 0).1 := nodeI_of _ (intsS_length 7 bs' 0)
            have HR2 : Hid ((nodeS bs' 0).2 = (intsS 7 bs' 0).2) := rfl
            rw [partI_all, ← hX] at hG
            generalize (nodeS bs' 0).1 = X at *
            generalize (nodeS bs' 0).2 = Y at *
            generalize (intsS 7 bs' 0).2 = Y2 at *
            obtain rfl := HR2.out
            have kG : Hid (wr.heap[g]? = some (.cells (nodeC X).toArray 101 (0, 0))) := hG
            have e0 : wr.cell? ⟨g, 0, none⟩ = some (.int .i64 X.par) := blk kG.out 0 rfl
            have e1 : wr.cell? ⟨g, 1, none⟩ = some (.int .i64 X.fn) := blk kG.out 1 rfl
            have e2 : wr.cell? ⟨g, 2, none⟩ = some (.int .i64 X.line) := blk kG.out 2 rfl
            have e3 : wr.cell? ⟨g, 3, none⟩ = some (.int .i64 X.frm) := blk kG.out 3 rfl
            have e4 : wr.cell? ⟨g, 4, none⟩ = some (.int .i64 X.args) := blk kG.out 4 rfl
            have e5 : wr.cell? ⟨g, 5, none⟩ = some (.int .i64 X.upto) := blk kG.out 5 rfl
            have e6 : wr.cell? ⟨g, 6, none⟩ = some (.int .i64 X.res) := blk kG.out 6 rfl
            clear hX hG kG k0 k1
            go_wp2_with (at_builtin; (refine wpList_push rfl (.tmp 35) (.tmp 51) 25 rfl w.heap.size 87 87 (.agg #[.int .i64 0, .int .i64 0, .int .i64 0, .int .i64 0, .int .i64 0, .int .i64 0, .int .i64 0]) 7 56 Try.underlying25 (by kernel_rfl) rfl (by decide) _ out.length _ [.int .i64 X.par, .int .i64 X.fn, .int .i64 X.line, .int .i64 X.frm, .int .i64 X.args, .int .i64 X.upto, .int .i64 X.res] rfl hown _ rfl (by simp) rfl (by simp [Value.oneCell']) (by unfold maxLen; omega) (by omega) hext.size ?_; intro v' w1 hown1 hgr; have hext1 := hext.push hown (Nat.le_refl _) hgr; have E2 := Lib.hid (push_keepsT hown hgr D2.out (by decide)); have E5 := Lib.hid (push_keepsT hown hgr D5.out (by decide)); have HR7 := Lib.hid (HR.out.push hown hB hgr); clear hgr hown hext HR))
            go_roundw
            case rel => exact ⟨k, out ++ [X], Y.1, Y.2, a2, n2, c2, by rw [List.length_append, List.length_singleton]; go_num, by rw [List.length_append, List.length_singleton, List.flatMap_append, List.flatMap_singleton]; exact hown1, HR7, E2, E5, hext1, by rw [List.length_append, List.length_singleton]; omega, Nat.le_trans HVS.out hbs, HT2⟩
            case measure => simp [intOf]; omega
      · have t0 : (er' == 0) = false := by simpa using h0
        have t0n : (er' != 0) = true := by simpa using h0
        have HRR : Hid (R = ([], bs', er')) := HT.out.trans (treeEnd_R h0)
        have f0 := frozen_blk D5.out 0
        have f1 := frozen_blk D5.out 1
        have e0 := blk D5.out 0 rfl
        have e1 := blk D5.out 1 rfl
        clear HT hown h0
        go_wp2_with fail
        go_region_held3 (fun w' => w'.cell? ⟨w.heap.size, 0, none⟩ = some (.slice a1 n1 c1) ∧ w'.cell? ⟨w.heap.size, 1, none⟩ = some (.int .i64 er')) (constructor <;> go_simp) (fail)
        go_wp2
        exact bodyPost_ret (ret_tmp_cell (p := 3) (u := 2) rfl rfl (load_ref (set2 D5.out _ _))) rfl ⟨none, 0, _, by rw [HRR.out] <;> rfl, by rw [HRR.out]; exact Cells.nil _ _, fresh_nil _, by
          rw [HRR.out]; exact ((HR.out.setF (by omega) _ _).setF (by omega) _ _).ext (Ext.rf _).dr, ((hext.setN (by omega) _ _).setN (by omega) _ _).dr⟩
    · obtain rfl : k = 0 := by omega
      have i1 : decide ((out.length : Int) < M.1) = false := decide_eq_false (by omega)
      have HRR : Hid (R = treeEnd (out, bs', er')) := HT.out
      have h120 : out.length ≤ 120 := by omega
      obtain ⟨ao', cap', hv, hcc, hfr⟩ := own_cells hown
      cases hv
      have HOW := Lib.hid hown
      have HCC := Lib.hid hcc
      have HFR := Lib.hid hfr
      clear HT hown hfr hcc
      by_cases h0 : er' = 0
      · subst h0
        cases hd : rightTree out with
        | true =>
          have HR1 : Hid (R = (out, bs', 0)) := HRR.out.trans (treeEnd_ok rfl hd)
          go_wp2_with fail
          refine (treeref_Right _ _ out wr HCC.out (by omega)).mono ?_
          rw [hd]
          rintro e w3 ⟨rfl, hx3⟩
          have D2 := Lib.hid (hx3.blk D2.out)
          have D5 := Lib.hid (hx3.blk D5.out)
          have HR := Lib.hid (HR.out.ext hx3)
          have HOW := Lib.hid (own_ext HOW.out hx3)
          have hext3 := hext.tr hx3
          have k0 : w3.cell? ⟨w.heap.size, 0, none⟩ = some (.slice a1 n1 c1) := blk D2.out 0 rfl
          have k1 : w3.cell? ⟨w.heap.size, 1, none⟩ = some (.int .i64 0) := blk D2.out 1 rfl
          have f0 := frozen_blk D5.out 0
          have f1 := frozen_blk D5.out 1
          have e0 := blk D5.out 0 rfl
          have e1 := blk D5.out 1 rfl
          clear hx3 hd
          go_wp2_with fail
          go_region_held3 (fun w' => w'.cell? ⟨w.heap.size, 0, none⟩ = some (.slice a1 n1 c1) ∧ w'.cell? ⟨w.heap.size, 1, none⟩ = some (.int .i64 0)) (constructor <;> go_simp) (fail)
          go_wp2
          exact bodyPost_ret (ret_tmp_cell (p := 3) (u := 2) rfl rfl (load_ref (set2 D5.out _ _))) rfl ⟨_, _, _, by rw [HR1.out] <;> rfl, by
            rw [HR1.out]; exact (own_cellsAt (own_set (own_set HOW.out D5.out (by decide) 0 _) (set_blk D5.out 0 _) (by decide) 1 _)).ext (Ext.rf _).dr, HFR.out, by
            rw [HR1.out]; exact ((HR.out.setF (by omega) _ _).setF (by omega) _ _).ext (Ext.rf _).dr, ((hext3.setN (by omega) _ _).setN (by omega) _ _).dr⟩
        | false =>
          have HR1 : Hid (R = ([], bs', 14)) := HRR.out.trans (treeEnd_bad rfl hd)
          go_wp2_with fail
          refine (treeref_Right _ _ out wr HCC.out (by omega)).mono ?_
          rw [hd]
          rintro e w3 ⟨rfl, hx3⟩
          have D2 := Lib.hid (hx3.blk D2.out)
          have D5 := Lib.hid (hx3.blk D5.out)
          have HR := Lib.hid (HR.out.ext hx3)
          have hext3 := hext.tr hx3
          have hs3 := hext3.size
          have HFL := Lib.hid (ref_Fail _ B bs' 0 14 w3 HR.out (by omega))
          rw [show failE 0 14 = 14 by simp [failE]] at HFL
          have k0 : w3.cell? ⟨w.heap.size, 0, none⟩ = some (.slice a1 n1 c1) := blk D2.out 0 rfl
          have k1 : w3.cell? ⟨w.heap.size, 1, none⟩ = some (.int .i64 0) := blk D2.out 1 rfl
          clear hx3 hd HOW HR HCC
          go_wp2_with fail
          refine HFL.out.mono ?_
          rintro e w5 ⟨v5, rfl, hr5, hx5⟩
          have HR5 := Lib.hid hr5
          obtain ⟨a5, n5, c5, rfl⟩ := hr5.shape
          have D2 := Lib.hid (hx5.blk D2.out)
          have D5 := Lib.hid (hx5.blk D5.out)
          have hext5 := hext3.tr hx5
          have g0 := frozen_blk D2.out 0
          have g1 := frozen_blk D2.out 1
          have d0 := blk D2.out 0 rfl
          have d1 := blk D2.out 1 rfl
          clear hr5 hx5 HFL k0 k1 hext3
          go_upto_region 14 with fail
          obtain ⟨w6, hw⟩ : ∃ x, x = (w5.setCell ⟨w.heap.size, 0, none⟩ (.slice a5 n5 c5)).setCell ⟨w.heap.size, 1, none⟩ (.int .i64 14) := ⟨_, rfl⟩
          rw [← hw]
          have E2 := Lib.hid (show w6.heap[w.heap.size]? = some (.cells #[(.slice a5 n5 c5), .int .i64 14] 67 (0, 0)) by rw [hw]; exact set2 D2.out _ _)
          have E5 := Lib.hid (show w6.heap[w.heap.size + 1]? = some (.cells #[.slice none 0 0, .int .i64 0] 67 (0, 0)) by rw [hw]; exact blk_set (blk_set D5.out (by omega) _ _) (by omega) _ _)
          have ER := Lib.hid (show RefAt w6 B (.agg #[(.slice a5 n5 c5), .int .i64 14]) bs' 14 by rw [hw]; exact (HR5.out.setF hB _ _).setF hB _ _)
          have hextE : Ext w w6 := by rw [hw]; exact (hext5.setN (Nat.le_refl _) _ _).setN (Nat.le_refl _) _ _
          clear hw D2 D5 HR5 hext5 d0 d1 g0 g1
          have k0 : w6.cell? ⟨w.heap.size, 0, none⟩ = some (.slice a5 n5 c5) := blk E2.out 0 rfl
          have k1 : w6.cell? ⟨w.heap.size, 1, none⟩ = some (.int .i64 14) := blk E2.out 1 rfl
          have f0 := frozen_blk E5.out 0
          have f1 := frozen_blk E5.out 1
          have e0 := blk E5.out 0 rfl
          have e1 := blk E5.out 1 rfl
          go_wp2_with fail
          go_region_held3 (fun w' => w'.cell? ⟨w.heap.size, 0, none⟩ = some (.slice a5 n5 c5) ∧ w'.cell? ⟨w.heap.size, 1, none⟩ = some (.int .i64 14)) (constructor <;> go_simp) (fail)
          go_wp2
          exact bodyPost_ret (ret_tmp_cell (p := 3) (u := 2) rfl rfl (load_ref (set2 E5.out _ _))) rfl ⟨none, 0, _, by rw [HR1.out] <;> rfl, by rw [HR1.out]; exact Cells.nil _ _, fresh_nil _, by
            rw [HR1.out]; exact ((ER.out.setF (by omega) _ _).setF (by omega) _ _).ext (Ext.rf _).dr, ((hextE.setN (by omega) _ _).setN (by omega) _ _).dr⟩
      · have t0 : (er' == 0) = false := by simpa using h0
        have t0n : (er' != 0) = true := by simpa using h0
        have HR1 : Hid (R = ([], bs', er')) := HRR.out.trans (treeEnd_err h0)
        have f0 := frozen_blk D5.out 0
        have f1 := frozen_blk D5.out 1
        have e0 := blk D5.out 0 rfl
        have e1 := blk D5.out 1 rfl
        clear h0 HOW HCC
        go_wp2_with fail
        go_region_held3 (fun w' => w'.cell? ⟨w.heap.size, 0, none⟩ = some (.slice a1 n1 c1) ∧ w'.cell? ⟨w.heap.size, 1, none⟩ = some (.int .i64 er')) (constructor <;> go_simp) (fail)
        go_wp2
        exact bodyPost_ret (ret_tmp_cell (p := 3) (u := 2) rfl rfl (load_ref (set2 D5.out _ _))) rfl ⟨none, 0, _, by rw [HR1.out] <;> rfl, by rw [HR1.out]; exact Cells.nil _ _, fresh_nil _, by
          rw [HR1.out]; exact ((HR.out.setF (by omega) _ _).setF (by omega) _ _).ext (Ext.rf _).dr, ((hext.setN (by omega) _ _).setN (by omega) _ _).dr⟩
end Go.Proofs.Ytofdkhilapmccaa
