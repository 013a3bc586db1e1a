/- SigTakes: the list that any bytes begin with is what the page says. -/
import Derived.Test.YtfeddkfpkdjbeaaRunsTakes
import Derived.Test.YtfeddkfpkdjbeaaSigSlots
namespace Go.Proofs.Ytfeddkfpkdjbeaa
open Go.RowKit

/-- So many types, behind others. -/
def sigR : Nat → List Int → List UInt8 → List Int × List UInt8 × Int
  | 0, out, bs => (out, bs, 0)
  | k + 1, out, bs => if (byteS bs 0).2.2 = 0 then (if (byteS bs 0).1 = 1 ∨ (byteS bs 0).1 = 2 then sigR k (out ++ [((byteS bs 0).1 : Int)]) (byteS bs 0).2.1 else ([], (byteS bs 0).2.1, 9)) else ([], (byteS bs 0).2.1, (byteS bs 0).2.2)
/-- The list of types that bytes begin with. -/
def sigTake (bs : List UInt8) (er most : Int) : List Int × List UInt8 × Int :=
  if (numS bs er most).2.2 = 0 then sigR (numS bs er most).1 [] (numS bs er most).2.1 else ([], (numS bs er most).2.1, (numS bs er most).2.2)

theorem sigR_step {k : Nat} {out : List Int} {bs : List UInt8} {R : List Int × List UInt8 × Int} (h : R = sigR (k + 1) out bs) :
    ∀ v, v = byteS bs 0 → (v.2.2 ≠ 0 → R = ([], v.2.1, v.2.2)) ∧ (v.2.2 = 0 → (v.1 = 1 ∨ v.1 = 2) → R = sigR k (out ++ [(v.1 : Int)]) v.2.1) ∧ (v.2.2 = 0 → ¬ (v.1 = 1 ∨ v.1 = 2) → R = ([], v.2.1, 9)) := by
  intro v hv
  simp only [sigR, ← hv] at h
  refine ⟨fun h1 => ?_, fun h1 h2 => ?_, fun h1 h2 => ?_⟩
  · rw [h, if_neg h1]
  · rw [h, if_pos h1, if_pos h2]
  · rw [h, if_pos h1, if_neg h2]
theorem byteS_lt (bs : List UInt8) (er : Int) : (byteS bs er).1 < 256 ∧ ((byteS bs er).2.2 ≠ 0 → (byteS bs er).1 = 0) := by
  unfold byteS
  split
  · exact octS_lt bs
  · exact ⟨by omega, fun _ => rfl⟩
theorem byteS_less (bs : List UInt8) (er : Int) : (byteS bs er).2.1.length ≤ bs.length := by
  unfold byteS
  split
  · cases bs with
    | nil => exact Nat.le_refl _
    | cons b t => exact Nat.le_succ _
  · exact Nat.le_refl _
theorem sigR_ok : ∀ (k : Nat) (out : List Int) (bs : List UInt8), (sigR k out bs).1.length ≤ out.length + k ∧ (sigR k out bs).2.1.length ≤ bs.length := by
  intro k
  induction k with
  | zero => intro out bs; exact ⟨Nat.le_refl _, Nat.le_refl _⟩
  | succ k ih =>
    intro out bs
    have hb := byteS_less bs 0
    simp only [sigR]
    split
    · split
      · obtain ⟨a, b⟩ := ih (out ++ [((byteS bs 0).1 : Int)]) (byteS bs 0).2.1
        rw [List.length_append, List.length_singleton] at a
        exact ⟨by omega, by omega⟩
      · exact ⟨Nat.zero_le _, hb⟩
    · exact ⟨Nat.zero_le _, hb⟩
theorem numS_most (bs : List UInt8) (er most : Int) : ((numS bs er most).1 : Int) ≤ most ∨ (numS bs er most).1 = 0 := by
  unfold numS
  split
  · split
    · exact .inr rfl
    · left; omega
  · exact .inr rfl
theorem sigTake_ok (bs : List UInt8) (er most : Int) (hm : most ≤ 9223372036854775807) : (sigTake bs er most).1.length ≤ most.toNat ∧ (sigTake bs er most).2.1.length ≤ bs.length := by
  have h1 := numS_ok bs er most hm
  have h2 := numS_most bs er most
  unfold sigTake
  split
  · obtain ⟨a, b⟩ := sigR_ok (numS bs er most).1 [] (numS bs er most).2.1
    simp only [List.length_nil, Nat.zero_add] at a
    exact ⟨by omega, by omega⟩
  · exact ⟨Nat.zero_le _, h1.2.2⟩

/-- The state of the loops: out and what is left of the bytes. -/
def sigE (k : Nat) (out : List Int) (bs : List UInt8) (er : Int) : List Int × List UInt8 × Int := if er = 0 then sigR k out bs else (out, bs, er)
def sigF (k : Nat) (out : List Int) (bs : List UInt8) (er : Int) : List Int × List UInt8 × Int := if er = 0 then sigR k out bs else ([], bs, er)
theorem sigE_0 (out : List Int) (bs : List UInt8) (er : Int) : sigE 0 out bs er = (out, bs, er) := by
  unfold sigE; split
  · rename_i h; rw [h]; rfl
  · rfl
theorem sigE_z (k : Nat) (out : List Int) (bs : List UInt8) : sigE k out bs 0 = sigR k out bs := if_pos rfl
theorem sigF_z (k : Nat) (out : List Int) (bs : List UInt8) : sigF k out bs 0 = sigR k out bs := if_pos rfl
theorem sigF_e {k : Nat} {out : List Int} {bs : List UInt8} {er : Int} (h : er ≠ 0) : sigF k out bs er = ([], bs, er) := if_neg h
theorem sigTake_E {bs : List UInt8} {er most : Int} (M : Nat × List UInt8 × Int) (h : M = numS bs er most) : sigTake bs er most = sigE M.1 [] M.2.1 M.2.2 := by
  unfold sigTake sigE; rw [← h]
theorem sigTake_F {bs : List UInt8} {er most : Int} (M : Nat × List UInt8 × Int) (h : M = numS bs er most) : sigTake bs er most = sigF M.1 [] M.2.1 M.2.2 := by
  unfold sigTake sigF; rw [← h]

set_option maxHeartbeats 4000000 in
set_option maxRecDepth 20000 in
theorem sig_Take (g : Nat) (bs : List UInt8) (er most : Int) (w : World) (hc : CurAt w g bs er) (hl : bs.length ≤ 140737488351232) (hm0 : -9223372036854775808 ≤ most) (hm : most ≤ 1099511627776) :
    Calls Try.prog 71 #[.pointer (some ⟨g, 0, none⟩), .int .i64 most] w (TakeGoes g (sigTake bs er most) w) := by
  have hgl := hc.lt
  have HM := Lib.hid (cur_Num g bs er most w hc hl hm0 (by omega))
  have HR0 := Lib.hid (sigTake_E _ rfl : sigTake bs er most = sigE (numS bs er most).1 [] (numS bs er most).2.1 (numS bs er most).2.2)
  have HMO := Lib.hid (numS_ok bs er most (by omega))
  have HMM := Lib.hid (numS_most bs er most)
  generalize sigTake bs er most = R at *
  generalize numS bs er most = M at *
  clear hc
  go_enter Try.func71, Try.ntmps71
  go_wp2_with fail
  refine HM.out.mono ?_
  rintro e w1 ⟨rfl, hc1, hg1⟩
  have HC1 := Lib.hid hc1
  have hext1 : GrowG g w w1 := ⟨hg1⟩
  have hM : M.1 ≤ 1099511627776 := by have := HMM.out; omega
  have hME : 0 < M.1 → M.2.2 = 0 := fun h => by
    by_cases h0 : M.2.2 = 0
    · exact h0
    · have := HMO.out.2.1 h0; omega
  have HME := Lib.hid hME
  have hsz1 := hext1.size
  clear hc1 hg1 HM hME
  go_wp2_with fail
  go_loopw [5, 10] (fun v i wr => ∃ (k : Nat) (out : List Int) (bs' : List UInt8) (er' : Int), i = .int .i64 out.length ∧ wr.ownsRow w.heap.size 66 1 v out.length (out.map (.int .i64)) ∧ Hid (CurAt wr g bs' er') ∧ GrowG g w wr ∧ out.length + k = M.1 ∧ bs'.length ≤ bs.length ∧ Hid (0 < k → er' = 0) ∧ Hid (R = sigE k out bs' er'))
    (fun _ i _ => M.1 - (intOf i).toNat)
  case atStart => exact ⟨M.1, [], M.2.1, M.2.2, rfl, World.ownsRow_nil _ _ _ _, HC1, hext1, by simp, HMO.out.2.2, HME, HR0⟩
  case round =>
    clear HR0 HC1 hext1 hsz1
    obtain ⟨k, out, bs', er', rfl, hown, HC, hext, hk, hbs, HKE, HT⟩ := hrel
    obtain ⟨ro, rc, rfl⟩ := own_form hown
    by_cases hlt : out.length < M.1
    · obtain ⟨k, rfl⟩ : ∃ k', k = k' + 1 := ⟨k - 1, by omega⟩
      obtain rfl : er' = 0 := HKE.out (Nat.succ_pos _)
      have i1 : (out.length : Int) < M.1 := by omega
      have HST := Lib.hid (sigR_step (HT.out.trans (sigE_z _ _ _)) _ rfl)
      have HB := Lib.hid (cur_Byte g bs' 0 wr HC.out (Nat.le_trans hbs hl))
      have HVL := Lib.hid (byteS_lt bs' 0)
      have HVS := Lib.hid (byteS_less bs' 0)
      generalize byteS bs' 0 = V at *
      have hv256 := HVL.out.1
      have hvw : wrap64 (V.1 : Int) = V.1 := by unfold wrap64; omega
      clear HT HKE HC
      go_wp2_with fail
      refine HB.out.mono ?_
      rintro e w2 ⟨rfl, hc2, hg2⟩
      have HC2 := Lib.hid hc2
      have hext2 := hext.call hg2
      have hown2 := own_call hown hg2 hgl
      clear hc2 hg2 HB hext hown
      go_wp2_with fail
      refine (cur_Err g _ _ w2 HC2.out).mono ?_
      rintro e w3 ⟨rfl, rfl⟩
      by_cases hv0 : V.2.2 = 0
      · have t1 : (V.2.2 == 0) = true := by simpa using hv0
        have t1n : (V.2.2 != 0) = false := by simpa using hv0
        have HMY := Lib.hid (sig_May (V.1 : Int) w2)
        by_cases hv1 : V.1 = 1 ∨ V.1 = 2
        · have hm : (((V.1 : Int) == 1) || ((V.1 : Int) == 2)) = true := by simp; omega
          rw [hm] at HMY
          have HRR := Lib.hid (HST.out.2.1 hv0 hv1)
          have HV0 := Lib.hid hv0
          clear hm hv0 hv1 HST
          go_wp2_with fail
          refine HMY.out.mono ?_
          rintro e w4 ⟨rfl, rfl⟩
          go_wp2_with fail
          refine (cur_Err g _ _ w2 HC2.out).mono ?_
          rintro e w4 ⟨rfl, rfl⟩
          have HC2 := Lib.hid (show CurAt w2 g V.2.1 0 by have := HC2.out; rw [HV0.out] at this; exact this)
          go_wp2_with (at_builtin; (refine wpList_push rfl (.tmp 28) (.tmp 30) 23 rfl w.heap.size 66 66 (.int .i64 0) 1 8 Try.underlying23 (by kernel_rfl) rfl (by decide) _ out.length _ [.int .i64 V.1] rfl hown2 _ rfl (by simp) rfl (by simp [Value.oneCell']) (by unfold maxLen; omega) (by omega) hext2.size ?_; intro v' w1 hown1 hgr; have hext1 := hext2.push hown2 (Nat.le_refl _) hgr; have HC3 := Lib.hid (HC2.out.push hown2 hgl hgr); clear hgr hown2 hext2 HC2))
          go_roundw
          case rel => exact ⟨k, out ++ [(V.1 : Int)], V.2.1, 0, by rw [List.length_append, List.length_singleton]; go_num, by rw [List.length_append, List.length_singleton, List.map_append]; exact hown1, HC3, hext1, by rw [List.length_append, List.length_singleton]; omega, Nat.le_trans HVS.out hbs, fun _ => rfl, Lib.hid (HRR.out.trans (sigE_z _ _ _).symm)⟩
          case measure => simp [intOf]; omega
        · have hm : (((V.1 : Int) == 1) || ((V.1 : Int) == 2)) = false := by simp; omega
          rw [hm] at HMY
          have HRR := Lib.hid (HST.out.2.2 hv0 hv1)
          have HF := Lib.hid (cur_Fail g V.2.1 V.2.2 9 w2 HC2.out)
          rw [show failE V.2.2 9 = 9 by simp [failE, hv0]] at HF
          clear hm hv0 hv1 HST
          go_wp2_with fail
          refine HMY.out.mono ?_
          rintro e w4 ⟨rfl, rfl⟩
          go_wp2_with fail
          refine HF.out.mono ?_
          rintro e w5 ⟨⟨v5, rfl⟩, hc5, hg5⟩
          have HC5 := Lib.hid hc5
          have hext5 := hext2.call hg5
          clear hc5 hg5 HF
          go_wp2_with fail
          refine (cur_Err g _ _ w5 HC5.out).mono ?_
          rintro e w6 ⟨rfl, rfl⟩
          go_wp2_with fail
          go_ret
          exact ⟨none, 0, by rw [HRR.out] <;> rfl, by rw [HRR.out]; exact Cells.nil _ _, fresh_nil _, by rw [HRR.out]; exact HC5.out, hext5.h⟩
      · have t1 : (V.2.2 == 0) = false := by simpa using hv0
        have t1n : (V.2.2 != 0) = true := by simpa using hv0
        have HRR := Lib.hid (HST.out.1 hv0)
        clear hv0 HST
        go_wp2_with fail
        refine (cur_Err g _ _ w2 HC2.out).mono ?_
        rintro e w4 ⟨rfl, rfl⟩
        go_wp2_with fail
        go_ret
        exact ⟨none, 0, by rw [HRR.out] <;> rfl, by rw [HRR.out]; exact Cells.nil _ _, fresh_nil _, by rw [HRR.out]; exact HC2.out, hext2.h⟩
    · obtain rfl : k = 0 := by omega
      have i1 : decide ((out.length : Int) < M.1) = false := decide_eq_false (by omega)
      have HRR := Lib.hid (HT.out.trans (sigE_0 _ _ _))
      obtain ⟨ao', cap', hv, hcc, hfr⟩ := own_cells hown
      cases hv
      have HCC := Lib.hid hcc
      have HFR := Lib.hid hfr
      clear hcc hfr hown HT HKE
      go_wp2_with fail
      go_ret
      exact ⟨_, _, by rw [HRR.out] <;> rfl, by rw [HRR.out]; exact HCC.out, HFR.out, by rw [HRR.out]; exact HC.out, hext.h⟩

theorem ne_1 {a : Nat} (h : a ≠ 1) : ((a : Int) != 1) = true := by simp; omega
theorem ne_2 {a : Nat} (h : a ≠ 2) : ((a : Int) != 2) = true := by simp; omega

set_option maxHeartbeats 1000000 in
set_option maxRecDepth 20000 in
theorem sigref_Take (v0 : Value) (B : Nat) (bs : List UInt8) (er most : Int) (w : World) (hr : RefAt w B v0 bs er) (hB : B ≤ w.heap.size) (hl : bs.length ≤ 140737488351232) (hm0 : -9223372036854775808 ≤ most) (hm : most ≤ 1099511627776) :
    Calls Try.prog 70 #[v0, .int .i64 most] w (RTakeGoes B (sigTake bs er most) w) := by
  have HM := Lib.hid (fun w' (hx : Ext w w') => ref_Num v0 B bs er most w' (hr.ext hx) (Nat.le_trans hB hx.size) hl hm0 (by omega))
  have HR0 := Lib.hid (sigTake_F _ rfl : sigTake bs er most = sigF (numS bs er most).1 [] (numS bs er most).2.1 (numS bs er most).2.2)
  have HMO := Lib.hid (numS_ok bs er most (by omega))
  have HMM := Lib.hid (numS_most bs er most)
  generalize sigTake bs er most = R at *
  generalize numS bs er most = M at *
  obtain ⟨a0, n0, c0, rfl⟩ := hr.shape
  clear hr
  go_enter Try.func70, Try.ntmps70
  go_wp2_with fail
  refine (HM.out _ (((Ext.rf w).al _).al _)).mono ?_
  rintro e w1 ⟨v1, rfl, hr1, hx1⟩
  have HR1 := Lib.hid hr1
  obtain ⟨a1, n1, c1, rfl⟩ := hr1.shape
  have D2 := Lib.hid (hx1.blk (Ext.blk ((Ext.rf _).al _) (alloc_new w _)))
  have D5 := Lib.hid (hx1.blk (alloc2 w _ _))
  have hext1 := (((Ext.rf w).al _).al _).tr hx1
  have f0 := frozen_blk D2.out 0
  have f1 := frozen_blk D2.out 1
  have e0 := blk D2.out 0 rfl
  have e1 := blk D2.out 1 rfl
  have hM : M.1 ≤ 1099511627776 := by have := HMM.out; omega
  clear hr1 hx1 HM
  go_wp2_with fail
  obtain ⟨w2, hw2⟩ : ∃ x, x = (w1.setCell ⟨w.heap.size, 0, none⟩ (.slice a1 n1 c1)).setCell ⟨w.heap.size, 1, none⟩ (.int .i64 M.2.2) := ⟨_, rfl⟩
  rw [← hw2]
  have E2 := Lib.hid (show w2.heap[w.heap.size]? = some (.cells #[.slice a1 n1 c1, .int .i64 M.2.2] 83 (0, 0)) by rw [hw2]; exact set2 D2.out _ _)
  have E5 := Lib.hid (show w2.heap[w.heap.size + 1]? = some (.cells #[.slice none 0 0, .int .i64 0] 83 (0, 0)) by rw [hw2]; exact blk_set (blk_set D5.out (by omega) _ _) (by omega) _ _)
  have HR2 := Lib.hid (show RefAt w2 B (.agg #[.slice a1 n1 c1, .int .i64 M.2.2]) M.2.1 M.2.2 by rw [hw2]; exact (HR1.out.setF hB _ _).setF hB _ _)
  have hext2 : Ext w w2 := by rw [hw2]; exact (hext1.setN (Nat.le_refl _) _ _).setN (Nat.le_refl _) _ _
  clear hw2 D2 D5 HR1 hext1 e0 e1 f0 f1
  go_loopw [7, 8] (fun v i wr => ∃ (k : Nat) (out : List Int) (bs' : List UInt8) (er' : Int) (a1 : Option Addr) (n1 c1 : Nat), i = .int .i64 out.length ∧ wr.ownsRow w.heap.size 66 1 v out.length (out.map (.int .i64)) ∧ Hid (RefAt wr B (.agg #[.slice a1 n1 c1, .int .i64 er']) bs' er') ∧ Hid (wr.heap[w.heap.size]? = some (.cells #[.slice a1 n1 c1, .int .i64 er'] 83 (0, 0))) ∧ Hid (wr.heap[w.heap.size + 1]? = some (.cells #[.slice none 0 0, .int .i64 0] 83 (0, 0))) ∧ Ext w wr ∧ out.length + k = M.1 ∧ bs'.length ≤ bs.length ∧ Hid (R = sigF k out bs' er'))
    (fun _ i _ => M.1 - (intOf i).toNat)
  case atStart => exact ⟨M.1, [], M.2.1, M.2.2, a1, n1, c1, rfl, World.ownsRow_nil _ _ _ _, HR2, E2, E5, hext2, by simp, HMO.out.2.2, HR0⟩
  case round =>
    clear HR0 HR2 E2 E5 hext2
    obtain ⟨k, out, bs', er', a1, n1, c1, rfl, hown, HR, D2, D5, hext, hk, hbs, HT⟩ := hrel
    obtain ⟨ro, rc, rfl⟩ := own_form hown
    have hsz := hext.size
    have k0 : wr.cell? ⟨w.heap.size, 0, none⟩ = some (.slice a1 n1 c1) := blk D2.out 0 rfl
    have k1 : wr.cell? ⟨w.heap.size, 1, none⟩ = some (.int .i64 er') := blk D2.out 1 rfl
    by_cases h0 : er' = 0
    · subst h0
      by_cases hlt : out.length < M.1
      · obtain ⟨k, rfl⟩ : ∃ k', k = k' + 1 := ⟨k - 1, by omega⟩
        have i1 : (out.length : Int) < M.1 := by omega
        have HST := Lib.hid (sigR_step (HT.out.trans (sigF_z _ _ _)) _ rfl)
        have HB := Lib.hid (ref_Byte _ B bs' 0 wr HR.out (Nat.le_trans hB hsz))
        have HVL := Lib.hid (byteS_lt bs' 0)
        have HVS := Lib.hid (byteS_less bs' 0)
        generalize byteS bs' 0 = V at *
        obtain ⟨v1, vb, ve⟩ := V
        dsimp only at HST HB HVL HVS
        have hv256 := HVL.out.1
        have g0 := frozen_blk D2.out 0
        clear HT HR
        go_wp2_with fail
        refine HB.out.mono ?_
        rintro e w3 ⟨v3, rfl, hr3, hx3⟩
        have HR3 := Lib.hid hr3
        obtain ⟨a3, n3, c3, rfl⟩ := hr3.shape
        have D2 := Lib.hid (hx3.blk D2.out)
        have D5 := Lib.hid (hx3.blk D5.out)
        have hown3 := own_ext hown hx3
        have hext3 := hext.tr hx3
        have f0 := frozen_blk D2.out 0
        have f1 := frozen_blk D2.out 1
        have e0 := blk D2.out 0 rfl
        have e1 := blk D2.out 1 rfl
        clear hr3 hx3 HB hown hext k0 k1 g0
        go_upto_region 8 with fail
        obtain ⟨w4, hw⟩ : ∃ x, x = (w3.setCell ⟨w.heap.size, 0, none⟩ (.slice a3 n3 c3)).setCell ⟨w.heap.size, 1, none⟩ (.int .i64 ve) := ⟨_, rfl⟩
        rw [← hw]
        have E2 := Lib.hid (show w4.heap[w.heap.size]? = some (.cells #[(.slice a3 n3 c3), .int .i64 ve] 83 (0, 0)) by rw [hw]; exact set2 D2.out _ _)
        have E5 := Lib.hid (show w4.heap[w.heap.size + 1]? = some (.cells #[.slice none 0 0, .int .i64 0] 83 (0, 0)) by rw [hw]; exact blk_set (blk_set D5.out (by omega) _ _) (by omega) _ _)
        have ER := Lib.hid (show RefAt w4 B (.agg #[(.slice a3 n3 c3), .int .i64 ve]) vb ve by rw [hw]; exact (HR3.out.setF hB _ _).setF hB _ _)
        have hownE := own_set (own_set hown3 D2.out (by decide) 0 (.slice a3 n3 c3)) (set_blk D2.out 0 _) (by decide) 1 (.int .i64 ve)
        rw [← hw] at hownE
        have hextE : Ext w w4 := by rw [hw]; exact (hext3.setN (Nat.le_refl _) _ _).setN (Nat.le_refl _) _ _
        clear hw
        clear D2 D5 HR3 hown3 hext3 e0 e1 f0 f1
        have k0 : w4.cell? ⟨w.heap.size, 0, none⟩ = some (.slice a3 n3 c3) := blk E2.out 0 rfl
        have k1 : w4.cell? ⟨w.heap.size, 1, none⟩ = some (.int .i64 ve) := blk E2.out 1 rfl
        by_cases hv0 : ve = 0
        · have t1 : (ve == 0) = true := by simpa using hv0
          have HV0 := Lib.hid hv0
          by_cases hv1 : v1 = 1
          · subst hv1
            have HRR := Lib.hid (HST.out.2.1 hv0 (.inl rfl))
            clear hv0 HST hv256
            go_wp2_with (at_builtin; (refine wpList_push rfl (.tmp 44) (.tmp 47) 23 rfl w.heap.size 66 66 (.int .i64 0) 1 8 Try.underlying23 (by kernel_rfl) rfl (by decide) _ out.length _ [.int .i64 1] rfl hownE _ rfl (by simp) rfl (by simp [Value.oneCell']) (by unfold maxLen; omega) (by omega) hextE.size ?_; intro v' w1 hown1 hgr; have hext1 := hextE.push hownE (Nat.le_refl _) hgr; have E2 := Lib.hid (push_keepsT hownE hgr E2.out (by decide)); have E5 := Lib.hid (push_keepsT hownE hgr E5.out (by decide)); have HR7 := Lib.hid (ER.out.push hownE hB hgr); clear hgr hownE hextE ER))
            go_roundw
            case rel => exact ⟨k, out ++ [((1 : Nat) : Int)], vb, ve, a3, n3, c3, by rw [List.length_append, List.length_singleton]; go_num, by rw [List.length_append, List.length_singleton, List.map_append]; exact hown1, HR7, E2, E5, hext1, by rw [List.length_append, List.length_singleton]; omega, Nat.le_trans HVS.out hbs, (by rw [HV0.out]; exact Lib.hid (HRR.out.trans (sigF_z _ _ _).symm))⟩
            case measure => simp [intOf]; omega
          · by_cases hv2 : v1 = 2
            · subst hv2
              have HRR := Lib.hid (HST.out.2.1 hv0 (.inr rfl))
              clear hv0 hv1 HST hv256
              go_wp2_with (at_builtin; (refine wpList_push rfl (.tmp 44) (.tmp 47) 23 rfl w.heap.size 66 66 (.int .i64 0) 1 8 Try.underlying23 (by kernel_rfl) rfl (by decide) _ out.length _ [.int .i64 2] rfl hownE _ rfl (by simp) rfl (by simp [Value.oneCell']) (by unfold maxLen; omega) (by omega) hextE.size ?_; intro v' w1 hown1 hgr; have hext1 := hextE.push hownE (Nat.le_refl _) hgr; have E2 := Lib.hid (push_keepsT hownE hgr E2.out (by decide)); have E5 := Lib.hid (push_keepsT hownE hgr E5.out (by decide)); have HR7 := Lib.hid (ER.out.push hownE hB hgr); clear hgr hownE hextE ER))
              go_roundw
              case rel => exact ⟨k, out ++ [((2 : Nat) : Int)], vb, ve, a3, n3, c3, by rw [List.length_append, List.length_singleton]; go_num, by rw [List.length_append, List.length_singleton, List.map_append]; exact hown1, HR7, E2, E5, hext1, by rw [List.length_append, List.length_singleton]; omega, Nat.le_trans HVS.out hbs, (by rw [HV0.out]; exact Lib.hid (HRR.out.trans (sigF_z _ _ _).symm))⟩
              case measure => simp [intOf]; omega
            · have t2 := ne_1 hv1
              have t3 := ne_2 hv2
              have HRR := Lib.hid (HST.out.2.2 hv0 (by omega))
              have HFL := Lib.hid (ref_Fail _ B vb ve 9 w4 ER.out (by have := hextE.size; omega))
              rw [show failE ve 9 = 9 by simp [failE, hv0]] at HFL
              clear hv0 hv1 hv2 HST
              go_wp2_with fail
              refine HFL.out.mono ?_
              rintro e w5 ⟨v5, rfl, hr5, hx5⟩
              have HR5 := Lib.hid hr5
              obtain ⟨a5, n5, c5, rfl⟩ := hr5.shape
              have D2 := Lib.hid (hx5.blk E2.out)
              have D5 := Lib.hid (hx5.blk E5.out)
              have hown5 := own_ext hownE hx5
              have hext5 := hextE.tr hx5
              have f0 := frozen_blk D2.out 0
              have f1 := frozen_blk D2.out 1
              have e0 := blk D2.out 0 rfl
              have e1 := blk D2.out 1 rfl
              clear hr5 hx5 HFL hownE hextE k0 k1 E2 E5 ER
              go_upto_region 10 with fail
              obtain ⟨w6, hw⟩ : ∃ x, x = (w5.setCell ⟨w.heap.size, 0, none⟩ (.slice a5 n5 c5)).setCell ⟨w.heap.size, 1, none⟩ (.int .i64 9) := ⟨_, rfl⟩
              rw [← hw]
              have E2 := Lib.hid (show w6.heap[w.heap.size]? = some (.cells #[(.slice a5 n5 c5), .int .i64 9] 83 (0, 0)) by rw [hw]; exact set2 D2.out _ _)
              have E5 := Lib.hid (show w6.heap[w.heap.size + 1]? = some (.cells #[.slice none 0 0, .int .i64 0] 83 (0, 0)) by rw [hw]; exact blk_set (blk_set D5.out (by omega) _ _) (by omega) _ _)
              have ER := Lib.hid (show RefAt w6 B (.agg #[(.slice a5 n5 c5), .int .i64 9]) vb 9 by rw [hw]; exact (HR5.out.setF hB _ _).setF hB _ _)
              have hownE := own_set (own_set hown5 D2.out (by decide) 0 (.slice a5 n5 c5)) (set_blk D2.out 0 _) (by decide) 1 (.int .i64 9)
              rw [← hw] at hownE
              have hextE : Ext w w6 := by rw [hw]; exact (hext5.setN (Nat.le_refl _) _ _).setN (Nat.le_refl _) _ _
              clear hw
              clear D2 D5 HR5 hown5 hext5 e0 e1 f0 f1
              go_wp2_with (at_builtin; (refine wpList_push rfl (.tmp 44) (.tmp 47) 23 rfl w.heap.size 66 66 (.int .i64 0) 1 8 Try.underlying23 (by kernel_rfl) rfl (by decide) _ out.length _ [.int .i64 v1] rfl hownE _ rfl (by simp) rfl (by simp [Value.oneCell']) (by unfold maxLen; omega) (by omega) hextE.size ?_; intro v' w1 hown1 hgr; have hext1 := hextE.push hownE (Nat.le_refl _) hgr; have E2 := Lib.hid (push_keepsT hownE hgr E2.out (by decide)); have E5 := Lib.hid (push_keepsT hownE hgr E5.out (by decide)); have HR7 := Lib.hid (ER.out.push hownE hB hgr); clear hgr hownE hextE ER))
              go_roundw
              case rel => exact ⟨k, out ++ [(v1 : Int)], vb, 9, a5, n5, c5, by rw [List.length_append, List.length_singleton]; go_num, by rw [List.length_append, List.length_singleton, List.map_append]; exact hown1, HR7, E2, E5, hext1, by rw [List.length_append, List.length_singleton]; omega, Nat.le_trans HVS.out hbs, (Lib.hid (HRR.out.trans (sigF_e (by decide)).symm))⟩
              case measure => simp [intOf]; omega
        · have t1 : (ve == 0) = false := by simpa using hv0
          have HRR := Lib.hid (HST.out.1 hv0)
          have HV0 := Lib.hid hv0
          clear hv0 HST
          go_wp2_with (at_builtin; (refine wpList_push rfl (.tmp 44) (.tmp 47) 23 rfl w.heap.size 66 66 (.int .i64 0) 1 8 Try.underlying23 (by kernel_rfl) rfl (by decide) _ out.length _ [.int .i64 v1] rfl hownE _ rfl (by simp) rfl (by simp [Value.oneCell']) (by unfold maxLen; omega) (by omega) hextE.size ?_; intro v' w1 hown1 hgr; have hext1 := hextE.push hownE (Nat.le_refl _) hgr; have E2 := Lib.hid (push_keepsT hownE hgr E2.out (by decide)); have E5 := Lib.hid (push_keepsT hownE hgr E5.out (by decide)); have HR7 := Lib.hid (ER.out.push hownE hB hgr); clear hgr hownE hextE ER))
          go_roundw
          case rel => exact ⟨k, out ++ [(v1 : Int)], vb, ve, a3, n3, c3, by rw [List.length_append, List.length_singleton]; go_num, by rw [List.length_append, List.length_singleton, List.map_append]; exact hown1, HR7, E2, E5, hext1, by rw [List.length_append, List.length_singleton]; omega, Nat.le_trans HVS.out hbs, (Lib.hid (HRR.out.trans (sigF_e HV0.out).symm))⟩
          case measure => simp [intOf]; omega
      · obtain rfl : k = 0 := by omega
        have i1 : decide ((out.length : Int) < M.1) = false := decide_eq_false (by omega)
        have HRR := Lib.hid (HT.out.trans (sigF_z _ _ _) : R = (out, bs', 0))
        obtain ⟨ao', cap', hv, hcc, hfr⟩ := own_cells hown
        cases hv
        have f0 := frozen_blk D5.out 0
        have f1 := frozen_blk D5.out 1
        have e0 := blk D5.out 0 rfl
        have e1 := blk D5.out 1 rfl
        have HOW := Lib.hid hown
        have HFR := Lib.hid hfr
        clear HT hown hfr hcc
        go_wp2_with fail
        go_region_held3 (fun w' => w'.cell? ⟨w.heap.size, 0, none⟩ = some (.slice a1 n1 c1) ∧ w'.cell? ⟨w.heap.size, 1, none⟩ = some (.int .i64 0)) (constructor <;> go_simp) (fail)
        go_wp2
        exact bodyPost_ret (ret_tmp_cell (p := 5) (u := 4) rfl rfl (load_ref (set2 D5.out _ _))) rfl ⟨_, _, _, by rw [HRR.out] <;> rfl, by
          rw [HRR.out]; exact (own_cellsAt (own_set (own_set HOW.out D5.out (by decide) 0 _) (set_blk D5.out 0 _) (by decide) 1 _)).ext (Ext.rf _).dr, HFR.out, by
          rw [HRR.out]; exact ((HR.out.setF (by omega) _ _).setF (by omega) _ _).ext (Ext.rf _).dr, ((hext.setN (by omega) _ _).setN (by omega) _ _).dr⟩
    · have t0 : (er' == 0) = false := by simpa using h0
      have t0n : (er' != 0) = true := by simpa using h0
      have HRR := Lib.hid (HT.out.trans (sigF_e h0))
      have f0 := frozen_blk D5.out 0
      have f1 := frozen_blk D5.out 1
      have e0 := blk D5.out 0 rfl
      have e1 := blk D5.out 1 rfl
      clear HT hown h0
      go_wp2_with fail
      all_goals go_region_held3 (fun w' => w'.cell? ⟨w.heap.size, 0, none⟩ = some (.slice a1 n1 c1) ∧ w'.cell? ⟨w.heap.size, 1, none⟩ = some (.int .i64 er')) (constructor <;> go_simp) (fail)
      all_goals go_wp2
      all_goals exact bodyPost_ret (ret_tmp_cell (p := 5) (u := 4) rfl rfl (load_ref (set2 D5.out _ _))) rfl ⟨none, 0, _, by rw [HRR.out] <;> rfl, by rw [HRR.out]; exact Cells.nil _ _, fresh_nil _, by
          rw [HRR.out]; exact ((HR.out.setF (by omega) _ _).setF (by omega) _ _).ext (Ext.rf _).dr, ((hext.setN (by omega) _ _).setN (by omega) _ _).dr⟩
end Go.Proofs.Ytfeddkfpkdjbeaa
