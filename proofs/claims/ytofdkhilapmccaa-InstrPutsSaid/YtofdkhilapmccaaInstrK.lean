/- Instructions: taking one: in plain Lean, and the walks of instr.Take and of its reference. -/
import Derived.Test.YtofdkhilapmccaaTreeV
import Derived.Test.YtofdkhilapmccaaInstrR
namespace Go.Proofs.Ytofdkhilapmccaa
open Go.RowKit

/-- The instruction that bytes begin with. -/
def instrTake (bs : List UInt8) (er : Int) : InstrT × List UInt8 × Int :=
  if (byteS bs er).2.2 ≠ 0 then ((0, 0), (byteS bs er).2)
  else if 35 ≤ (byteS bs er).1 then ((0, 0), (byteS bs er).2.1, 8)
  else if operandI (byteS bs er).1 = 0 then ((((byteS bs er).1 : Int), 0), (byteS bs er).2.1, 0)
  else if (intS (byteS bs er).2.1 0).2.2 ≠ 0 then ((0, 0), (intS (byteS bs er).2.1 0).2)
  else if rightInstr (((byteS bs er).1 : Int), (intS (byteS bs er).2.1 0).1) = true then ((((byteS bs er).1 : Int), (intS (byteS bs er).2.1 0).1), (intS (byteS bs er).2.1 0).2)
  else ((0, 0), (intS (byteS bs er).2.1 0).2.1, 2)

theorem instrTake_eq (bs : List UInt8) (er : Int) (b : Nat × List UInt8 × Int) (hb : b = byteS bs er) (v : Int × List UInt8 × Int) (hv : v = intS b.2.1 0) :
    (b.2.2 ≠ 0 → instrTake bs er = ((0, 0), b.2)) ∧ (b.2.2 = 0 → 35 ≤ b.1 → instrTake bs er = ((0, 0), b.2.1, 8)) ∧ (b.2.2 = 0 → ¬ 35 ≤ b.1 → operandI b.1 = 0 → instrTake bs er = (((b.1 : Int), 0), b.2.1, 0)) ∧
    (b.2.2 = 0 → ¬ 35 ≤ b.1 → operandI b.1 ≠ 0 → v.2.2 ≠ 0 → instrTake bs er = ((0, 0), v.2)) ∧ (b.2.2 = 0 → ¬ 35 ≤ b.1 → operandI b.1 ≠ 0 → v.2.2 = 0 → rightInstr ((b.1 : Int), v.1) = true → instrTake bs er = (((b.1 : Int), v.1), v.2)) ∧
    (b.2.2 = 0 → ¬ 35 ≤ b.1 → operandI b.1 ≠ 0 → v.2.2 = 0 → rightInstr ((b.1 : Int), v.1) = false → instrTake bs er = ((0, 0), v.2.1, 2)) := by
  subst hv
  subst hb
  unfold instrTake
  refine ⟨fun h => ?_, fun h h2 => ?_, fun h h2 h3 => ?_, fun h h2 h3 h4 => ?_, fun h h2 h3 h4 h5 => ?_, fun h h2 h3 h4 h5 => ?_⟩
  · rw [if_pos h]
  · rw [if_neg (fun h' => h' h), if_pos h2]
  · rw [if_neg (fun h' => h' h), if_neg h2, if_pos h3]
  · rw [if_neg (fun h' => h' h), if_neg h2, if_neg h3, if_pos h4]
  · rw [if_neg (fun h' => h' h), if_neg h2, if_neg h3, if_neg (fun h' => h' h4), if_pos h5]
  · rw [if_neg (fun h' => h' h), if_neg h2, if_neg h3, if_neg (fun h' => h' h4), if_neg (by rw [h5]; decide)]
theorem operand_big {n : Nat} (h : 35 ≤ n) : operandI n = 0 := by
  unfold operandI; rw [if_neg]; simp [isOp]; omega
theorem is_of {n : Nat} (h : ¬ 35 ≤ n) : isOp (n : Int) = true := by simp [isOp]; omega
theorem instrTake_less (bs : List UInt8) (er : Int) : (instrTake bs er).2.1.length ≤ bs.length := by
  have h1 := byteS_less bs er
  have h2 := intS_less (byteS bs er).2.1 0
  unfold instrTake
  repeat' split
  all_goals first | exact h1 | exact Nat.le_trans h2 h1

theorem keepG {W W' : World} {g k : Nat} {o : Obj} (hg : W.grownBy W' (some g)) (h : W.heap[k]? = some o) (hk : g < k) : W'.heap[k]? = some o :=
  (hg.block k (Array.getElem?_eq_some_iff.1 h).1 (by simp; omega)).trans h

set_option maxHeartbeats 2000000 in
set_option maxRecDepth 20000 in
theorem instr_Take (g : Nat) (bs : List UInt8) (er : Int) (w : World) (hc : CurAt w g bs er) (hl : bs.length ≤ 140737488351232) :
    Calls Try.prog 61 #[.pointer (some ⟨g, 0, none⟩)] w (Goes g (.agg #[.int .i64 (instrTake bs er).1.1, .int .i64 (instrTake bs er).1.2]) (instrTake bs er).2.1 (instrTake bs er).2.2 w) := by
  have hgl := hc.lt
  have HB := Lib.hid (fun W (h : CurAt W g bs er) => cur_Byte g bs er W h hl)
  have HQ := Lib.hid (instrTake_eq bs er _ rfl _ rfl)
  have HBL := Lib.hid (byteS_lt bs er)
  have hless := byteS_less bs er
  have HVB : Hid (I64 (intS (byteS bs er).2.1 0).1) := unfoldI_bounds (bitsS_ok (byteS bs er).2.1 0).1
  have HI : Hid (∀ v, v = intS (byteS bs er).2.1 0 → ∀ W, CurAt W g (byteS bs er).2.1 0 → Calls Try.prog 128 #[.pointer (some ⟨g, 0, none⟩)] W (Goes g (.int .i64 v.1) v.2.1 v.2.2 W)) := fun v hv W h => by
    subst hv; exact cur_Int g _ 0 W h (Nat.le_trans hless hl)
  have HI := Lib.hid (HI.out _ rfl)
  generalize instrTake bs er = V at *
  generalize intS (byteS bs er).2.1 0 = v at *
  generalize byteS bs er = b at *
  obtain ⟨b1, b2, b3⟩ := b
  obtain ⟨v1, v2, v3⟩ := v
  dsimp only at HQ HBL HVB HI HB
  have hb256 := HBL.out.1
  have hx1 := (Ext.rf w).al (.cells #[.int .i64 0, .int .i64 0] 49)
  have HC0 := Lib.hid (hc.ext hx1)
  have hE0 : GrowG g w (w.alloc (.cells #[.int .i64 0, .int .i64 0] 49)) := (GrowG.rf g w).ext hx1
  have D0 := Lib.hid (alloc_new w (.cells #[.int .i64 0, .int .i64 0] 49))
  clear hc hx1 hless
  go_enter Try.func61, Try.ntmps61
  go_wp2_with fail
  generalize w.alloc (.cells #[.int .i64 0, .int .i64 0] 49) = w0 at *
  generalize hS : w.heap.size = S at *
  have hw64 : IntKind.i64.wrap (b1 : Int) = b1 := by rw [IntKind.wrap_i64]; omega
  have hw64' : wrap64 (b1 : Int) = b1 := by unfold wrap64; omega
  refine (HB.out _ HC0.out).mono ?_
  rintro e w1 ⟨rfl, hc1, hg1⟩
  have D1 := Lib.hid (keepG hg1 D0.out hgl)
  have hE1 := hE0.call hg1
  have HC1 := Lib.hid hc1
  have hsz1 : S < w1.heap.size := (Array.getElem?_eq_some_iff.1 D1.out).1
  clear hc1 hg1 HC0 hE0 D0 HB
  go_upto_region 2 with fail
  obtain ⟨w2, hw2⟩ : ∃ x, x = w1.alloc (.cells #[.int .i64 b1, .int .i64 0] 49) := ⟨_, rfl⟩
  rw [← hw2]
  have hxa : Ext w1 w2 := by rw [hw2]; exact (Ext.rf _).al _
  have D2 := Lib.hid (hxa.blk D1.out)
  have B2 := Lib.hid (show w2.heap[w1.heap.size]? = some (.cells #[.int .i64 b1, .int .i64 0] 49 (0, 0)) by rw [hw2]; exact alloc_new w1 _)
  have HC2 := Lib.hid (HC1.out.ext hxa)
  have hE2 := hE1.ext hxa
  clear hw2 hxa D1 HC1 hE1
  generalize w1.heap.size = G at *
  have c0 : w2.cell? ⟨G, 0, none⟩ = some (.int .i64 b1) := blk B2.out 0 rfl
  have c1 : w2.cell? ⟨G, 1, none⟩ = some (.int .i64 0) := blk B2.out 1 rfl
  by_cases h3 : b3 = 0
  · subst h3
    by_cases h35 : 35 ≤ b1
    · clear c0 c1
      have c0 : w2.cell? ⟨G, 0, none⟩ = some (.int .i64 b1) := blk B2.out 0 rfl
      have c1 : w2.cell? ⟨G, 1, none⟩ = some (.int .i64 0) := blk B2.out 1 rfl
      have t1 : decide ((35 : Int) ≤ (b1 : Int)) = true := decide_eq_true (by omega)
      have t2 : (operandI (b1 : Int) != 0) = false := by rw [operand_big h35]; rfl
      have HV := Lib.hid (HQ.out.2.1 rfl h35)
      clear h35 HQ
      have HF := Lib.hid (cur_Fail g b2 0 8 w2 HC2.out)
      rw [show failE 0 8 = 8 by simp [failE]] at HF
      go_wp2_with fail
      refine HF.out.mono ?_
      rintro e w5 ⟨⟨v5, rfl⟩, hc5, hg5⟩
      have D5 := Lib.hid (keepG hg5 D2.out (by omega))
      have B5 := Lib.hid (keepG hg5 B2.out (by omega))
      have HC5 := Lib.hid hc5
      have hE5 := hE2.call hg5
      clear hc5 hg5 HF
      have k0 : w5.cell? ⟨G, 0, none⟩ = some (.int .i64 b1) := blk B5.out 0 rfl
      have k1 : w5.cell? ⟨G, 1, none⟩ = some (.int .i64 0) := blk B5.out 1 rfl
      have d0 : w5.cell? ⟨S, 0, none⟩ = some (.int .i64 0) := blk D5.out 0 rfl
      have d1 : w5.cell? ⟨S, 1, none⟩ = some (.int .i64 0) := blk D5.out 1 rfl
      have f0 := frozen_blk D5.out 0
      have f1 := frozen_blk D5.out 1
      go_wp2_with fail
      refine (instr_has _ _).mono ?_
      rintro e w9 ⟨rfl, rfl⟩
      go_wp2_with fail
      refine (cur_Err g b2 8 w5 HC5.out).mono ?_
      rintro e w9 ⟨rfl, rfl⟩
      go_wp2_with fail
      refine (cur_Err g b2 8 w5 HC5.out).mono ?_
      rintro e w9 ⟨rfl, rfl⟩
      go_wp2_with fail
      exact bodyPost_ret (ret_cell1 rfl rfl (load_instr (set2 D5.out _ _))) rfl ⟨by rw [HV.out] <;> rfl, by rw [HV.out]; exact (HC5.out.setF (by omega) _ _).setF (by omega) _ _, ((GrowG.setF hE5 (Nat.le_of_eq hS) _ _).setF (Nat.le_of_eq hS) _ _).h⟩
    · have t1 : decide ((35 : Int) ≤ (b1 : Int)) = false := decide_eq_false (by omega)
      by_cases h0 : operandI (b1 : Int) = 0
      · skip
        have t2 : (operandI (b1 : Int) != 0) = false := by rw [h0]; rfl
        have HV := Lib.hid (HQ.out.2.2.1 rfl h35 h0)
        have hr := right_zero (is_of h35)
        clear h35 h0 HQ
        go_wp2_with fail
        refine (instr_has _ _).mono ?_
        rintro e w9 ⟨rfl, rfl⟩
        go_wp2_with fail
        refine (cur_Err g b2 0 w2 HC2.out).mono ?_
        rintro e w9 ⟨rfl, rfl⟩
        go_wp2_with fail
        refine (instr_Right _ _ _).mono ?_
        rw [hr]
        rintro e w5 ⟨rfl, hx5⟩
        have D5 := Lib.hid (hx5.blk D2.out)
        have B5 := Lib.hid (hx5.blk B2.out)
        have HC5 := Lib.hid (HC2.out.ext hx5)
        have hE5 := hE2.ext hx5
        clear hx5 hr
        have k0 : w5.cell? ⟨G, 0, none⟩ = some (.int .i64 b1) := blk B5.out 0 rfl
        have k1 : w5.cell? ⟨G, 1, none⟩ = some (.int .i64 0) := blk B5.out 1 rfl
        have d0 : w5.cell? ⟨S, 0, none⟩ = some (.int .i64 0) := blk D5.out 0 rfl
        have d1 : w5.cell? ⟨S, 1, none⟩ = some (.int .i64 0) := blk D5.out 1 rfl
        have f0 := frozen_blk D5.out 0
        have f1 := frozen_blk D5.out 1
        go_wp2_with fail
        refine (cur_Err g b2 0 w5 HC5.out).mono ?_
        rintro e w9 ⟨rfl, rfl⟩
        go_wp2_with fail
        exact bodyPost_ret (ret_cell1 rfl rfl (load_instr (set2 D5.out _ _))) rfl ⟨by rw [HV.out] <;> rfl, by rw [HV.out]; exact (HC5.out.setF (by omega) _ _).setF (by omega) _ _, ((GrowG.setF hE5 (Nat.le_of_eq hS) _ _).setF (Nat.le_of_eq hS) _ _).h⟩
      · skip
        have t2 : (operandI (b1 : Int) != 0) = true := by simpa using h0
        have HV4 := Lib.hid (fun h => HQ.out.2.2.2.1 rfl h35 h0 h)
        have HV5 := Lib.hid (fun h => HQ.out.2.2.2.2.1 rfl h35 h0 h)
        have HV6 := Lib.hid (fun h => HQ.out.2.2.2.2.2 rfl h35 h0 h)
        clear h35 h0 HQ
        go_wp2_with fail
        refine (instr_has _ _).mono ?_
        rintro e w9 ⟨rfl, rfl⟩
        go_wp2_with fail
        refine (HI.out _ HC2.out).mono ?_
        rintro e w4 ⟨rfl, hc4, hg4⟩
        have D4 := Lib.hid (keepG hg4 D2.out (by omega))
        have B4 := Lib.hid (keepG hg4 B2.out (by omega))
        have HC4 := Lib.hid hc4
        have hE4 := hE2.call hg4
        clear hc4 hg4 c0 c1 D2 B2 HC2 hE2
        have k0 : w4.cell? ⟨G, 0, none⟩ = some (.int .i64 b1) := blk B4.out 0 rfl
        have k1 : w4.cell? ⟨G, 1, none⟩ = some (.int .i64 0) := blk B4.out 1 rfl
        have z0 := frozen_blk B4.out 0
        have z1 := frozen_blk B4.out 1
        go_upto_region 6 with fail
        obtain ⟨w6, hw6⟩ : ∃ x, x = w4.setCell ⟨G, 1, none⟩ (.int .i64 v1) := ⟨_, rfl⟩
        rw [← hw6]
        have D2 := Lib.hid (show w6.heap[S]? = some (.cells #[.int .i64 0, .int .i64 0] 49 (0, 0)) by rw [hw6, Below.heap_setCell _ _ _ _ (by show S ≠ G; omega)]; exact D4.out)
        have B2 := Lib.hid (show w6.heap[G]? = some (.cells #[.int .i64 b1, .int .i64 v1] 49 (0, 0)) by rw [hw6]; exact set_blk B4.out 1 _)
        have HC2 := Lib.hid (show CurAt w6 g v2 v3 by rw [hw6]; exact HC4.out.setF (by omega) _ _)
        have hE2 : GrowG g w w6 := by rw [hw6]; exact hE4.setF (by omega) _ _
        clear hw6 D4 B4 HC4 hE4 k0 k1 z0 z1
        by_cases h3 : v3 = 0
        · subst h3
          have k0 : w6.cell? ⟨G, 0, none⟩ = some (.int .i64 b1) := blk B2.out 0 rfl
          have k1 : w6.cell? ⟨G, 1, none⟩ = some (.int .i64 v1) := blk B2.out 1 rfl
          cases hr : rightInstr ((b1 : Int), v1) with
          | true =>
            have HV := Lib.hid (HV5.out rfl hr)
            go_wp2_with fail
            refine (cur_Err g v2 0 w6 HC2.out).mono ?_
            rintro e w9 ⟨rfl, rfl⟩
            go_wp2_with fail
            refine (instr_Right _ _ _).mono ?_
            rw [hr]
            rintro e w5 ⟨rfl, hx5⟩
            have D5 := Lib.hid (hx5.blk D2.out)
            have B5 := Lib.hid (hx5.blk B2.out)
            have HC5 := Lib.hid (HC2.out.ext hx5)
            have hE5 := hE2.ext hx5
            clear hx5 hr k0 k1
            have k0 : w5.cell? ⟨G, 0, none⟩ = some (.int .i64 b1) := blk B5.out 0 rfl
            have k1 : w5.cell? ⟨G, 1, none⟩ = some (.int .i64 v1) := blk B5.out 1 rfl
            have d0 : w5.cell? ⟨S, 0, none⟩ = some (.int .i64 0) := blk D5.out 0 rfl
            have d1 : w5.cell? ⟨S, 1, none⟩ = some (.int .i64 0) := blk D5.out 1 rfl
            have f0 := frozen_blk D5.out 0
            have f1 := frozen_blk D5.out 1
            go_wp2_with fail
            refine (cur_Err g v2 0 w5 HC5.out).mono ?_
            rintro e w9 ⟨rfl, rfl⟩
            go_wp2_with fail
            exact bodyPost_ret (ret_cell1 rfl rfl (load_instr (set2 D5.out _ _))) rfl ⟨by rw [HV.out] <;> rfl, by rw [HV.out]; exact (HC5.out.setF (by omega) _ _).setF (by omega) _ _, ((GrowG.setF hE5 (Nat.le_of_eq hS) _ _).setF (Nat.le_of_eq hS) _ _).h⟩
          | false =>
            have HV := Lib.hid (HV6.out rfl hr)
            go_wp2_with fail
            refine (cur_Err g v2 0 w6 HC2.out).mono ?_
            rintro e w9 ⟨rfl, rfl⟩
            go_wp2_with fail
            refine (instr_Right _ _ _).mono ?_
            rw [hr]
            rintro e w7 ⟨rfl, hx7⟩
            have D2 := Lib.hid (hx7.blk D2.out)
            have B2 := Lib.hid (hx7.blk B2.out)
            have HC2 := Lib.hid (HC2.out.ext hx7)
            have hE2 := hE2.ext hx7
            clear hx7 hr k0 k1
            have HF := Lib.hid (cur_Fail g v2 0 2 w7 HC2.out)
            rw [show failE 0 2 = 2 by simp [failE]] at HF
            go_wp2_with fail
            refine HF.out.mono ?_
            rintro e w5 ⟨⟨v5, rfl⟩, hc5, hg5⟩
            have D5 := Lib.hid (keepG hg5 D2.out (by omega))
            have B5 := Lib.hid (keepG hg5 B2.out (by omega))
            have HC5 := Lib.hid hc5
            have hE5 := hE2.call hg5
            clear hc5 hg5 HF
            have d0 : w5.cell? ⟨S, 0, none⟩ = some (.int .i64 0) := blk D5.out 0 rfl
            have d1 : w5.cell? ⟨S, 1, none⟩ = some (.int .i64 0) := blk D5.out 1 rfl
            have f0 := frozen_blk D5.out 0
            have f1 := frozen_blk D5.out 1
            go_wp2_with fail
            refine (cur_Err g v2 2 w5 HC5.out).mono ?_
            rintro e w9 ⟨rfl, rfl⟩
            go_wp2_with fail
            exact bodyPost_ret (ret_cell1 rfl rfl (load_instr (set2 D5.out _ _))) rfl ⟨by rw [HV.out] <;> rfl, by rw [HV.out]; exact (HC5.out.setF (by omega) _ _).setF (by omega) _ _, ((GrowG.setF hE5 (Nat.le_of_eq hS) _ _).setF (Nat.le_of_eq hS) _ _).h⟩
        · have t3 : (v3 == 0) = false := by simpa using h3
          have t4 : (v3 != 0) = true := by simpa using h3
          have HV := Lib.hid (HV4.out h3)
          clear h3
          have d0 : w6.cell? ⟨S, 0, none⟩ = some (.int .i64 0) := blk D2.out 0 rfl
          have d1 : w6.cell? ⟨S, 1, none⟩ = some (.int .i64 0) := blk D2.out 1 rfl
          have f0 := frozen_blk D2.out 0
          have f1 := frozen_blk D2.out 1
          go_wp2_with fail
          refine (cur_Err g v2 v3 w6 HC2.out).mono ?_
          rintro e w9 ⟨rfl, rfl⟩
          go_wp2_with fail
          refine (cur_Err g v2 v3 w6 HC2.out).mono ?_
          rintro e w9 ⟨rfl, rfl⟩
          go_wp2_with fail
          exact bodyPost_ret (ret_cell1 rfl rfl (load_instr (set2 D2.out _ _))) rfl ⟨by rw [HV.out] <;> rfl, by rw [HV.out]; exact (HC2.out.setF (by omega) _ _).setF (by omega) _ _, ((GrowG.setF hE2 (Nat.le_of_eq hS) _ _).setF (Nat.le_of_eq hS) _ _).h⟩
  · have hb0 := HBL.out.2 h3
    have t1 : decide ((35 : Int) ≤ (b1 : Int)) = false := decide_eq_false (by omega)
    have t2 : (operandI (b1 : Int) != 0) = false := by rw [HBL.out.2 h3]; decide
    have t3 : (b3 == 0) = false := by simpa using h3
    have t4 : (b3 != 0) = true := by simpa using h3
    have HV := Lib.hid (HQ.out.1 h3)
    clear h3 HQ hb0
    have d0 : w2.cell? ⟨S, 0, none⟩ = some (.int .i64 0) := blk D2.out 0 rfl
    have d1 : w2.cell? ⟨S, 1, none⟩ = some (.int .i64 0) := blk D2.out 1 rfl
    have f0 := frozen_blk D2.out 0
    have f1 := frozen_blk D2.out 1
    go_wp2_with fail
    refine (instr_has _ _).mono ?_
    rintro e w9 ⟨rfl, rfl⟩
    go_wp2_with fail
    refine (cur_Err g b2 b3 w2 HC2.out).mono ?_
    rintro e w9 ⟨rfl, rfl⟩
    go_wp2_with fail
    refine (cur_Err g b2 b3 w2 HC2.out).mono ?_
    rintro e w9 ⟨rfl, rfl⟩
    go_wp2_with fail
    exact bodyPost_ret (ret_cell1 rfl rfl (load_instr (set2 D2.out _ _))) rfl ⟨by rw [HV.out] <;> rfl, by rw [HV.out]; exact (HC2.out.setF (by omega) _ _).setF (by omega) _ _, ((GrowG.setF hE2 (Nat.le_of_eq hS) _ _).setF (Nat.le_of_eq hS) _ _).h⟩

theorem ret_cell_cell {fn : Func} {p u : Tmp} {ty tz : TypeId} (h : fn.results = #[.cell p ty, .cell u tz]) {tmps : Array Value} {P : Program} {w : World} {A A2 : Addr} {v v2 : Value} (hp : tmps.getD p undef = .pointer (some A)) (hu : tmps.getD u undef = .pointer (some A2)) (hv : (loadVar ty A).run P w = .ok v w) (hv2 : (loadVar tz A2).run P w = .ok v2 w) :
    (results fn tmps).run P w = .ok (.tuple #[v, v2]) w := by
  have hp2 : tmps[p]?.getD undef = .pointer (some A) := by simpa using hp
  have hu2 : tmps[u]?.getD undef = .pointer (some A2) := by simpa using hu
  simp [results, h, hp2, hu2, asAddr, hv, hv2, Result.andThen, Sem.run_bind]

set_option maxHeartbeats 4000000 in
set_option maxRecDepth 20000 in
theorem instrref_Take (v0 : Value) (B : Nat) (bs : List UInt8) (er : Int) (w : World) (hr : RefAt w B v0 bs er) (hB : B ≤ w.heap.size) (hl : bs.length ≤ 140737488351232) :
    Calls Try.prog 60 #[v0] w (RGoes B (.agg #[.int .i64 (instrTake bs er).1.1, .int .i64 (instrTake bs er).1.2]) (instrTake bs er).2.1 (instrTake bs er).2.2 w) := by
  have HB := Lib.hid (fun w' (hx : Ext w w') => ref_Byte v0 B bs er w' (hr.ext hx) (Nat.le_trans hB hx.size))
  have HQ := Lib.hid (instrTake_eq bs er _ rfl _ rfl)
  have HBL := Lib.hid (byteS_lt bs er)
  have hless := byteS_less bs er
  have HI : Hid (∀ v, v = intS (byteS bs er).2.1 0 → ∀ u W, RefAt W B u (byteS bs er).2.1 0 → B ≤ W.heap.size → Calls Try.prog 121 #[u] W (RGoes B (.int .i64 v.1) v.2.1 v.2.2 W)) := fun v hv u W h hb => by
    subst hv; exact ref_Int u B _ 0 W h hb (Nat.le_trans hless hl)
  have HI := Lib.hid (HI.out _ rfl)
  generalize instrTake bs er = V at *
  generalize intS (byteS bs er).2.1 0 = v at *
  generalize byteS bs er = b at *
  obtain ⟨b1, b2, b3⟩ := b
  obtain ⟨v1, v2, v3⟩ := v
  dsimp only at HQ HBL HI HB
  have hb256 := HBL.out.1
  have hw64 : IntKind.i64.wrap (b1 : Int) = b1 := by rw [IntKind.wrap_i64]; omega
  have hw64' : wrap64 (b1 : Int) = b1 := by unfold wrap64; omega
  obtain ⟨a0, n0, c0, rfl⟩ := hr.shape
  clear hr hless
  go_enter Try.func60, Try.ntmps60
  go_wp2_with fail
  obtain ⟨w0, hw0⟩ : ∃ x, x = ((w.alloc (.cells #[.slice a0 n0 c0, .int .i64 er] 67)).alloc (.cells #[.int .i64 0, .int .i64 0] 49)).alloc (.cells #[.slice none 0 0, .int .i64 0] 67) := ⟨_, rfl⟩
  rw [← hw0]
  have hx0 : Ext w w0 := by rw [hw0]; exact (((Ext.rf w).al _).al _).al _
  have Z1 := Lib.hid (show w0.heap[w.heap.size + 1]? = some (.cells #[.int .i64 0, .int .i64 0] 49 (0, 0)) by rw [hw0]; exact Ext.blk ((Ext.rf _).al _) (alloc2 w _ _))
  have Z2 := Lib.hid (show w0.heap[w.heap.size + 2]? = some (.cells #[.slice none 0 0, .int .i64 0] 67 (0, 0)) by
    rw [hw0]
    have h := alloc_new ((w.alloc (.cells #[.slice a0 n0 c0, .int .i64 er] 67)).alloc (.cells #[.int .i64 0, .int .i64 0] 49)) (.cells #[.slice none 0 0, .int .i64 0] 67)
    simpa using h)
  clear hw0
  refine (HB.out _ hx0).mono ?_
  rintro e w1 ⟨v1', rfl, hr1, hx1⟩
  have HR1 := Lib.hid hr1
  obtain ⟨a1, n1, c1, rfl⟩ := hr1.shape
  have Z1 := Lib.hid (hx1.blk Z1.out)
  have Z2 := Lib.hid (hx1.blk Z2.out)
  have HE1 := Lib.hid (hx0.tr hx1)
  clear hr1 hx1 hx0 HB
  go_upto_region 2 with fail
  obtain ⟨w2, hw2⟩ : ∃ x, x = w1.alloc (.cells #[.slice a1 n1 c1, .int .i64 b3] 67) := ⟨_, rfl⟩
  rw [← hw2]
  have hxa : Ext w1 w2 := by rw [hw2]; exact (Ext.rf _).al _
  have X5 := Lib.hid (show w2.heap[w1.heap.size]? = some (.cells #[.slice a1 n1 c1, .int .i64 b3] 67 (0, 0)) by rw [hw2]; exact alloc_new w1 _)
  have hs12 : w.heap.size + 2 < w1.heap.size := (Array.getElem?_eq_some_iff.1 Z2.out).1
  have Z1 := Lib.hid (hxa.blk Z1.out)
  have Z2 := Lib.hid (hxa.blk Z2.out)
  have HR2 := Lib.hid (HR1.out.ext hxa)
  have HE2 := Lib.hid (HE1.out.tr hxa)
  clear hw2 hxa HR1 HE1
  generalize hG5 : w1.heap.size = G5 at *
  generalize hS : w.heap.size = S at *
  by_cases h3 : b3 = 0
  · subst h3
    have k0 : w2.cell? ⟨G5, 0, none⟩ = some (.slice a1 n1 c1) := blk X5.out 0 rfl
    have k1 : w2.cell? ⟨G5, 1, none⟩ = some (.int .i64 0) := blk X5.out 1 rfl
    go_upto_region 5 with fail
    obtain ⟨w3, hw3⟩ : ∃ x, x = w2.alloc (.cells #[.int .i64 b1, .int .i64 0] 49) := ⟨_, rfl⟩
    rw [← hw3]
    have hxb : Ext w2 w3 := by rw [hw3]; exact (Ext.rf _).al _
    have X6 := Lib.hid (show w3.heap[w2.heap.size]? = some (.cells #[.int .i64 b1, .int .i64 0] 49 (0, 0)) by rw [hw3]; exact alloc_new w2 _)
    have hs23 : G5 < w2.heap.size := (Array.getElem?_eq_some_iff.1 X5.out).1
    have X5 := Lib.hid (hxb.blk X5.out)
    have Z1 := Lib.hid (hxb.blk Z1.out)
    have Z2 := Lib.hid (hxb.blk Z2.out)
    have HR3 := Lib.hid (HR2.out.ext hxb)
    have HE3 := Lib.hid (HE2.out.tr hxb)
    clear hw3 hxb HR2 HE2 k0 k1
    generalize hG6 : w2.heap.size = G6 at *
    have hsz3 : G6 < w3.heap.size := (Array.getElem?_eq_some_iff.1 X6.out).1
    by_cases h35 : 35 ≤ b1
    · skip
      have t1 : decide ((35 : Int) ≤ (b1 : Int)) = true := decide_eq_true (by omega)
      have HV := Lib.hid (HQ.out.2.1 rfl h35)
      have HFL := Lib.hid (fun W hr hB => ref_Fail (.agg #[.slice a1 n1 c1, .int .i64 0]) B b2 0 8 W hr hB)
      rw [show failE 0 8 = 8 by simp [failE]] at HFL
      clear h35 HQ
      have k0 : w3.cell? ⟨G5, 0, none⟩ = some (.slice a1 n1 c1) := blk X5.out 0 rfl
      have k1 : w3.cell? ⟨G5, 1, none⟩ = some (.int .i64 0) := blk X5.out 1 rfl
      have j0 : w3.cell? ⟨G6, 0, none⟩ = some (.int .i64 b1) := blk X6.out 0 rfl
      have j1 : w3.cell? ⟨G6, 1, none⟩ = some (.int .i64 0) := blk X6.out 1 rfl
      go_wp2_with fail
      refine (HFL.out _ HR3.out (by omega)).mono ?_
      rintro e w5 ⟨v5, rfl, hr5, hx5⟩
      have HR5 := Lib.hid hr5
      obtain ⟨a5, n5, c5, rfl⟩ := hr5.shape
      have Z1 := Lib.hid (hx5.blk Z1.out)
      have Z2 := Lib.hid (hx5.blk Z2.out)
      have HE5 := Lib.hid (HE3.out.tr hx5)
      clear hr5 hx5 HFL
      have p0 : w5.cell? ⟨S + 1, 0, none⟩ = some (.int .i64 0) := blk Z1.out 0 rfl
      have p1 : w5.cell? ⟨S + 1, 1, none⟩ = some (.int .i64 0) := blk Z1.out 1 rfl
      have y0 := frozen_blk Z1.out 0
      have y1 := frozen_blk Z1.out 1
      have q0 : w5.cell? ⟨S + 2, 0, none⟩ = some (.slice none 0 0) := blk Z2.out 0 rfl
      have q1 : w5.cell? ⟨S + 2, 1, none⟩ = some (.int .i64 0) := blk Z2.out 1 rfl
      have z0 := frozen_blk Z2.out 0
      have z1 := frozen_blk Z2.out 1
      go_wp2_with fail
      exact bodyPost_ret (ret_cell_cell rfl rfl rfl (load_instr (blk_set (blk_set (set2 Z1.out _ _) (by omega) _ _) (by omega) _ _)) (load_ref (set2 (blk_set (blk_set Z2.out (by omega) _ _) (by omega) _ _) _ _))) rfl ⟨_, by rw [HV.out] <;> rfl, by rw [HV.out]; exact ((((HR5.out.setF (by omega) _ _).setF (by omega) _ _).setF (by omega) _ _).setF (by omega) _ _), ((((HE5.out.setN (by omega) _ _).setN (by omega) _ _).setN (by omega) _ _).setN (by omega) _ _)⟩
    · have t1 : decide ((35 : Int) ≤ (b1 : Int)) = false := decide_eq_false (by omega)
      by_cases h0 : operandI (b1 : Int) = 0
      · skip
        have t2 : decide (0 < operandI (b1 : Int)) = false := decide_eq_false (by omega)
        have HV := Lib.hid (HQ.out.2.2.1 rfl h35 h0)
        have hr := right_zero (is_of h35)
        clear h35 h0 HQ
        have k0 : w3.cell? ⟨G5, 0, none⟩ = some (.slice a1 n1 c1) := blk X5.out 0 rfl
        have k1 : w3.cell? ⟨G5, 1, none⟩ = some (.int .i64 0) := blk X5.out 1 rfl
        have j0 : w3.cell? ⟨G6, 0, none⟩ = some (.int .i64 b1) := blk X6.out 0 rfl
        have j1 : w3.cell? ⟨G6, 1, none⟩ = some (.int .i64 0) := blk X6.out 1 rfl
        go_wp2_with fail
        refine (opsref_Operand _ _).mono ?_
        rintro e w9 ⟨rfl, rfl⟩
        go_wp2_with fail
        refine (instrref_Right _ _ _).mono ?_
        rw [hr]
        rintro e w5 ⟨rfl, hx5⟩
        have X5 := Lib.hid (hx5.blk X5.out)
        have X6 := Lib.hid (hx5.blk X6.out)
        have Z1 := Lib.hid (hx5.blk Z1.out)
        have Z2 := Lib.hid (hx5.blk Z2.out)
        have HR5 := Lib.hid (HR3.out.ext hx5)
        have HE5 := Lib.hid (HE3.out.tr hx5)
        clear hx5 hr k0 k1 j0 j1
        have p0 : w5.cell? ⟨S + 1, 0, none⟩ = some (.int .i64 0) := blk Z1.out 0 rfl
        have p1 : w5.cell? ⟨S + 1, 1, none⟩ = some (.int .i64 0) := blk Z1.out 1 rfl
        have y0 := frozen_blk Z1.out 0
        have y1 := frozen_blk Z1.out 1
        have q0 : w5.cell? ⟨S + 2, 0, none⟩ = some (.slice none 0 0) := blk Z2.out 0 rfl
        have q1 : w5.cell? ⟨S + 2, 1, none⟩ = some (.int .i64 0) := blk Z2.out 1 rfl
        have z0 := frozen_blk Z2.out 0
        have z1 := frozen_blk Z2.out 1
        have k0 : w5.cell? ⟨G5, 0, none⟩ = some (.slice a1 n1 c1) := blk X5.out 0 rfl
        have k1 : w5.cell? ⟨G5, 1, none⟩ = some (.int .i64 0) := blk X5.out 1 rfl
        have j0 : w5.cell? ⟨G6, 0, none⟩ = some (.int .i64 b1) := blk X6.out 0 rfl
        have j1 : w5.cell? ⟨G6, 1, none⟩ = some (.int .i64 0) := blk X6.out 1 rfl
        go_wp2_with fail
        go_region_held3 (fun w' => w'.cell? ⟨G5, 0, none⟩ = some (.slice a1 n1 c1) ∧ w'.cell? ⟨G5, 1, none⟩ = some (.int .i64 0) ∧ w'.cell? ⟨G6, 0, none⟩ = some (.int .i64 b1) ∧ w'.cell? ⟨G6, 1, none⟩ = some (.int .i64 0)) (refine ⟨?_, ?_, ?_, ?_⟩ <;> go_simp) (fail)
        go_wp2
        exact bodyPost_ret (ret_cell_cell rfl rfl rfl (load_instr (blk_set (blk_set (set2 Z1.out _ _) (by omega) _ _) (by omega) _ _)) (load_ref (set2 (blk_set (blk_set Z2.out (by omega) _ _) (by omega) _ _) _ _))) rfl ⟨_, by rw [HV.out] <;> rfl, by rw [HV.out]; exact ((((HR5.out.setF (by omega) _ _).setF (by omega) _ _).setF (by omega) _ _).setF (by omega) _ _).ext (Ext.rf _).dr, ((((HE5.out.setN (by omega) _ _).setN (by omega) _ _).setN (by omega) _ _).setN (by omega) _ _).dr⟩
      · skip
        have t2 : decide (0 < operandI (b1 : Int)) = true := decide_eq_true (operandI_nn _ h0)
        have HV4 := Lib.hid (fun h => HQ.out.2.2.2.1 rfl h35 h0 h)
        have HV5 := Lib.hid (fun h => HQ.out.2.2.2.2.1 rfl h35 h0 h)
        have HV6 := Lib.hid (fun h => HQ.out.2.2.2.2.2 rfl h35 h0 h)
        clear h35 h0 HQ
        have k0 : w3.cell? ⟨G5, 0, none⟩ = some (.slice a1 n1 c1) := blk X5.out 0 rfl
        have k1 : w3.cell? ⟨G5, 1, none⟩ = some (.int .i64 0) := blk X5.out 1 rfl
        have j0 : w3.cell? ⟨G6, 0, none⟩ = some (.int .i64 b1) := blk X6.out 0 rfl
        have j1 : w3.cell? ⟨G6, 1, none⟩ = some (.int .i64 0) := blk X6.out 1 rfl
        go_wp2_with fail
        refine (opsref_Operand _ _).mono ?_
        rintro e w9 ⟨rfl, rfl⟩
        go_wp2_with fail
        refine (HI.out _ _ HR3.out (by omega)).mono ?_
        rintro e w4 ⟨v4, rfl, hr4, hx4⟩
        have HR4 := Lib.hid hr4
        obtain ⟨a4, n4, c4, rfl⟩ := hr4.shape
        have X5 := Lib.hid (hx4.blk X5.out)
        have X6 := Lib.hid (hx4.blk X6.out)
        have Z1 := Lib.hid (hx4.blk Z1.out)
        have Z2 := Lib.hid (hx4.blk Z2.out)
        have HE4 := Lib.hid (HE3.out.tr hx4)
        clear hr4 hx4 k0 k1 j0 j1 HE3 HR3
        have k0 : w4.cell? ⟨G5, 0, none⟩ = some (.slice a1 n1 c1) := blk X5.out 0 rfl
        have k1 : w4.cell? ⟨G5, 1, none⟩ = some (.int .i64 0) := blk X5.out 1 rfl
        have kz0 := frozen_blk X5.out 0
        have kz1 := frozen_blk X5.out 1
        have j0 : w4.cell? ⟨G6, 0, none⟩ = some (.int .i64 b1) := blk X6.out 0 rfl
        have j1 : w4.cell? ⟨G6, 1, none⟩ = some (.int .i64 0) := blk X6.out 1 rfl
        have jz0 := frozen_blk X6.out 0
        have jz1 := frozen_blk X6.out 1
        go_upto_region 9 with fail
        obtain ⟨w6, hw6⟩ : ∃ x, x = ((w4.setCell ⟨G6, 1, none⟩ (.int .i64 v1)).setCell ⟨G5, 0, none⟩ (.slice a4 n4 c4)).setCell ⟨G5, 1, none⟩ (.int .i64 v3) := ⟨_, rfl⟩
        rw [← hw6]
        have Y6 := Lib.hid (show w6.heap[G6]? = some (.cells #[.int .i64 b1, .int .i64 v1] 49 (0, 0)) by rw [hw6]; exact blk_set (blk_set (set_blk X6.out 1 _) (by omega) _ _) (by omega) _ _)
        have Y5 := Lib.hid (show w6.heap[G5]? = some (.cells #[.slice a4 n4 c4, .int .i64 v3] 67 (0, 0)) by rw [hw6]; exact set2 (blk_set X5.out (by omega) _ _) _ _)
        have Z1 := Lib.hid (show w6.heap[S + 1]? = some (.cells #[.int .i64 0, .int .i64 0] 49 (0, 0)) by rw [hw6]; exact blk_set (blk_set (blk_set Z1.out (by omega) _ _) (by omega) _ _) (by omega) _ _)
        have Z2 := Lib.hid (show w6.heap[S + 2]? = some (.cells #[.slice none 0 0, .int .i64 0] 67 (0, 0)) by rw [hw6]; exact blk_set (blk_set (blk_set Z2.out (by omega) _ _) (by omega) _ _) (by omega) _ _)
        have HR6 := Lib.hid (show RefAt w6 B (.agg #[.slice a4 n4 c4, .int .i64 v3]) v2 v3 by rw [hw6]; exact ((HR4.out.setF (by omega) _ _).setF (by omega) _ _).setF (by omega) _ _)
        have HE6 := Lib.hid (show Ext w w6 by rw [hw6]; exact ((HE4.out.setN (by omega) _ _).setN (by omega) _ _).setN (by omega) _ _)
        clear hw6 X5 X6 HR4 HE4 k0 k1 j0 j1 kz0 kz1 jz0 jz1
        have k0 : w6.cell? ⟨G5, 0, none⟩ = some (.slice a4 n4 c4) := blk Y5.out 0 rfl
        have k1 : w6.cell? ⟨G5, 1, none⟩ = some (.int .i64 v3) := blk Y5.out 1 rfl
        have j0 : w6.cell? ⟨G6, 0, none⟩ = some (.int .i64 b1) := blk Y6.out 0 rfl
        have j1 : w6.cell? ⟨G6, 1, none⟩ = some (.int .i64 v1) := blk Y6.out 1 rfl
        have hsz6 : G6 < w6.heap.size := (Array.getElem?_eq_some_iff.1 Y6.out).1
        by_cases h3 : v3 = 0
        · subst h3
          cases hr : rightInstr ((b1 : Int), v1) with
          | true =>
            have HV := Lib.hid (HV5.out rfl hr)
            go_wp2_with fail
            refine (instrref_Right _ _ _).mono ?_
            rw [hr]
            rintro e w5 ⟨rfl, hx5⟩
            have X5 := Lib.hid (hx5.blk Y5.out)
            have X6 := Lib.hid (hx5.blk Y6.out)
            have Z1 := Lib.hid (hx5.blk Z1.out)
            have Z2 := Lib.hid (hx5.blk Z2.out)
            have HR5 := Lib.hid (HR6.out.ext hx5)
            have HE5 := Lib.hid (HE6.out.tr hx5)
            clear hx5 hr k0 k1 j0 j1
            have p0 : w5.cell? ⟨S + 1, 0, none⟩ = some (.int .i64 0) := blk Z1.out 0 rfl
            have p1 : w5.cell? ⟨S + 1, 1, none⟩ = some (.int .i64 0) := blk Z1.out 1 rfl
            have y0 := frozen_blk Z1.out 0
            have y1 := frozen_blk Z1.out 1
            have q0 : w5.cell? ⟨S + 2, 0, none⟩ = some (.slice none 0 0) := blk Z2.out 0 rfl
            have q1 : w5.cell? ⟨S + 2, 1, none⟩ = some (.int .i64 0) := blk Z2.out 1 rfl
            have z0 := frozen_blk Z2.out 0
            have z1 := frozen_blk Z2.out 1
            have k0 : w5.cell? ⟨G5, 0, none⟩ = some (.slice a4 n4 c4) := blk X5.out 0 rfl
            have k1 : w5.cell? ⟨G5, 1, none⟩ = some (.int .i64 0) := blk X5.out 1 rfl
            have j0 : w5.cell? ⟨G6, 0, none⟩ = some (.int .i64 b1) := blk X6.out 0 rfl
            have j1 : w5.cell? ⟨G6, 1, none⟩ = some (.int .i64 v1) := blk X6.out 1 rfl
            go_wp2_with fail
            go_region_held3 (fun w' => w'.cell? ⟨G5, 0, none⟩ = some (.slice a4 n4 c4) ∧ w'.cell? ⟨G5, 1, none⟩ = some (.int .i64 0) ∧ w'.cell? ⟨G6, 0, none⟩ = some (.int .i64 b1) ∧ w'.cell? ⟨G6, 1, none⟩ = some (.int .i64 v1)) (refine ⟨?_, ?_, ?_, ?_⟩ <;> go_simp) (fail)
            go_wp2
            exact bodyPost_ret (ret_cell_cell rfl rfl rfl (load_instr (blk_set (blk_set (set2 Z1.out _ _) (by omega) _ _) (by omega) _ _)) (load_ref (set2 (blk_set (blk_set Z2.out (by omega) _ _) (by omega) _ _) _ _))) rfl ⟨_, by rw [HV.out] <;> rfl, by rw [HV.out]; exact ((((HR5.out.setF (by omega) _ _).setF (by omega) _ _).setF (by omega) _ _).setF (by omega) _ _).ext (Ext.rf _).dr, ((((HE5.out.setN (by omega) _ _).setN (by omega) _ _).setN (by omega) _ _).setN (by omega) _ _).dr⟩
          | false =>
            have HV := Lib.hid (HV6.out rfl hr)
            have HFL := Lib.hid (fun W hr hB => ref_Fail (.agg #[.slice a4 n4 c4, .int .i64 0]) B v2 0 2 W hr hB)
            rw [show failE 0 2 = 2 by simp [failE]] at HFL
            go_wp2_with fail
            refine (instrref_Right _ _ _).mono ?_
            rw [hr]
            rintro e w5 ⟨rfl, hx5⟩
            have X5 := Lib.hid (hx5.blk Y5.out)
            have X6 := Lib.hid (hx5.blk Y6.out)
            have Z1 := Lib.hid (hx5.blk Z1.out)
            have Z2 := Lib.hid (hx5.blk Z2.out)
            have HR5 := Lib.hid (HR6.out.ext hx5)
            have HE5 := Lib.hid (HE6.out.tr hx5)
            have hs5 := hx5.size
            clear hx5 hr k0 k1 j0 j1 HR6 HE6 Y5 Y6
            have k0 : w5.cell? ⟨G5, 0, none⟩ = some (.slice a4 n4 c4) := blk X5.out 0 rfl
            have k1 : w5.cell? ⟨G5, 1, none⟩ = some (.int .i64 0) := blk X5.out 1 rfl
            go_wp2_with fail
            refine (HFL.out _ HR5.out (by omega)).mono ?_
            rintro e w7 ⟨v7, rfl, hr7, hx7⟩
            have HR7 := Lib.hid hr7
            obtain ⟨a7, n7, c7, rfl⟩ := hr7.shape
            have X5 := Lib.hid (hx7.blk X5.out)
            have X6 := Lib.hid (hx7.blk X6.out)
            have Z1 := Lib.hid (hx7.blk Z1.out)
            have Z2 := Lib.hid (hx7.blk Z2.out)
            have HE7 := Lib.hid (HE5.out.tr hx7)
            clear hr7 hx7 HFL k0 k1 HR5 HE5
            have k0 : w7.cell? ⟨G5, 0, none⟩ = some (.slice a4 n4 c4) := blk X5.out 0 rfl
            have k1 : w7.cell? ⟨G5, 1, none⟩ = some (.int .i64 0) := blk X5.out 1 rfl
            have kz0 := frozen_blk X5.out 0
            have kz1 := frozen_blk X5.out 1
            go_upto_region 11 with fail
            obtain ⟨w8, hw8⟩ : ∃ x, x = (w7.setCell ⟨G5, 0, none⟩ (.slice a7 n7 c7)).setCell ⟨G5, 1, none⟩ (.int .i64 2) := ⟨_, rfl⟩
            rw [← hw8]
            have Y5 := Lib.hid (show w8.heap[G5]? = some (.cells #[.slice a7 n7 c7, .int .i64 2] 67 (0, 0)) by rw [hw8]; exact set2 X5.out _ _)
            have Z1 := Lib.hid (show w8.heap[S + 1]? = some (.cells #[.int .i64 0, .int .i64 0] 49 (0, 0)) by rw [hw8]; exact blk_set (blk_set Z1.out (by omega) _ _) (by omega) _ _)
            have Z2 := Lib.hid (show w8.heap[S + 2]? = some (.cells #[.slice none 0 0, .int .i64 0] 67 (0, 0)) by rw [hw8]; exact blk_set (blk_set Z2.out (by omega) _ _) (by omega) _ _)
            have HR8 := Lib.hid (show RefAt w8 B (.agg #[.slice a7 n7 c7, .int .i64 2]) v2 2 by rw [hw8]; exact (HR7.out.setF (by omega) _ _).setF (by omega) _ _)
            have HE8 := Lib.hid (show Ext w w8 by rw [hw8]; exact (HE7.out.setN (by omega) _ _).setN (by omega) _ _)
            clear hw8 X5 X6 HR7 HE7 k0 k1 kz0 kz1
            have p0 : w8.cell? ⟨S + 1, 0, none⟩ = some (.int .i64 0) := blk Z1.out 0 rfl
            have p1 : w8.cell? ⟨S + 1, 1, none⟩ = some (.int .i64 0) := blk Z1.out 1 rfl
            have y0 := frozen_blk Z1.out 0
            have y1 := frozen_blk Z1.out 1
            have q0 : w8.cell? ⟨S + 2, 0, none⟩ = some (.slice none 0 0) := blk Z2.out 0 rfl
            have q1 : w8.cell? ⟨S + 2, 1, none⟩ = some (.int .i64 0) := blk Z2.out 1 rfl
            have z0 := frozen_blk Z2.out 0
            have z1 := frozen_blk Z2.out 1
            have k0 : w8.cell? ⟨G5, 0, none⟩ = some (.slice a7 n7 c7) := blk Y5.out 0 rfl
            have k1 : w8.cell? ⟨G5, 1, none⟩ = some (.int .i64 2) := blk Y5.out 1 rfl
            go_wp2_with fail
            go_region_held3 (fun w' => w'.cell? ⟨G5, 0, none⟩ = some (.slice a7 n7 c7) ∧ w'.cell? ⟨G5, 1, none⟩ = some (.int .i64 2)) (refine ⟨?_, ?_⟩ <;> go_simp) (fail)
            go_wp2
            exact bodyPost_ret (ret_cell_cell rfl rfl rfl (load_instr (blk_set (blk_set (set2 Z1.out _ _) (by omega) _ _) (by omega) _ _)) (load_ref (set2 (blk_set (blk_set Z2.out (by omega) _ _) (by omega) _ _) _ _))) rfl ⟨_, by rw [HV.out] <;> rfl, by rw [HV.out]; exact ((((HR8.out.setF (by omega) _ _).setF (by omega) _ _).setF (by omega) _ _).setF (by omega) _ _).ext (Ext.rf _).dr, ((((HE8.out.setN (by omega) _ _).setN (by omega) _ _).setN (by omega) _ _).setN (by omega) _ _).dr⟩
        · have t3 : (v3 == 0) = false := by simpa using h3
          have t4 : (v3 != 0) = true := by simpa using h3
          have HV := Lib.hid (HV4.out h3)
          clear h3
          have p0 : w6.cell? ⟨S + 1, 0, none⟩ = some (.int .i64 0) := blk Z1.out 0 rfl
          have p1 : w6.cell? ⟨S + 1, 1, none⟩ = some (.int .i64 0) := blk Z1.out 1 rfl
          have y0 := frozen_blk Z1.out 0
          have y1 := frozen_blk Z1.out 1
          have q0 : w6.cell? ⟨S + 2, 0, none⟩ = some (.slice none 0 0) := blk Z2.out 0 rfl
          have q1 : w6.cell? ⟨S + 2, 1, none⟩ = some (.int .i64 0) := blk Z2.out 1 rfl
          have z0 := frozen_blk Z2.out 0
          have z1 := frozen_blk Z2.out 1
          go_wp2_with fail
          go_region_held3 (fun w' => w'.cell? ⟨G5, 0, none⟩ = some (.slice a4 n4 c4) ∧ w'.cell? ⟨G5, 1, none⟩ = some (.int .i64 v3)) (refine ⟨?_, ?_⟩ <;> go_simp) (fail)
          go_wp2
          exact bodyPost_ret (ret_cell_cell rfl rfl rfl (load_instr (blk_set (blk_set (set2 Z1.out _ _) (by omega) _ _) (by omega) _ _)) (load_ref (set2 (blk_set (blk_set Z2.out (by omega) _ _) (by omega) _ _) _ _))) rfl ⟨_, by rw [HV.out] <;> rfl, by rw [HV.out]; exact ((((HR6.out.setF (by omega) _ _).setF (by omega) _ _).setF (by omega) _ _).setF (by omega) _ _).ext (Ext.rf _).dr, ((((HE6.out.setN (by omega) _ _).setN (by omega) _ _).setN (by omega) _ _).setN (by omega) _ _).dr⟩
  · skip
    have t4 : (b3 != 0) = true := by simpa using h3
    have HV := Lib.hid (HQ.out.1 h3)
    clear h3 HQ
    have p0 : w2.cell? ⟨S + 1, 0, none⟩ = some (.int .i64 0) := blk Z1.out 0 rfl
    have p1 : w2.cell? ⟨S + 1, 1, none⟩ = some (.int .i64 0) := blk Z1.out 1 rfl
    have y0 := frozen_blk Z1.out 0
    have y1 := frozen_blk Z1.out 1
    have q0 : w2.cell? ⟨S + 2, 0, none⟩ = some (.slice none 0 0) := blk Z2.out 0 rfl
    have q1 : w2.cell? ⟨S + 2, 1, none⟩ = some (.int .i64 0) := blk Z2.out 1 rfl
    have z0 := frozen_blk Z2.out 0
    have z1 := frozen_blk Z2.out 1
    have k0 : w2.cell? ⟨G5, 0, none⟩ = some (.slice a1 n1 c1) := blk X5.out 0 rfl
    have k1 : w2.cell? ⟨G5, 1, none⟩ = some (.int .i64 b3) := blk X5.out 1 rfl
    go_wp2_with fail
    go_region_held3 (fun w' => w'.cell? ⟨G5, 0, none⟩ = some (.slice a1 n1 c1) ∧ w'.cell? ⟨G5, 1, none⟩ = some (.int .i64 b3)) (refine ⟨?_, ?_⟩ <;> go_simp) (fail)
    go_wp2
    exact bodyPost_ret (ret_cell_cell rfl rfl rfl (load_instr (blk_set (blk_set (set2 Z1.out _ _) (by omega) _ _) (by omega) _ _)) (load_ref (set2 (blk_set (blk_set Z2.out (by omega) _ _) (by omega) _ _) _ _))) rfl ⟨_, by rw [HV.out] <;> rfl, by rw [HV.out]; exact ((((HR2.out.setF (by omega) _ _).setF (by omega) _ _).setF (by omega) _ _).setF (by omega) _ _).ext (Ext.rf _).dr, ((((HE2.out.setN (by omega) _ _).setN (by omega) _ _).setN (by omega) _ _).setN (by omega) _ _).dr⟩
end Go.Proofs.Ytofdkhilapmccaa
