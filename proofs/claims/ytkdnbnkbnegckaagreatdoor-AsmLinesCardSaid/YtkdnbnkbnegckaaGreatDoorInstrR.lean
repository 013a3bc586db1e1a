/- The instruction of a text: the walks of instr.Read and of its reference. -/
import Derived.Test.YtkdnbnkbnegckaaGreatDoorUnl
import Derived.Test.YtkdnbnkbnegckaaGreatDoorBase
import Derived.Test.YtkdnbnkbnegckaaGreatDoorShelf
import Derived.Test.YtkdnbnkbnegckaaGreatDoorRetC
namespace Go.Proofs.YtkdnbnkbnegckaaGreatDoor
open Go.RowKit

/-- Where the first blank is. -/
def sp : List UInt8 → Nat
  | [] => 0
  | b :: t => if b = 32 then 0 else sp t + 1
theorem sp_le (s : List UInt8) : sp s ≤ s.length := by
  induction s with
  | nil => exact Nat.le_refl _
  | cons b t ih => simp only [sp]; split <;> simp <;> omega
theorem sp_index (s : List UInt8) : Lib.index s [32] = if sp s < s.length then (sp s : Int) else -1 := by
  induction s with
  | nil => rfl
  | cons b t ih =>
    by_cases h : b = 32
    · subst h
      have hs : sp (32 :: t) = 0 := by simp [sp]
      rw [hs]; simp [Lib.index]
    · have h2 : [32].isPrefixOf (b :: t) = false := by simp [List.isPrefixOf, Ne.symm h]
      have hs : sp (b :: t) = sp t + 1 := by simp [sp, h]
      rw [hs]
      show (if [32].isPrefixOf (b :: t) = true then (0 : Int) else if (Lib.index t [32] == -1) = true then -1 else Lib.index t [32] + 1) = _
      rw [h2]
      by_cases h3 : sp t < t.length
      · rw [if_pos h3] at ih
        have h4 : ((sp t : Int) == -1) = false := by rw [beq_eq_false_iff_ne]; omega
        rw [ih, h4, if_pos (show sp t + 1 < (b :: t).length by rw [List.length_cons]; omega)]
        simp
      · rw [if_neg h3] at ih
        rw [ih, if_neg (show ¬ sp t + 1 < (b :: t).length by rw [List.length_cons]; omega)]
        simp
def restS (s : List UInt8) : List UInt8 := if sp s < s.length then s.drop (sp s + 1) else []
theorem cut32 (s : List UInt8) : Lib.cut s [32] = (s.take (sp s), restS s, decide (sp s < s.length)) := by
  unfold Lib.cut restS
  rw [sp_index]
  by_cases h : sp s < s.length
  · rw [if_pos h, if_pos (by omega), if_pos h, Int.toNat_natCast, decide_eq_true h]; rfl
  · rw [if_neg h, if_neg (by omega), if_neg h, decide_eq_false h, List.take_of_length_le (by omega)]
theorem sp_at {s : List UInt8} {k : Nat} (hk : k < sp s) (h : k < s.length) : s[k] ≠ 32 := by
  induction s generalizing k with
  | nil => simp at h
  | cons b t ih =>
    simp only [sp] at hk
    by_cases hb : b = 32
    · rw [if_pos hb] at hk; omega
    · rw [if_neg hb] at hk
      cases k with
      | zero => exact hb
      | succ k => exact ih (by omega) (by simpa using h)
theorem sp_hit {s : List UInt8} (h : sp s < s.length) : s[sp s]? = some 32 := by
  induction s with
  | nil => simp at h
  | cons b t ih =>
    by_cases hb : b = 32
    · have : sp (b :: t) = 0 := by simp [sp, hb]
      rw [this, hb]; rfl
    · have h1 : sp (b :: t) = sp t + 1 := by simp [sp, hb]
      rw [h1, List.getElem?_cons_succ]
      exact ih (by rw [h1] at h; simpa using h)

/-- The instruction of a text, or why there is none. -/
def readI (s : List UInt8) : InstrT × Int :=
  if (findI (s.take (sp s))).2 = false then ((0, 0), 8)
  else if operandI (findI (s.take (sp s))).1 = 0 then (if sp s < s.length then ((0, 0), 5) else (((findI (s.take (sp s))).1, 0), 0))
  else if sp s < s.length then
    (if (numN (restS s)).2 = 0 then (if rightInstr ((findI (s.take (sp s))).1, (numN (restS s)).1) = true then (((findI (s.take (sp s))).1, (numN (restS s)).1), 0) else ((0, 0), 2)) else ((0, 0), (numN (restS s)).2))
  else ((0, 0), 5)

theorem readI_eq (s : List UInt8) (F : Int × Bool) (hF : F = findI (s.take (sp s))) (N : Int × Int) (hN : N = numN (restS s)) :
    (F.2 = false → readI s = ((0, 0), 8)) ∧ (F.2 = true → operandI F.1 = 0 → sp s < s.length → readI s = ((0, 0), 5)) ∧ (F.2 = true → operandI F.1 = 0 → ¬ sp s < s.length → readI s = ((F.1, 0), 0)) ∧
    (F.2 = true → operandI F.1 ≠ 0 → ¬ sp s < s.length → readI s = ((0, 0), 5)) ∧ (F.2 = true → operandI F.1 ≠ 0 → sp s < s.length → N.2 ≠ 0 → readI s = ((0, 0), N.2)) ∧
    (F.2 = true → operandI F.1 ≠ 0 → sp s < s.length → N.2 = 0 → rightInstr (F.1, N.1) = true → readI s = ((F.1, N.1), 0)) ∧
    (F.2 = true → operandI F.1 ≠ 0 → sp s < s.length → N.2 = 0 → rightInstr (F.1, N.1) = false → readI s = ((0, 0), 2)) := by
  subst hF; subst hN
  unfold readI
  refine ⟨fun h => ?_, fun h h2 h3 => ?_, fun h h2 h3 => ?_, fun h h2 h3 => ?_, fun h h2 h3 h4 => ?_, fun h h2 h3 h4 h5 => ?_, fun h h2 h3 h4 h5 => ?_⟩
  · rw [if_pos h]
  · rw [if_neg (by rw [h]; decide), if_pos h2, if_pos h3]
  · rw [if_neg (by rw [h]; decide), if_pos h2, if_neg h3]
  · rw [if_neg (by rw [h]; decide), if_neg h2, if_neg h3]
  · rw [if_neg (by rw [h]; decide), if_neg h2, if_pos h3, if_neg h4]
  · rw [if_neg (by rw [h]; decide), if_neg h2, if_pos h3, if_pos h4, if_pos h5]
  · rw [if_neg (by rw [h]; decide), if_neg h2, if_pos h3, if_pos h4, if_neg (by rw [h5]; decide)]
theorem findI_is {s : List UInt8} (h : (findI s).2 = true) : isOp (findI s).1 = true := by
  unfold findI at *
  cases hf : findL s with
  | none => rw [hf] at h; cases h
  | some k =>
    have hk : k < 35 := by
      unfold findL at hf
      have := List.mem_of_find?_eq_some hf
      simpa using this
    simp [isOp]; omega
theorem numN_bd (s : List UInt8) : I64 (numN s).1 := by
  unfold numN; split
  · exact digW_bd _ _ 0 ⟨by decide, by decide⟩
  · exact ⟨by decide, by decide⟩
set_option maxHeartbeats 2000000 in
set_option maxRecDepth 20000 in
theorem instr_Read (s : List UInt8) (m : Int) (w : World) (hm : w.cell? ⟨0, 0, none⟩ = some (.int .i64 m)) (hl : s.length < 4294967281) :
    Calls Tryz.prog 20 #[.string (strB s)] w fun e w' => e = .returned (.tuple #[.agg #[.int .i64 (readI s).1.1, .int .i64 (readI s).1.2], .int .i64 (readI s).2]) ∧ Ext w w' := by
  have HP := Lib.hid (fun w' hm' => Tryz.strings_Cut (strB s) ⟨#[32]⟩ m w' (by rw [strB_size]; exact hl) hm')
  rw [strB_toL, show (⟨#[32]⟩ : ByteArray).data.toList = [32] from rfl, cut32] at HP
  have HRL : Hid ((restS s).length ≤ s.length) := by unfold restS; rw [Hid]; split <;> simp
  have HQ := Lib.hid (readI_eq s _ rfl _ rfl)
  have HOP := Lib.hid (findI_is (s := s.take (sp s)))
  have HNB := Lib.hid (numN_bd (restS s))
  have HNUM := Lib.hid (fun W => instr_Number (restS s) W (by have := HRL.out; omega))
  have HFD := Lib.hid (fun W => ops_Find (s.take (sp s)) W)
  generalize readI s = V at *
  generalize numN (restS s) = N at *
  generalize findI (s.take (sp s)) = F at *
  obtain ⟨op, ok⟩ := F
  obtain ⟨nn, ne⟩ := N
  obtain ⟨nb1, nb2⟩ := HNB.out
  dsimp only at HQ HOP HNUM HFD nb1 nb2
  have hm1 := fun o => ((Ext.rf w).al o).has hm
  go_enter Tryz.func20, Tryz.ntmps20
  go_wp2_with fail
  refine (HP.out _ (hm1 _)).mono ?_
  rintro e w1 ⟨rfl, nd, rfl⟩
  have D0 := Lib.hid (show ((w.alloc (.cells #[.int .i64 0, .int .i64 0] 25)).drewN nd).heap[w.heap.size]? = some (.cells #[.int .i64 0, .int .i64 0] 25 (0, 0)) from alloc_new w _)
  have HX1 := Lib.hid (((Ext.rf w).al (.cells #[.int .i64 0, .int .i64 0] 25)).drN nd)
  generalize (w.alloc (.cells #[.int .i64 0, .int .i64 0] 25)).drewN nd = w1 at *
  clear hm hm1 HP
  go_wp2_with fail
  refine (HFD.out _).mono ?_
  rintro e w2 ⟨rfl, hx2⟩
  have D0 := Lib.hid (hx2.blk D0.out)
  have HX2 := Lib.hid (HX1.out.tr hx2)
  have e0 := blk D0.out 0 rfl
  have e1 := blk D0.out 1 rfl
  have f0 := frozen_blk D0.out 0
  have f1 := frozen_blk D0.out 1
  have E0 : ∀ o, (w2.alloc o).heap[w.heap.size]? = some (.cells #[.int .i64 0, .int .i64 0] 25 (0, 0)) := fun o => Ext.blk ((Ext.rf w2).al o) D0.out
  have a0 : ∀ o, (w2.alloc o).cell? ⟨w.heap.size, 0, none⟩ = some (.int .i64 0) := fun o => blk (E0 o) 0 rfl
  have a1 : ∀ o, (w2.alloc o).cell? ⟨w.heap.size, 1, none⟩ = some (.int .i64 0) := fun o => blk (E0 o) 1 rfl
  have g0 := fun o => frozen_blk (E0 o) 0
  have g1 := fun o => frozen_blk (E0 o) 1
  have HE0 := Lib.hid E0
  clear hx2 HX1 E0
  obtain ⟨q1, q2, q3, q4, q5, q6, q7⟩ := HQ.out
  clear HQ
  cases hok : ok with
  | false =>
    have HV := Lib.hid (q1 hok)
    clear q1 q2 q3 q4 q5 q6 q7 hok
    go_wp2_with fail
    exact bodyPost_ret (ret_cell_tmp rfl rfl (load_instr (set2 D0.out _ _))) rfl ⟨by rw [HV.out] <;> rfl, ext2 HX2.out (Nat.le_refl _) _ _⟩
  | true =>
    have hop := HOP.out hok
    have HRZ := Lib.hid (right_zero hop)
    clear q1 hop
    by_cases h0 : operandI op = 0
    · have t1 : (operandI op != 0) = false := by rw [h0]; rfl
      by_cases hs : sp s < s.length
      · have HV := Lib.hid (q2 hok h0 hs)
        have t2 : decide (sp s < s.length) = true := decide_eq_true hs
        clear q2 q3 q4 q5 q6 q7 hok h0 hs
        go_wp2_with fail
        refine (instr_has op _).mono ?_
        rintro e w3 ⟨rfl, rfl⟩
        go_wp2_with fail
        exact bodyPost_ret (ret_cell_tmp rfl rfl (load_instr (set2 D0.out _ _))) rfl ⟨by rw [HV.out] <;> rfl, ext2 HX2.out (Nat.le_refl _) _ _⟩
      · have HV := Lib.hid (q3 hok h0 hs)
        have t2 : decide (sp s < s.length) = false := decide_eq_false hs
        have hq : ∀ W, (binOp .neq 25 (.agg #[.int .i64 op, .int .i64 0]) (.agg #[.int .i64 op, .int .i64 0])).run Tryz.prog W = .ok (.bool false) W := fun W => by
          have h := run_neq_ints (P := Tryz.prog) (k := .i64) (t := 25) (n := 2) (by decide) (by kernel_rfl) W [op, 0] [op, 0] rfl rfl
          simpa using h
        clear q2 q3 q4 q5 q6 q7 hok h0 hs
        go_wp2_with fail
        refine (instr_has op _).mono ?_
        rintro e w3 ⟨rfl, rfl⟩
        go_wp2_with fail
        exact bodyPost_ret (ret_cell_tmp rfl rfl (load_instr (set2 (HE0.out _) _ _))) rfl ⟨by rw [HV.out] <;> rfl, ext2 (HX2.out.al _) (Nat.le_refl _) _ _⟩
    · have t1 : (operandI op != 0) = true := by simpa using h0
      by_cases hs : sp s < s.length
      · have t2 : decide (sp s < s.length) = true := decide_eq_true hs
        by_cases hne : ne = 0
        · have t3 : (ne != 0) = false := by rw [hne]; rfl
          have hq : ∀ W, (binOp .neq 25 (.agg #[.int .i64 op, .int .i64 nn]) (.agg #[.int .i64 op, .int .i64 0])).run Tryz.prog W = .ok (.bool (nn != 0)) W := fun W => by
            have h := run_neq_ints (P := Tryz.prog) (k := .i64) (t := 25) (n := 2) (by decide) (by kernel_rfl) W [op, nn] [op, 0] rfl rfl
            have e : (!decide ([op, nn] = [op, 0])) = (nn != 0) := by
              by_cases h : nn = 0 <;> simp [h]
            rw [← e]; exact h
          have HV1 := Lib.hid (fun h => q6 hok h0 hs hne h)
          have HV2 := Lib.hid (fun h => q7 hok h0 hs hne h)
          clear q2 q3 q4 q5 q6 q7 hok h0 hs hne
          go_wp2_with fail
          refine (instr_has op _).mono ?_
          rintro e w3 ⟨rfl, rfl⟩
          go_wp2_with fail
          refine (HNUM.out _).mono ?_
          rintro e w4 ⟨rfl, hx4⟩
          have D4 := Lib.hid (hx4.blk (HE0.out (.cells #[.int .i64 op, .int .i64 0] 25)))
          have B4 := Lib.hid (hx4.blk (alloc_new w2 (.cells #[.int .i64 op, .int .i64 0] 25)))
          have HX4 := Lib.hid ((HX2.out.al _).tr hx4)
          have hsz2 : w.heap.size < w2.heap.size := (Array.getElem?_eq_some_iff.1 D0.out).1
          clear hx4 e0 e1 f0 f1 a0 a1 g0 g1
          generalize w2.heap.size = g2 at *
          have b0 : w4.cell? ⟨g2, 0, none⟩ = some (.int .i64 op) := blk B4.out 0 rfl
          have b1 : w4.cell? ⟨g2, 1, none⟩ = some (.int .i64 0) := blk B4.out 1 rfl
          have k0 := frozen_blk B4.out 0
          have k1 := frozen_blk B4.out 1
          go_upto_region 13 with fail
          obtain ⟨w5, hw5⟩ : ∃ x, x = w4.setCell ⟨g2, 1, none⟩ (.int .i64 nn) := ⟨_, rfl⟩
          rw [← hw5]
          have D5 := Lib.hid (show w5.heap[w.heap.size]? = some (.cells #[.int .i64 0, .int .i64 0] 25 (0, 0)) by rw [hw5, Below.heap_setCell _ _ _ _ (by show w.heap.size ≠ g2; omega)]; exact D4.out)
          have B5 := Lib.hid (show w5.heap[g2]? = some (.cells #[.int .i64 op, .int .i64 nn] 25 (0, 0)) by rw [hw5]; exact set_blk B4.out 1 _)
          have HX5 := Lib.hid (show Ext w w5 by rw [hw5]; exact Below.setCell HX4.out.b (p := ⟨g2, 1, none⟩) (Nat.le_of_lt hsz2) _)
          clear hw5 D4 B4 HX4 b0 b1 k0 k1
          have b0 : w5.cell? ⟨g2, 0, none⟩ = some (.int .i64 op) := blk B5.out 0 rfl
          have b1 : w5.cell? ⟨g2, 1, none⟩ = some (.int .i64 nn) := blk B5.out 1 rfl
          by_cases hn0 : nn = 0
          · have t4 : (nn != 0) = false := by rw [hn0]; rfl
            have HV := Lib.hid (HV1.out (by rw [hn0]; exact HRZ.out))
            have c0 : w5.cell? ⟨w.heap.size, 0, none⟩ = some (.int .i64 0) := blk D5.out 0 rfl
            have c1 : w5.cell? ⟨w.heap.size, 1, none⟩ = some (.int .i64 0) := blk D5.out 1 rfl
            have k0 := frozen_blk D5.out 0
            have k1 := frozen_blk D5.out 1
            clear hn0
            go_wp2_with fail
            exact bodyPost_ret (ret_cell_tmp rfl rfl (load_instr (set2 D5.out _ _))) rfl ⟨by rw [HV.out] <;> rfl, ext2 HX5.out (Nat.le_refl _) _ _⟩
          · have t4 : (nn != 0) = true := by simpa using hn0
            clear hn0
            cases hr : rightInstr (op, nn) with
            | true =>
              have HV := Lib.hid (HV1.out hr)
              go_wp2_with fail
              refine (instr_Right op nn _).mono ?_
              rw [hr]
              rintro e w6 ⟨rfl, hx6⟩
              have D6 := Lib.hid (hx6.blk D5.out)
              have HX6 := Lib.hid (HX5.out.tr hx6)
              have j0 := hx6.has b0
              have j1 := hx6.has b1
              have c0 : w6.cell? ⟨w.heap.size, 0, none⟩ = some (.int .i64 0) := blk D6.out 0 rfl
              have c1 : w6.cell? ⟨w.heap.size, 1, none⟩ = some (.int .i64 0) := blk D6.out 1 rfl
              have k0 := frozen_blk D6.out 0
              have k1 := frozen_blk D6.out 1
              clear hx6 hr b0 b1
              go_wp2_with fail
              exact bodyPost_ret (ret_cell_tmp rfl rfl (load_instr (set2 D6.out _ _))) rfl ⟨by rw [HV.out] <;> rfl, ext2 HX6.out (Nat.le_refl _) _ _⟩
            | false =>
              have HV := Lib.hid (HV2.out hr)
              go_wp2_with fail
              refine (instr_Right op nn _).mono ?_
              rw [hr]
              rintro e w6 ⟨rfl, hx6⟩
              have D6 := Lib.hid (hx6.blk D5.out)
              have HX6 := Lib.hid (HX5.out.tr hx6)
              have c0 : w6.cell? ⟨w.heap.size, 0, none⟩ = some (.int .i64 0) := blk D6.out 0 rfl
              have c1 : w6.cell? ⟨w.heap.size, 1, none⟩ = some (.int .i64 0) := blk D6.out 1 rfl
              have k0 := frozen_blk D6.out 0
              have k1 := frozen_blk D6.out 1
              clear hx6 hr b0 b1
              go_wp2_with fail
              exact bodyPost_ret (ret_cell_tmp rfl rfl (load_instr (set2 D6.out _ _))) rfl ⟨by rw [HV.out] <;> rfl, ext2 HX6.out (Nat.le_refl _) _ _⟩
        · have HV := Lib.hid (q5 hok h0 hs hne)
          have t3 : (ne != 0) = true := by simpa using hne
          clear q2 q3 q4 q5 q6 q7 hok h0 hs hne
          go_wp2_with fail
          refine (instr_has op _).mono ?_
          rintro e w3 ⟨rfl, rfl⟩
          go_wp2_with fail
          refine (HNUM.out _).mono ?_
          rintro e w4 ⟨rfl, hx4⟩
          have D4 := Lib.hid (hx4.blk (HE0.out (.cells #[.int .i64 op, .int .i64 0] 25)))
          have HX4 := Lib.hid ((HX2.out.al _).tr hx4)
          have b0 : w4.cell? ⟨w.heap.size, 0, none⟩ = some (.int .i64 0) := blk D4.out 0 rfl
          have b1 : w4.cell? ⟨w.heap.size, 1, none⟩ = some (.int .i64 0) := blk D4.out 1 rfl
          have k0 := frozen_blk D4.out 0
          have k1 := frozen_blk D4.out 1
          clear hx4
          go_wp2_with fail
          exact bodyPost_ret (ret_cell_tmp rfl rfl (load_instr (set2 D4.out _ _))) rfl ⟨by rw [HV.out] <;> rfl, ext2 HX4.out (Nat.le_refl _) _ _⟩
      · have HV := Lib.hid (q4 hok h0 hs)
        have t2 : decide (sp s < s.length) = false := decide_eq_false hs
        clear q2 q3 q4 q5 q6 q7 hok h0 hs
        go_wp2_with fail
        refine (instr_has op _).mono ?_
        rintro e w3 ⟨rfl, rfl⟩
        go_wp2_with fail
        exact bodyPost_ret (ret_cell_tmp rfl rfl (load_instr (set2 D0.out _ _))) rfl ⟨by rw [HV.out] <;> rfl, ext2 HX2.out (Nat.le_refl _) _ _⟩

theorem extract_take (s : List UInt8) (b : Nat) : (strB s).extract 0 b = strB (s.take b) := by
  apply ByteArray.ext
  simp [strB, ByteArray.data_extract]
theorem extract_drop (s : List UInt8) (a : Nat) : (strB s).extract a (strB s).size = strB (s.drop a) := by
  apply ByteArray.ext
  rw [strB_size]
  first
    | (simp [strB, ByteArray.data_extract]
       done)
    | (simp [strB, ByteArray.data_extract]
       exact List.take_of_length_le (by simp))

set_option maxHeartbeats 2000000 in
set_option maxRecDepth 20000 in
theorem instrref_Read (s : List UInt8) (w : World) (hl : s.length < 4294967281) :
    Calls Tryz.prog 22 #[.string (strB s)] w fun e w' => e = .returned (.tuple #[.agg #[.int .i64 (readI s).1.1, .int .i64 (readI s).1.2], .int .i64 (readI s).2]) ∧ Ext w w' := by
  have HRL : Hid ((restS s).length ≤ s.length) := by unfold restS; rw [Hid]; split <;> simp
  have HQ := Lib.hid (readI_eq s _ rfl _ rfl)
  have HOP := Lib.hid (findI_is (s := s.take (sp s)))
  have HNUM := Lib.hid (fun W => instrref_Number (restS s) W (by have := HRL.out; omega))
  have HFD := Lib.hid (fun W => opsref_Find (s.take (sp s)) W)
  have HSZ : Hid ((strB s).size = s.length) := strB_size s
  have hsl := sp_le s
  have HR0 : Hid (sp s < s.length → restS s = s.drop (sp s + 1)) := fun h => by unfold restS; rw [if_pos h]
  have HAT : Hid (∀ k (h : k < s.length), k < sp s → s[k] ≠ 32) := fun k h h2 => sp_at h2 h
  have HHIT : Hid (sp s < s.length → s[sp s]? = some 32) := sp_hit
  generalize readI s = V at *
  generalize numN (restS s) = N at *
  generalize findI (s.take (sp s)) = F at *
  obtain ⟨op, ok⟩ := F
  obtain ⟨nn, ne⟩ := N
  dsimp only at HQ HOP HNUM HFD
  go_enter Tryz.func22, Tryz.ntmps22
  go_wp2_with fail
  have D0 := Lib.hid (alloc_new w (.cells #[.int .i64 0, .int .i64 0] 25))
  have HX0 := Lib.hid ((Ext.rf w).al (.cells #[.int .i64 0, .int .i64 0] 25))
  generalize w.alloc (.cells #[.int .i64 0, .int .i64 0] 25) = w1 at *
  go_loop [4] (fun i => ∃ k : Nat, k ≤ sp s ∧ i = .int .i64 k) (fun i => s.length - (intOf i).toNat)
  case atStart => exact ⟨0, Nat.zero_le _, rfl⟩
  case round =>
    obtain ⟨k, hk, rfl⟩ := hrel
    by_cases hlt : k < sp s
    · have h1 : k < s.length := by omega
      have t1 : decide ((k : Int) < (strB s).size) = true := decide_eq_true (by rw [HSZ.out]; omega)
      have hz : k < (strB s).size := by rw [HSZ.out]; exact h1
      have hz2 : (k : Int) < (strB s).size := by rw [HSZ.out]; omega
      have t2 : ((((strB s)[k]'hz).toNat : Int) != 32) = true := by
        rw [bne_iff_ne]; intro e
        exact HAT.out k h1 hlt (UInt8.toNat_inj.1 (Int.ofNat_inj.1 e))
      go_wp2_with fail
      go_round
      case rel => exact ⟨k + 1, by omega, by go_num⟩
      case measure => simp [intOf]; omega
    · obtain rfl : k = sp s := by omega
      have e0 := blk D0.out 0 rfl
      have e1 := blk D0.out 1 rfl
      have f0 := frozen_blk D0.out 0
      have f1 := frozen_blk D0.out 1
      have E0 : ∀ o, (w1.alloc o).heap[w.heap.size]? = some (.cells #[.int .i64 0, .int .i64 0] 25 (0, 0)) := fun o => Ext.blk ((Ext.rf w1).al o) D0.out
      have a0 : ∀ o, (w1.alloc o).cell? ⟨w.heap.size, 0, none⟩ = some (.int .i64 0) := fun o => blk (E0 o) 0 rfl
      have a1 : ∀ o, (w1.alloc o).cell? ⟨w.heap.size, 1, none⟩ = some (.int .i64 0) := fun o => blk (E0 o) 1 rfl
      have g0 := fun o => frozen_blk (E0 o) 0
      have g1 := fun o => frozen_blk (E0 o) 1
      have HE0 := Lib.hid E0
      have hx1 := extract_take s (sp s)
      have hzz : sp s ≤ (strB s).size := by rw [HSZ.out]; exact hsl
      obtain ⟨q1, q2, q3, q4, q5, q6, q7⟩ := HQ.out
      clear HQ E0
      by_cases hs : sp s < s.length
      · have hz : sp s < (strB s).size := by rw [HSZ.out]; exact hs
        have hz2 : (sp s : Int) < (strB s).size := by rw [HSZ.out]; omega
        have t1 : decide ((sp s : Int) < (strB s).size) = true := decide_eq_true hz2
        have t2 : ((((strB s)[sp s]'hz).toNat : Int) != 32) = false := by
          have h := HHIT.out hs
          rw [List.getElem?_eq_getElem hs] at h
          have h2 : (strB s)[sp s] = 32 := Option.some.inj h
          rw [h2]; rfl
        have t7 : ((sp s : Int) == (strB s).size) = false := by rw [beq_eq_false_iff_ne]; omega
        have hx2 := extract_drop s (sp s + 1)
        have hzz2 : sp s + 1 ≤ (strB s).size := hz
        rw [← HR0.out hs] at hx2
        cases ok with
        | false =>
          have HV := Lib.hid (q1 rfl)
          clear q1 q2 q3 q4 q5 q6 q7 hs
          go_wp2_with fail
          refine (HFD.out _).mono ?_
          rintro e w3 ⟨rfl, rfl⟩
          go_wp2_with fail
          exact bodyPost_ret (ret_cell_tmp rfl rfl (load_instr (set2 D0.out _ _))) rfl ⟨by rw [HV.out] <;> rfl, ext2 HX0.out (Nat.le_refl _) _ _⟩
        | true =>
          have HRZ := Lib.hid (right_zero (HOP.out rfl))
          by_cases h0 : operandI op = 0
          · have t3 : (operandI op == 0) = true := by rw [h0]; rfl
            have HV := Lib.hid (q2 rfl h0 hs)
            clear q1 q2 q3 q4 q5 q6 q7 h0 hs
            go_wp2_with fail
            refine (HFD.out _).mono ?_
            rintro e w3 ⟨rfl, rfl⟩
            go_wp2_with fail
            refine (opsref_Operand op _).mono ?_
            rintro e w3 ⟨rfl, rfl⟩
            go_wp2_with fail
            exact bodyPost_ret (ret_cell_tmp rfl rfl (load_instr (set2 (HE0.out _) _ _))) rfl ⟨by rw [HV.out] <;> rfl, ext2 (HX0.out.al _) (Nat.le_refl _) _ _⟩
          · have t3 : (operandI op == 0) = false := beq_eq_false_iff_ne.2 h0
            have HV5 := Lib.hid (fun h => q5 rfl h0 hs h)
            have HV6 := Lib.hid (fun h => q6 rfl h0 hs h)
            have HV7 := Lib.hid (fun h => q7 rfl h0 hs h)
            have hsz2 : w.heap.size < w1.heap.size := (Array.getElem?_eq_some_iff.1 D0.out).1
            clear q1 q2 q3 q4 q5 q6 q7 h0 hs
            go_wp2_with fail
            refine (HFD.out _).mono ?_
            rintro e w3 ⟨rfl, rfl⟩
            go_wp2_with fail
            refine (opsref_Operand op _).mono ?_
            rintro e w3 ⟨rfl, rfl⟩
            go_wp2_with fail
            refine (HNUM.out _).mono ?_
            rintro e w4 ⟨rfl, hx4⟩
            have D4 := Lib.hid (hx4.blk (HE0.out (.cells #[.int .i64 op, .int .i64 0] 25)))
            have B4 := Lib.hid (hx4.blk (alloc_new w1 (.cells #[.int .i64 op, .int .i64 0] 25)))
            have HX4 := Lib.hid ((HX0.out.al _).tr hx4)
            clear hx4 e0 e1 f0 f1 a0 a1 g0 g1
            generalize w1.heap.size = g2 at *
            by_cases hne : ne = 0
            · have t4 : (ne != 0) = false := by rw [hne]; rfl
              have HW6 := Lib.hid (HV6.out hne)
              have HW7 := Lib.hid (HV7.out hne)
              clear hne
              have b0 : w4.cell? ⟨g2, 0, none⟩ = some (.int .i64 op) := blk B4.out 0 rfl
              have b1 : w4.cell? ⟨g2, 1, none⟩ = some (.int .i64 0) := blk B4.out 1 rfl
              have k0 := frozen_blk B4.out 0
              have k1 := frozen_blk B4.out 1
              go_upto_region 18 with fail
              obtain ⟨w5, hw5⟩ : ∃ x, x = w4.setCell ⟨g2, 1, none⟩ (.int .i64 nn) := ⟨_, rfl⟩
              rw [← hw5]
              have D5 := Lib.hid (show w5.heap[w.heap.size]? = some (.cells #[.int .i64 0, .int .i64 0] 25 (0, 0)) by rw [hw5, Below.heap_setCell _ _ _ _ (by show w.heap.size ≠ g2; omega)]; exact D4.out)
              have B5 := Lib.hid (show w5.heap[g2]? = some (.cells #[.int .i64 op, .int .i64 nn] 25 (0, 0)) by rw [hw5]; exact set_blk B4.out 1 _)
              have HX5 := Lib.hid (show Ext w w5 by rw [hw5]; exact Below.setCell HX4.out.b (p := ⟨g2, 1, none⟩) (Nat.le_of_lt hsz2) _)
              clear hw5 D4 B4 HX4 b0 b1 k0 k1
              have b0 : w5.cell? ⟨g2, 0, none⟩ = some (.int .i64 op) := blk B5.out 0 rfl
              have b1 : w5.cell? ⟨g2, 1, none⟩ = some (.int .i64 nn) := blk B5.out 1 rfl
              go_wp2_with fail
              refine (instrref_Right op nn _).mono ?_
              rintro e w6 ⟨rfl, hx6⟩
              have D6 := Lib.hid (hx6.blk D5.out)
              have HX6 := Lib.hid (HX5.out.tr hx6)
              have j0 := hx6.has b0
              have j1 := hx6.has b1
              have c0 : w6.cell? ⟨w.heap.size, 0, none⟩ = some (.int .i64 0) := blk D6.out 0 rfl
              have c1 : w6.cell? ⟨w.heap.size, 1, none⟩ = some (.int .i64 0) := blk D6.out 1 rfl
              have k0 := frozen_blk D6.out 0
              have k1 := frozen_blk D6.out 1
              clear hx6 b0 b1
              cases hr : rightInstr (op, nn) with
              | true =>
                have HV := Lib.hid (HW6.out hr)
                clear hr
                go_wp2_with fail
                exact bodyPost_ret (ret_cell_tmp rfl rfl (load_instr (set2 D6.out _ _))) rfl ⟨by rw [HV.out] <;> rfl, ext2 HX6.out (Nat.le_refl _) _ _⟩
              | false =>
                have HV := Lib.hid (HW7.out hr)
                clear hr
                go_wp2_with fail
                exact bodyPost_ret (ret_cell_tmp rfl rfl (load_instr (set2 D6.out _ _))) rfl ⟨by rw [HV.out] <;> rfl, ext2 HX6.out (Nat.le_refl _) _ _⟩
            · have HV := Lib.hid (HV5.out hne)
              have t4 : (ne != 0) = true := by simpa using hne
              clear hne
              have b0 : w4.cell? ⟨w.heap.size, 0, none⟩ = some (.int .i64 0) := blk D4.out 0 rfl
              have b1 : w4.cell? ⟨w.heap.size, 1, none⟩ = some (.int .i64 0) := blk D4.out 1 rfl
              have k0 := frozen_blk D4.out 0
              have k1 := frozen_blk D4.out 1
              go_wp2_with fail
              exact bodyPost_ret (ret_cell_tmp rfl rfl (load_instr (set2 D4.out _ _))) rfl ⟨by rw [HV.out] <;> rfl, ext2 HX4.out (Nat.le_refl _) _ _⟩
      · have t1 : decide ((sp s : Int) < (strB s).size) = false := decide_eq_false (by rw [HSZ.out]; omega)
        have t7 : ((sp s : Int) == (strB s).size) = true := by rw [beq_iff_eq, HSZ.out]; omega
        cases ok with
        | false =>
          have HV := Lib.hid (q1 rfl)
          clear q1 q2 q3 q4 q5 q6 q7 hs
          go_wp2_with fail
          refine (HFD.out _).mono ?_
          rintro e w3 ⟨rfl, rfl⟩
          go_wp2_with fail
          exact bodyPost_ret (ret_cell_tmp rfl rfl (load_instr (set2 D0.out _ _))) rfl ⟨by rw [HV.out] <;> rfl, ext2 HX0.out (Nat.le_refl _) _ _⟩
        | true =>
          have HRZ := Lib.hid (right_zero (HOP.out rfl))
          by_cases h0 : operandI op = 0
          · have t3 : (operandI op == 0) = true := by rw [h0]; rfl
            have HV := Lib.hid (q3 rfl h0 hs)
            clear q1 q2 q3 q4 q5 q6 q7 h0 hs
            go_wp2_with fail
            refine (HFD.out _).mono ?_
            rintro e w3 ⟨rfl, rfl⟩
            go_wp2_with fail
            refine (opsref_Operand op _).mono ?_
            rintro e w3 ⟨rfl, rfl⟩
            go_wp2_with fail
            exact bodyPost_ret (ret_cell_tmp rfl rfl (load_instr (set2 (HE0.out _) _ _))) rfl ⟨by rw [HV.out] <;> rfl, ext2 (HX0.out.al _) (Nat.le_refl _) _ _⟩
          · have t3 : (operandI op == 0) = false := beq_eq_false_iff_ne.2 h0
            have HV := Lib.hid (q4 rfl h0 hs)
            clear q1 q2 q3 q4 q5 q6 q7 h0 hs
            go_wp2_with fail
            refine (HFD.out _).mono ?_
            rintro e w3 ⟨rfl, rfl⟩
            go_wp2_with fail
            refine (opsref_Operand op _).mono ?_
            rintro e w3 ⟨rfl, rfl⟩
            go_wp2_with fail
            exact bodyPost_ret (ret_cell_tmp rfl rfl (load_instr (set2 (HE0.out _) _ _))) rfl ⟨by rw [HV.out] <;> rfl, ext2 (HX0.out.al _) (Nat.le_refl _) _ _⟩
end Go.Proofs.YtkdnbnkbnegckaaGreatDoor
