/- asm.Line: the instruction and the line of a line of text. -/
import Derived.Test.YtkdnbnkbnegckaaGreatDoorInstrR
namespace Go.Proofs.YtkdnbnkbnegckaaGreatDoor
open Go.RowKit
set_option linter.unusedVariables false
theorem ret_cell_tmp2 {fn : Func} {p u q : Tmp} {ty : TypeId} (h : fn.results = #[.cell p ty, .tmp u, .tmp q]) {tmps : Array Value} {P : Program} {w : World} {A : Addr} {v : Value} (hp : tmps.getD p undef = .pointer (some A)) (hv : (loadVar ty A).run P w = .ok v w) :
    (results fn tmps).run P w = .ok (.tuple #[v, tmps.getD u undef, tmps.getD q undef]) w := by
  rw [Array.getD_eq_getD_getElem?] at hp
  simp [results, h, Sem.run_bind, Result.andThen, hp, asAddr, hv]
/-- What a line of text tells: an instruction, a line; or why it is none. -/
def lineI (s : List UInt8) : InstrT × (Int × Int) :=
  if (numN (s.take (sp s))).2 ≠ 0 ∨ (numN (s.take (sp s))).1 < 0 ∨ 65535 < (numN (s.take (sp s))).1 ∨ restS s = [] then ((0, 0), (0, 19))
  else if (readI (restS s)).2 ≠ 0 then ((0, 0), (0, (readI (restS s)).2)) else ((readI (restS s)).1, ((numN (s.take (sp s))).1, 0))
theorem lineI_eq (s : List UInt8) (N : Int × Int) (hN : N = numN (s.take (sp s))) (R : List UInt8) (hR : R = restS s) (I : InstrT × Int) (hI : I = readI (restS s)) :
    ((N.2 ≠ 0 ∨ N.1 < 0 ∨ 65535 < N.1 ∨ R = []) → lineI s = ((0, 0), (0, 19))) ∧ (¬(N.2 ≠ 0 ∨ N.1 < 0 ∨ 65535 < N.1 ∨ R = []) → I.2 ≠ 0 → lineI s = ((0, 0), (0, I.2))) ∧ (¬(N.2 ≠ 0 ∨ N.1 < 0 ∨ 65535 < N.1 ∨ R = []) → I.2 = 0 → lineI s = (I.1, (N.1, 0))) := by
  subst hN hR hI
  unfold lineI
  refine ⟨fun h => if_pos h, fun h h2 => ?_, fun h h2 => ?_⟩
  · rw [if_neg h, if_pos h2]
  · rw [if_neg h, if_neg (by simpa using h2)]
set_option maxHeartbeats 4000000 in
set_option maxRecDepth 20000 in
theorem asm_Line (s : List UInt8) (m : Int) (w : World) (hm : w.cell? ⟨0, 0, none⟩ = some (.int .i64 m)) (hl : s.length < 4294967281) :
    Calls Tryz.prog 6 #[.string (strB s)] w fun e w' => e = .returned (.tuple #[.agg #[.int .i64 (lineI s).1.1, .int .i64 (lineI s).1.2], .int .i64 (lineI s).2.1, .int .i64 (lineI s).2.2]) ∧ Ext w w' := by
  have HP := Lib.hid (fun w' hm' => Tryz.strings_Cut (strB s) ⟨#[32]⟩ m w' (by rw [strB_size]; exact hl) hm')
  rw [strB_toL, show (⟨#[32]⟩ : ByteArray).data.toList = [32] from rfl, cut32] at HP
  have HRL : Hid ((restS s).length ≤ s.length) := by unfold restS; rw [Hid]; split <;> simp
  have HQ := Lib.hid (lineI_eq s _ rfl _ rfl _ rfl)
  have HNUM := Lib.hid (fun W => instr_Number (s.take (sp s)) W (by rw [List.length_take]; omega))
  have HRD := Lib.hid (fun W (h : Ext w W) => instr_Read (restS s) m W (h.has hm) (by have := HRL.out; omega))
  have hm1 := fun o => ((Ext.rf w).al o).has hm
  generalize lineI s = V at *
  generalize numN (s.take (sp s)) = N at *
  generalize readI (restS s) = I at *
  generalize hR : restS s = R at *
  obtain ⟨nn, ne⟩ := N
  obtain ⟨⟨io, ia⟩, ie⟩ := I
  obtain ⟨q1, q2, q3⟩ := HQ.out
  dsimp only at HNUM HRD q1 q2 q3
  clear HQ
  go_enter Tryz.func6, Tryz.ntmps6
  go_wp2_with fail
  refine (HP.out _ (hm1 _)).mono ?_
  rintro e w1 ⟨rfl, nd, rfl⟩
  have D0 := Lib.hid (show ((w.alloc (.cells #[.int .i64 0, .int .i64 0] 25)).drewN nd).heap[w.heap.size]? = some (.cells #[.int .i64 0, .int .i64 0] 25 (0, 0)) from alloc_new w _)
  have HX1 := Lib.hid (((Ext.rf w).al (.cells #[.int .i64 0, .int .i64 0] 25)).drN nd)
  generalize (w.alloc (.cells #[.int .i64 0, .int .i64 0] 25)).drewN nd = w1 at *
  clear hm hm1 HP
  go_wp2_with fail
  refine (HNUM.out _).mono ?_
  rintro e w2 ⟨rfl, hx2⟩
  have D0 := Lib.hid (hx2.blk D0.out)
  have HX2 := Lib.hid (HX1.out.tr hx2)
  have e0 := blk D0.out 0 rfl
  have e1 := blk D0.out 1 rfl
  have f0 := frozen_blk D0.out 0
  have f1 := frozen_blk D0.out 1
  clear hx2 HX1
  have bad : ∀ {P : Prop}, (V = ((0, 0), (0, 19)) → P) → (ne ≠ 0 ∨ nn < 0 ∨ 65535 < nn ∨ R = []) → P := fun h g => h (q1 g)
  by_cases h1 : ne = 0
  · have t1 : (ne != 0) = false := by simpa using h1
    by_cases h2 : nn < 0
    · have t2 : decide (nn < 0) = true := decide_eq_true h2
      have HV := Lib.hid (q1 (.inr (.inl h2)))
      clear q1 q2 q3 bad h1 h2 hR
      go_wp2_with fail
      exact bodyPost_ret (ret_cell_tmp2 rfl rfl (load_instr (set2 D0.out _ _))) rfl ⟨by rw [HV.out] <;> rfl, ext2 HX2.out (Nat.le_refl _) _ _⟩
    · have t2 : decide (nn < 0) = false := decide_eq_false h2
      by_cases h3 : 65535 < nn
      · have t3 : decide (65535 < nn) = true := decide_eq_true h3
        have HV := Lib.hid (q1 (.inr (.inr (.inl h3))))
        clear q1 q2 q3 bad h1 h2 h3 hR
        go_wp2_with fail
        exact bodyPost_ret (ret_cell_tmp2 rfl rfl (load_instr (set2 D0.out _ _))) rfl ⟨by rw [HV.out] <;> rfl, ext2 HX2.out (Nat.le_refl _) _ _⟩
      · have t3 : decide (65535 < nn) = false := decide_eq_false h3
        by_cases h4 : R = []
        · have t4 : R.isEmpty = true := by simp [h4]
          have HV := Lib.hid (q1 (.inr (.inr (.inr h4))))
          clear q1 q2 q3 bad h1 h2 h3 h4 hR
          go_wp2_with fail
          exact bodyPost_ret (ret_cell_tmp2 rfl rfl (load_instr (set2 D0.out _ _))) rfl ⟨by rw [HV.out] <;> rfl, ext2 HX2.out (Nat.le_refl _) _ _⟩
        · have t4 : R.isEmpty = false := by simpa using h4
          have hno : ¬(ne ≠ 0 ∨ nn < 0 ∨ 65535 < nn ∨ R = []) := by
            rintro (h | h | h | h)
            · exact h h1
            · exact h2 h
            · exact h3 h
            · exact h4 h
          have HRD2 := Lib.hid (HRD.out w2 HX2.out)
          have Q2 := Lib.hid (q2 hno)
          have Q3 := Lib.hid (q3 hno)
          clear q1 q2 q3 bad h1 h2 h3 h4 hno hR HRD e0 e1 f0 f1
          go_wp2_with fail
          refine HRD2.out.mono ?_
          rintro e w3 ⟨rfl, hx3⟩
          have D3 := Lib.hid (hx3.blk D0.out)
          have HX3 := Lib.hid (HX2.out.tr hx3)
          clear hx3 HRD2
          have E3 := fun o => Ext.blk ((Ext.rf w3).al o) D3.out
          have a0 := fun o => blk (E3 o) 0 rfl
          have a1 := fun o => blk (E3 o) 1 rfl
          have g0 := fun o => frozen_blk (E3 o) 0
          have g1 := fun o => frozen_blk (E3 o) 1
          have HE3 := Lib.hid E3
          clear E3
          by_cases h5 : ie = 0
          · have t5 : (ie != 0) = false := by simpa using h5
            have HV := Lib.hid (Q3.out h5)
            clear Q2 Q3 h5
            go_wp2_with fail
            exact bodyPost_ret (ret_cell_tmp2 rfl rfl (load_instr (set2 (HE3.out _) _ _))) rfl ⟨by rw [HV.out] <;> rfl, ext2 (HX3.out.al _) (Nat.le_refl _) _ _⟩
          · have t5 : (ie != 0) = true := by simpa using h5
            have HV := Lib.hid (Q2.out h5)
            clear Q2 Q3 h5
            go_wp2_with fail
            exact bodyPost_ret (ret_cell_tmp2 rfl rfl (load_instr (set2 (HE3.out _) _ _))) rfl ⟨by rw [HV.out] <;> rfl, ext2 (HX3.out.al _) (Nat.le_refl _) _ _⟩
  · have t1 : (ne != 0) = true := by simpa using h1
    have HV := Lib.hid (q1 (.inl h1))
    clear q1 q2 q3 bad h1 hR
    go_wp2_with fail
    exact bodyPost_ret (ret_cell_tmp2 rfl rfl (load_instr (set2 D0.out _ _))) rfl ⟨by rw [HV.out] <;> rfl, ext2 HX2.out (Nat.le_refl _) _ _⟩
theorem wrap64_small {n : Int} (h1 : -9223372036854775808 ≤ n) (h2 : n < 9223372036854775808) : wrap64 n = n := by unfold wrap64; omega
theorem restS_nil (s : List UInt8) : restS s = [] ↔ s.length ≤ sp s + 1 := by
  have h1 := sp_le s
  unfold restS
  by_cases h : sp s < s.length
  · rw [if_pos h, List.drop_eq_nil_iff]
  · rw [if_neg h]
    simp
    omega
set_option maxHeartbeats 4000000 in
set_option maxRecDepth 20000 in
theorem asmref_Line (s : List UInt8) (w : World) (hl : s.length < 4294967281) :
    Calls Tryz.prog 7 #[.string (strB s)] w fun e w' => e = .returned (.tuple #[.agg #[.int .i64 (lineI s).1.1, .int .i64 (lineI s).1.2], .int .i64 (lineI s).2.1, .int .i64 (lineI s).2.2]) ∧ Ext w w' := by
  have HRL : Hid ((restS s).length ≤ s.length) := by unfold restS; rw [Hid]; split <;> simp
  have HQ := Lib.hid (lineI_eq s _ rfl _ rfl _ rfl)
  have HNUM := Lib.hid (fun W => instrref_Number (s.take (sp s)) W (by rw [List.length_take]; omega))
  have HRD := Lib.hid (fun W => instrref_Read (restS s) W (by have := HRL.out; omega))
  have HSZ : Hid ((strB s).size = s.length) := strB_size s
  have hsl := sp_le s
  have HR0 : Hid (sp s < s.length → restS s = s.drop (sp s + 1)) := fun h => by unfold restS; rw [if_pos h]
  have HAT : Hid (∀ k (h : k < s.length), k < sp s → s[k] ≠ 32) := fun k h h2 => sp_at h2 h
  have HHIT : Hid (sp s < s.length → s[sp s]? = some 32) := sp_hit
  have HRN := Lib.hid (restS_nil s)
  generalize lineI s = V at *
  generalize numN (s.take (sp s)) = N at *
  generalize readI (restS s) = I at *
  obtain ⟨nn, ne⟩ := N
  obtain ⟨⟨io, ia⟩, ie⟩ := I
  obtain ⟨q1, q2, q3⟩ := HQ.out
  dsimp only at HNUM HRD q1 q2 q3
  have Q1 := Lib.hid q1
  have Q2 := Lib.hid q2
  have Q3 := Lib.hid q3
  clear HQ q1 q2 q3
  go_enter Tryz.func7, Tryz.ntmps7
  go_wp2_with fail
  have D0 := Lib.hid (alloc_new w (.cells #[.int .i64 0, .int .i64 0] 25))
  have HX0 := Lib.hid ((Ext.rf w).al (.cells #[.int .i64 0, .int .i64 0] 25))
  generalize w.alloc (.cells #[.int .i64 0, .int .i64 0] 25) = w1 at *
  go_loop [5] (fun i => ∃ k : Nat, k ≤ sp s ∧ i = .int .i64 k) (fun i => s.length - (intOf i).toNat)
  case atStart => exact ⟨0, Nat.zero_le _, rfl⟩
  case round =>
    obtain ⟨k, hk, rfl⟩ := hrel
    by_cases hlt : k < sp s
    · have h1 : k < s.length := by omega
      have t1 : decide ((k : Int) < (strB s).size) = true := decide_eq_true (by rw [HSZ.out]; omega)
      have hz : k < (strB s).size := by rw [HSZ.out]; exact h1
      have hz2 : (k : Int) < (strB s).size := by rw [HSZ.out]; omega
      have t2 : ((((strB s)[k]'hz).toNat : Int) != 32) = true := by
        rw [bne_iff_ne]; intro e
        exact HAT.out k h1 hlt (UInt8.toNat_inj.1 (Int.ofNat_inj.1 e))
      go_wp2_with fail
      go_round
      case rel => exact ⟨k + 1, by omega, by go_num⟩
      case measure => simp [intOf]; omega
    · obtain rfl : k = sp s := by omega
      have e0 := blk D0.out 0 rfl
      have e1 := blk D0.out 1 rfl
      have f0 := frozen_blk D0.out 0
      have f1 := frozen_blk D0.out 1
      have hx1 := extract_take s (sp s)
      have hzz : sp s ≤ (strB s).size := by rw [HSZ.out]; exact hsl
      by_cases hs : sp s < s.length
      · have hz : sp s < (strB s).size := by rw [HSZ.out]; exact hs
        have hz2 : (sp s : Int) < (strB s).size := by rw [HSZ.out]; omega
        have t1 : decide ((sp s : Int) < (strB s).size) = true := decide_eq_true hz2
        have t2 : ((((strB s)[sp s]'hz).toNat : Int) != 32) = false := by
          have h := HHIT.out hs
          rw [List.getElem?_eq_getElem hs] at h
          have h2 : (strB s)[sp s] = 32 := Option.some.inj h
          rw [h2]; rfl
        go_wp2_with fail
        refine (HNUM.out _).mono ?_
        rintro e w2 ⟨rfl, hx2⟩
        have D2 := Lib.hid (hx2.blk D0.out)
        have HX2 := Lib.hid (HX0.out.tr hx2)
        have e0 := blk D2.out 0 rfl
        have e1 := blk D2.out 1 rfl
        have f0 := frozen_blk D2.out 0
        have f1 := frozen_blk D2.out 1
        clear hx2
        by_cases h1 : ne = 0
        · have r1 : (ne != 0) = false := by simpa using h1
          by_cases h2 : nn < 0
          · have r2 : decide (nn < 0) = true := decide_eq_true h2
            have HV := Lib.hid (Q1.out (.inr (.inl h2)))
            go_wp2_with fail
            exact bodyPost_ret (ret_cell_tmp2 rfl rfl (load_instr (set2 D2.out _ _))) rfl ⟨by rw [HV.out] <;> rfl, ext2 HX2.out (Nat.le_refl _) _ _⟩
          · have r2 : decide (nn < 0) = false := decide_eq_false h2
            by_cases h3 : 65535 < nn
            · have r3 : decide (65535 < nn) = true := decide_eq_true h3
              have HV := Lib.hid (Q1.out (.inr (.inr (.inl h3))))
              go_wp2_with fail
              exact bodyPost_ret (ret_cell_tmp2 rfl rfl (load_instr (set2 D2.out _ _))) rfl ⟨by rw [HV.out] <;> rfl, ext2 HX2.out (Nat.le_refl _) _ _⟩
            · have r3 : decide (65535 < nn) = false := decide_eq_false h3
              by_cases h4 : s.length ≤ sp s + 1
              · skip
                have r5 : wrap64 (((strB s).size : Int) - 1) = ((strB s).size : Int) - 1 := by rw [HSZ.out]; exact wrap64_small (by omega) (by omega)
                have r4 : decide (((strB s).size : Int) - 1 ≤ (sp s : Int)) = true := decide_eq_true (by rw [HSZ.out]; omega)
                have HV := Lib.hid (Q1.out (.inr (.inr (.inr (HRN.out.2 (by omega))))))
                go_wp2_with fail
                exact bodyPost_ret (ret_cell_tmp2 rfl rfl (load_instr (set2 D2.out _ _))) rfl ⟨by rw [HV.out] <;> rfl, ext2 HX2.out (Nat.le_refl _) _ _⟩
              · have r5 : wrap64 (((strB s).size : Int) - 1) = ((strB s).size : Int) - 1 := by rw [HSZ.out]; exact wrap64_small (by omega) (by omega)
                have r4 : decide (((strB s).size : Int) - 1 ≤ (sp s : Int)) = false := decide_eq_false (by rw [HSZ.out]; omega)
                have hno : ¬(ne ≠ 0 ∨ nn < 0 ∨ 65535 < nn ∨ restS s = []) := by
                  rintro (h | h | h | h)
                  · exact h h1
                  · exact h2 h
                  · exact h3 h
                  · exact h4 (HRN.out.1 h)
                have HRD2 := Lib.hid (HRD.out w2)
                have P2 := Lib.hid (Q2.out hno)
                have P3 := Lib.hid (Q3.out hno)
                have hx2 := extract_drop s (sp s + 1)
                have hzz2 : sp s + 1 ≤ (strB s).size := hz
                rw [← HR0.out hs] at hx2
                generalize restS s = R at *
                clear h1 h2 h3 h4 hno HRD e0 e1 f0 f1 Q1 HNUM
                go_wp2_with fail
                refine HRD2.out.mono ?_
                rintro e w3 ⟨rfl, hx3⟩
                have D3 := Lib.hid (hx3.blk D2.out)
                have HX3 := Lib.hid (HX2.out.tr hx3)
                clear hx3 HRD2
                have E3 := fun o => Ext.blk ((Ext.rf w3).al o) D3.out
                have a0 := fun o => blk (E3 o) 0 rfl
                have a1 := fun o => blk (E3 o) 1 rfl
                have g0 := fun o => frozen_blk (E3 o) 0
                have g1 := fun o => frozen_blk (E3 o) 1
                have HE3 := Lib.hid E3
                clear E3
                by_cases h5 : ie = 0
                · have t5 : (ie != 0) = false := by simpa using h5
                  have HV := Lib.hid (P3.out h5)
                  clear P2 P3 h5
                  go_wp2_with fail
                  exact bodyPost_ret (ret_cell_tmp2 rfl rfl (load_instr (set2 (HE3.out _) _ _))) rfl ⟨by rw [HV.out] <;> rfl, ext2 (HX3.out.al _) (Nat.le_refl _) _ _⟩
                · have t5 : (ie != 0) = true := by simpa using h5
                  have HV := Lib.hid (P2.out h5)
                  clear P2 P3 h5
                  go_wp2_with fail
                  exact bodyPost_ret (ret_cell_tmp2 rfl rfl (load_instr (set2 (HE3.out _) _ _))) rfl ⟨by rw [HV.out] <;> rfl, ext2 (HX3.out.al _) (Nat.le_refl _) _ _⟩
        · have r1 : (ne != 0) = true := by simpa using h1
          have HV := Lib.hid (Q1.out (.inl h1))
          go_wp2_with fail
          exact bodyPost_ret (ret_cell_tmp2 rfl rfl (load_instr (set2 D2.out _ _))) rfl ⟨by rw [HV.out] <;> rfl, ext2 HX2.out (Nat.le_refl _) _ _⟩
      · have t1 : decide ((sp s : Int) < (strB s).size) = false := decide_eq_false (by rw [HSZ.out]; omega)
        go_wp2_with fail
        refine (HNUM.out _).mono ?_
        rintro e w2 ⟨rfl, hx2⟩
        have D2 := Lib.hid (hx2.blk D0.out)
        have HX2 := Lib.hid (HX0.out.tr hx2)
        have e0 := blk D2.out 0 rfl
        have e1 := blk D2.out 1 rfl
        have f0 := frozen_blk D2.out 0
        have f1 := frozen_blk D2.out 1
        clear hx2
        by_cases h1 : ne = 0
        · have r1 : (ne != 0) = false := by simpa using h1
          by_cases h2 : nn < 0
          · have r2 : decide (nn < 0) = true := decide_eq_true h2
            have HV := Lib.hid (Q1.out (.inr (.inl h2)))
            go_wp2_with fail
            exact bodyPost_ret (ret_cell_tmp2 rfl rfl (load_instr (set2 D2.out _ _))) rfl ⟨by rw [HV.out] <;> rfl, ext2 HX2.out (Nat.le_refl _) _ _⟩
          · have r2 : decide (nn < 0) = false := decide_eq_false h2
            by_cases h3 : 65535 < nn
            · have r3 : decide (65535 < nn) = true := decide_eq_true h3
              have HV := Lib.hid (Q1.out (.inr (.inr (.inl h3))))
              go_wp2_with fail
              exact bodyPost_ret (ret_cell_tmp2 rfl rfl (load_instr (set2 D2.out _ _))) rfl ⟨by rw [HV.out] <;> rfl, ext2 HX2.out (Nat.le_refl _) _ _⟩
            · have r3 : decide (65535 < nn) = false := decide_eq_false h3
              have r5 : wrap64 (((strB s).size : Int) - 1) = ((strB s).size : Int) - 1 := by rw [HSZ.out]; exact wrap64_small (by omega) (by omega)
              have r4 : decide (((strB s).size : Int) - 1 ≤ (sp s : Int)) = true := decide_eq_true (by rw [HSZ.out]; omega)
              have HV := Lib.hid (Q1.out (.inr (.inr (.inr (HRN.out.2 (by omega))))))
              go_wp2_with fail
              exact bodyPost_ret (ret_cell_tmp2 rfl rfl (load_instr (set2 D2.out _ _))) rfl ⟨by rw [HV.out] <;> rfl, ext2 HX2.out (Nat.le_refl _) _ _⟩
        · have r1 : (ne != 0) = true := by simpa using h1
          have HV := Lib.hid (Q1.out (.inl h1))
          go_wp2_with fail
          exact bodyPost_ret (ret_cell_tmp2 rfl rfl (load_instr (set2 D2.out _ _))) rfl ⟨by rw [HV.out] <;> rfl, ext2 HX2.out (Nat.le_refl _) _ _⟩
end Go.Proofs.YtkdnbnkbnegckaaGreatDoor
