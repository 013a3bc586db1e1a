/- ref17.Head, walked. -/
import Derived.Test.YtkdnbnkbnegckaaGreatDoorAhw
namespace Go.Proofs.YtkdnbnkbnegckaaGreatDoor
open Go.RowKit
set_option maxRecDepth 20000
set_option linter.unusedVariables false
theorem noi_box4 {W : World} {g : Nat} {v2 v3 v4 v5 : Value} {t : TypeId} {fz : Nat × Nat} (h : W.heap[g]? = some (.cells #[v3, v4, v5, v2] t fz)) (h2 : NonI v2) (h3 : NonI v3) (h4 : NonI v4) (h5 : NonI v5) : NoI W g := by
  refine ⟨_, t, fz, h, fun j u hu => ?_⟩
  have hm := Array.mem_of_getElem? hu
  simp at hm
  rcases hm with rfl | rfl | rfl | rfl <;> assumption
set_option maxHeartbeats 8000000 in
theorem asmref_Head (s : List UInt8) (w : World) (hl : s.length ≤ 1000000) : Calls Tryz.prog 9 #[.string (strB s)] w (RetHead s w) := by
  have hne := (wordsF_ne s s.length).1
  have HEL := Lib.hid (wordsF_elem (s := s) s.length)
  rw [List.take_length] at hne HEL
  have HWS := Lib.hid (fun W => asmref_cut s W hl)
  have HR : Hid (∀ (cs : List Value) (er : Int) (e : Ending) (w' : World), headE s = er → HeadR w.heap.size w' (headF s) cs → Ext w w' → e = .returned (.tuple #[.agg cs.toArray, .int .i64 er]) → RetHead s w e w') := Lib.hid fun cs er e w' h1 h2 h3 h4 => ⟨cs, by rw [h4, h1], h2, h3⟩
  have HE : Hid (∀ ws, ws = wordsF s → headE s = if badH ws = true then 19 else if mayName (strB (wordAt ws 1)) = false then 7 else errT ws) := Lib.hid fun ws h => by subst h; rfl
  have HF : Hid (∀ ws, ws = wordsF s → headF s = if headE s = 0 then (wordAt ws 1, (decide (ws.length = 6), ((if ws.length = 6 then readL (wordAt ws 5) else []), (readL (wordAt ws 2), (readL (wordAt ws 3), (readL (wordAt ws 4), ([], ([], ([], ([], [])))))))))) else zeroFn) := Lib.hid fun ws h => by subst h; rfl
  generalize hws : wordsF s = ws at *
  have HE := Lib.hid (HE.out ws rfl)
  have HF := Lib.hid (HF.out ws rfl)
  have hq : ∀ P, RetHead s w = P → RetHead s w = P := fun _ h => h
  generalize RetHead s w = RH at *
  clear hq hws
  go_enter Tryz.func9, Tryz.ntmps9
  go_wp2_with fail
  refine (HWS.out _).mono ?_
  rintro e w1 ⟨v, rfl, hown, hx1⟩
  obtain ⟨ao, cap, rfl, -, -, hC⟩ := Cells.own hown
  clear hown
  have D0 := Lib.hid (hx1.blk (alloc_new w _))
  have HX1 := Lib.hid (((Ext.rf w).al _).tr hx1)
  have hpos : 0 < ws.length := List.length_pos_iff.2 hne
  have hcw : ∀ (i : Nat) (h : i < (ws.map strOf).length), (ws.map strOf)[i] = .string (strB (wordAt ws i)) := fun i h => by
    rw [List.getElem_map, wordAt, List.getElem?_eq_getElem (by simpa using h)]; rfl
  have HWL : Hid (∀ i, (wordAt ws i).length ≤ s.length) := Lib.hid fun i => by
    rw [wordAt]
    cases hi : ws[i]? with
    | none => simp
    | some x => exact HEL.out x (List.mem_of_getElem? hi)
  obtain ⟨b, off, rfl, h0⟩ := hC.at (k := 0) (by simpa using hpos)
  rw [hcw] at h0
  have hc0 : w1.cell? ⟨b, off, none⟩ = some (.string (strB (wordAt ws 0))) := h0
  have HCW := Lib.hid (fun (W : World) (hx : Ext w1 W) (i : Nat) (h : i < ws.length) => (show W.cell? ⟨b, off + i, none⟩ = some (.string (strB (wordAt ws i))) from by
    obtain ⟨b', off', he, h1⟩ := (hC.ext hx).at (k := i) (by simpa using h)
    cases he
    rw [hcw] at h1
    exact h1))
  have e0 := blk D0.out 0 rfl
  have e1 := blk D0.out 1 rfl
  have e2 := blk D0.out 2 rfl
  have e3 := blk D0.out 3 rfl
  have e4 := blk D0.out 4 rfl
  have e5 := blk D0.out 5 rfl
  have e6 := blk D0.out 6 rfl
  have e7 := blk D0.out 7 rfl
  have e8 := blk D0.out 8 rfl
  have e9 := blk D0.out 9 rfl
  have e10 := blk D0.out 10 rfl
  have f0 := frozen_blk D0.out 0
  have f1 := frozen_blk D0.out 1
  have f2 := frozen_blk D0.out 2
  have f3 := frozen_blk D0.out 3
  have f4 := frozen_blk D0.out 4
  have f5 := frozen_blk D0.out 5
  have f6 := frozen_blk D0.out 6
  have f7 := frozen_blk D0.out 7
  have f8 := frozen_blk D0.out 8
  have f9 := frozen_blk D0.out 9
  have f10 := frozen_blk D0.out 10
  clear hx1 HWS h0 hcw hne hC HEL
  have HZ : Hid (∀ u, headE s = u → u ≠ 0 → headF s = zeroFn) := Lib.hid fun u h1 h2 => by rw [HF.out, if_neg (by rw [h1]; exact h2)]
  by_cases ha : wordAt ws 0 = funcW
  · have t1 : ((strB (wordAt ws 0)).toList == [102, 117, 110, 99]) = true := by rw [beq_iff_eq, ByteArray.toList_eq, strB_toL]; exact ha
    by_cases h5 : ws.length ≠ 5 ∧ ws.length ≠ 6
    · have t2 : ((ws.length : Int) != 5) = true := by rw [bne_iff_ne]; omega
      have t3 : ((ws.length : Int) != 6) = true := by rw [bne_iff_ne]; omega
      have t1 : ((strB (wordAt ws 0)).toList != [102, 117, 110, 99]) = false := by rw [bne, t1]; rfl
      have hE : Hid (headE s = 19) := Lib.hid (by rw [HE.out, if_pos]; exact decide_eq_true (.inr h5))
      clear ha h5
      go_wp2_with fail
      refine bodyPost_ret (ret_cell_tmp rfl rfl (load_fn (set11 D0.out _ _ _ _ _ _ _ _ _ _ _))) rfl ?_
      exact HR.out _ _ _ _ hE.out (by rw [HZ.out _ hE.out (by first | decide | simpa using t9)]; exact zero_head) (ext11 HX1.out (Nat.le_refl _) _ _ _ _ _ _ _ _ _ _ _) rfl
    · have hbad : ¬(badH ws = true) := by
        unfold badH
        rw [decide_eq_true_eq]
        rintro (h | h)
        · exact h ha
        · exact h5 h
      have HE := Lib.hid (HE.out.trans (if_neg hbad))
      clear hbad ha
      have hn : ws.length = 5 ∨ ws.length = 6 := by omega
      clear h5
      rcases hn with hn | hn
      · rw [hn]
        have HNN := Lib.hid hn
        have hc1 := HCW.out w1 (Ext.rf _) 1 (by omega)
        clear hn
        go_wp2_with fail
        refine (namesref_May _ _ (by rw [strB_size]; have := HWL.out 1; omega)).mono ?_
        rintro e w2 ⟨rfl, rfl⟩
        cases hW' : mayName (strB (wordAt ws 1)) with
        | false =>
          have hE : Hid (headE s = 7) := Lib.hid (by rw [HE.out, if_pos hW'])
          go_wp2_with fail
          refine bodyPost_ret (ret_cell_tmp rfl rfl (load_fn (set11 D0.out _ _ _ _ _ _ _ _ _ _ _))) rfl ?_
          exact HR.out _ _ _ _ hE.out (by rw [HZ.out _ hE.out (by first | decide | simpa using t9)]; exact zero_head) (ext11 HX1.out (Nat.le_refl _) _ _ _ _ _ _ _ _ _ _ _) rfl
        | true =>
          have HE := Lib.hid (HE.out.trans (if_neg (by rw [hW']; decide)))
          have HS5 : Hid (w.heap.size < w1.heap.size) := Lib.hid (Array.getElem?_eq_some_iff.1 D0.out).1
          go_wp2_with fail
          have D5 := Lib.hid (alloc_new w1 (.cells #[.slice none 0 0, .slice none 0 0, .slice none 0 0, .slice none 0 0] 62))
          have HX2 := Lib.hid ((Ext.rf w1).al (.cells #[.slice none 0 0, .slice none 0 0, .slice none 0 0, .slice none 0 0] 62))
          have D0 := Lib.hid (HX2.out.blk D0.out)
          generalize w1.alloc (.cells #[.slice none 0 0, .slice none 0 0, .slice none 0 0, .slice none 0 0] 62) = w2 at *
          go_loopw [6] (fun i wr => ∃ (k : Nat) (q : Int) (v2 v3 v4 v5 : Value), i = .int .i64 q ∧ q = (k : Int) + 2 ∧ k ≤ 3 ∧ Hid (wr.heap[w1.heap.size]? = some (.cells #[v3, v4, v5, v2] 62)) ∧ Hid (wr.heap[w.heap.size]? = some (.cells #[.string ⟨#[]⟩, .bool false, .slice none 0 0, .slice none 0 0, .slice none 0 0, .slice none 0 0, .slice none 0 0, .slice none 0 0, .slice none 0 0, .slice none 0 0, .slice none 0 0] 35)) ∧ Hid (Four w.heap.size wr ws k v2 v3 v4 v5) ∧ Hid (∀ j, j < k → readE (wordAt ws (2 + j)) = 0) ∧ Hid (Ext w1 wr))
            (fun i _ => 5 - (intOf i).toNat)
          case atStart => exact ⟨0, _, _, _, _, _, rfl, rfl, Nat.zero_le _, D5, D0, Lib.hid (Four.start _ _ _), Lib.hid (fun j hj => absurd hj (Nat.not_lt_zero _)), HX2⟩
          case round =>
            obtain ⟨k, q, v2, v3, v4, v5, rfl, hq, hk, G5, G0, GS, GE, GX⟩ := hrel
            obtain rfl | rfl | rfl | rfl : k = 0 ∨ k = 1 ∨ k = 2 ∨ k = 3 := by omega
            · obtain rfl : q = 2 := by omega
              clear hq hk
              have hcw := HCW.out _ GX.out 2 (by rw [HNN.out]; omega)
              have HRD := Lib.hid (fun W => sigref_Read (strB (wordAt ws 2)) W (by rw [strB_size]; have := HWL.out 2; omega))
              rw [strB_toL] at HRD
              go_wp2_with fail
              refine (HRD.out _).mono ?_
              rintro e w4 ⟨ao', cap', rfl, hc4, hx4, hcap4, hfr4⟩
              have hfr5 := hfr4.mono (show w.heap.size ≤ wr.heap.size by have := HX1.out.size; have := GX.out.size; omega)
              have G5 := Lib.hid (hx4.blk G5.out)
              have G0 := Lib.hid (hx4.blk G0.out)
              have GS := Lib.hid (GS.out.ext hx4)
              have GX := Lib.hid (GX.out.tr hx4)
              have SV : Hid (SlT w.heap.size w4 (readL (wordAt ws (2 + 0))) (.slice ao' (readL (wordAt ws 2)).length cap')) := Lib.hid ⟨ao', cap', rfl, hc4, hcap4, hfr5⟩
              clear hx4 hc4 hcap4 hfr4 hfr5 HRD hcw
              by_cases hre : readE (wordAt ws 2) = 0
              · have t9 : (readE (wordAt ws 2) != 0) = false := by rw [hre]; rfl
                have GE := Lib.hid (show ∀ j, j < 0 + 1 → readE (wordAt ws (2 + j)) = 0 from fun j hj => by
                  by_cases h : j = 0
                  · rw [h]; exact hre
                  · exact GE.out j (by omega))
                clear hre
                have c5 := blk G5.out 0 rfl
                have z5 := frozen_blk G5.out 0
                go_wp2_with fail
                go_roundw
                case rel => exact ⟨1, _, _, _, _, _, by go_num, by omega, by omega, Lib.hid (set_blk G5.out 0 _), Lib.hid ((Below.heap_setCell _ ⟨w1.heap.size, 0, none⟩ _ _ (show w.heap.size ≠ w1.heap.size by have := HS5.out; omega)).trans G0.out), Lib.hid ((Four.set ⟨GS.out.next SV.out (by decide), noi_box4 G5.out GS.out.1.non GS.out.2.1.non GS.out.2.2.1.non GS.out.2.2.2.non⟩ 0 SV.out.non).1), GE, Lib.hid (Below.setCell GX.out.b (p := ⟨w1.heap.size, 0, none⟩) (Nat.le_refl _) _)⟩
                case measure => simp [intOf]
              · have t9 : (readE (wordAt ws 2) != 0) = true := by rw [bne_iff_ne]; exact hre
                have hE : Hid (headE s = readE (wordAt ws 2)) := Lib.hid (by rw [HE.out, errT_bad (k := 0) (by rw [HNN.out]; omega) GE.out hre])
                have HX4 := Lib.hid (HX1.out.tr GX.out)
                have e0 := blk G0.out 0 rfl
                have e1 := blk G0.out 1 rfl
                have e2 := blk G0.out 2 rfl
                have e3 := blk G0.out 3 rfl
                have e4 := blk G0.out 4 rfl
                have e5 := blk G0.out 5 rfl
                have e6 := blk G0.out 6 rfl
                have e7 := blk G0.out 7 rfl
                have e8 := blk G0.out 8 rfl
                have e9 := blk G0.out 9 rfl
                have e10 := blk G0.out 10 rfl
                have f0 := frozen_blk G0.out 0
                have f1 := frozen_blk G0.out 1
                have f2 := frozen_blk G0.out 2
                have f3 := frozen_blk G0.out 3
                have f4 := frozen_blk G0.out 4
                have f5 := frozen_blk G0.out 5
                have f6 := frozen_blk G0.out 6
                have f7 := frozen_blk G0.out 7
                have f8 := frozen_blk G0.out 8
                have f9 := frozen_blk G0.out 9
                have f10 := frozen_blk G0.out 10
                clear hre
                go_wp2_with fail
                refine bodyPost_ret (ret_cell_tmp rfl rfl (load_fn (set11 G0.out _ _ _ _ _ _ _ _ _ _ _))) rfl ?_
                exact HR.out _ _ _ _ hE.out (by rw [HZ.out _ hE.out (by first | decide | simpa using t9)]; exact zero_head) (ext11 HX4.out (Nat.le_refl _) _ _ _ _ _ _ _ _ _ _ _) rfl
            · obtain rfl : q = 3 := by omega
              clear hq hk
              have hcw := HCW.out _ GX.out 3 (by rw [HNN.out]; omega)
              have HRD := Lib.hid (fun W => sigref_Read (strB (wordAt ws 3)) W (by rw [strB_size]; have := HWL.out 3; omega))
              rw [strB_toL] at HRD
              go_wp2_with fail
              refine (HRD.out _).mono ?_
              rintro e w4 ⟨ao', cap', rfl, hc4, hx4, hcap4, hfr4⟩
              have hfr5 := hfr4.mono (show w.heap.size ≤ wr.heap.size by have := HX1.out.size; have := GX.out.size; omega)
              have G5 := Lib.hid (hx4.blk G5.out)
              have G0 := Lib.hid (hx4.blk G0.out)
              have GS := Lib.hid (GS.out.ext hx4)
              have GX := Lib.hid (GX.out.tr hx4)
              have SV : Hid (SlT w.heap.size w4 (readL (wordAt ws (2 + 1))) (.slice ao' (readL (wordAt ws 3)).length cap')) := Lib.hid ⟨ao', cap', rfl, hc4, hcap4, hfr5⟩
              clear hx4 hc4 hcap4 hfr4 hfr5 HRD hcw
              by_cases hre : readE (wordAt ws 3) = 0
              · have t9 : (readE (wordAt ws 3) != 0) = false := by rw [hre]; rfl
                have GE := Lib.hid (show ∀ j, j < 1 + 1 → readE (wordAt ws (2 + j)) = 0 from fun j hj => by
                  by_cases h : j = 1
                  · rw [h]; exact hre
                  · exact GE.out j (by omega))
                clear hre
                have c5 := blk G5.out 1 rfl
                have z5 := frozen_blk G5.out 1
                go_wp2_with fail
                go_roundw
                case rel => exact ⟨2, _, _, _, _, _, by go_num, by omega, by omega, Lib.hid (set_blk G5.out 1 _), Lib.hid ((Below.heap_setCell _ ⟨w1.heap.size, 1, none⟩ _ _ (show w.heap.size ≠ w1.heap.size by have := HS5.out; omega)).trans G0.out), Lib.hid ((Four.set ⟨GS.out.next SV.out (by decide), noi_box4 G5.out GS.out.1.non GS.out.2.1.non GS.out.2.2.1.non GS.out.2.2.2.non⟩ 1 SV.out.non).1), GE, Lib.hid (Below.setCell GX.out.b (p := ⟨w1.heap.size, 1, none⟩) (Nat.le_refl _) _)⟩
                case measure => simp [intOf]
              · have t9 : (readE (wordAt ws 3) != 0) = true := by rw [bne_iff_ne]; exact hre
                have hE : Hid (headE s = readE (wordAt ws 3)) := Lib.hid (by rw [HE.out, errT_bad (k := 1) (by rw [HNN.out]; omega) GE.out hre])
                have HX4 := Lib.hid (HX1.out.tr GX.out)
                have e0 := blk G0.out 0 rfl
                have e1 := blk G0.out 1 rfl
                have e2 := blk G0.out 2 rfl
                have e3 := blk G0.out 3 rfl
                have e4 := blk G0.out 4 rfl
                have e5 := blk G0.out 5 rfl
                have e6 := blk G0.out 6 rfl
                have e7 := blk G0.out 7 rfl
                have e8 := blk G0.out 8 rfl
                have e9 := blk G0.out 9 rfl
                have e10 := blk G0.out 10 rfl
                have f0 := frozen_blk G0.out 0
                have f1 := frozen_blk G0.out 1
                have f2 := frozen_blk G0.out 2
                have f3 := frozen_blk G0.out 3
                have f4 := frozen_blk G0.out 4
                have f5 := frozen_blk G0.out 5
                have f6 := frozen_blk G0.out 6
                have f7 := frozen_blk G0.out 7
                have f8 := frozen_blk G0.out 8
                have f9 := frozen_blk G0.out 9
                have f10 := frozen_blk G0.out 10
                clear hre
                go_wp2_with fail
                refine bodyPost_ret (ret_cell_tmp rfl rfl (load_fn (set11 G0.out _ _ _ _ _ _ _ _ _ _ _))) rfl ?_
                exact HR.out _ _ _ _ hE.out (by rw [HZ.out _ hE.out (by first | decide | simpa using t9)]; exact zero_head) (ext11 HX4.out (Nat.le_refl _) _ _ _ _ _ _ _ _ _ _ _) rfl
            · obtain rfl : q = 4 := by omega
              clear hq hk
              have hcw := HCW.out _ GX.out 4 (by rw [HNN.out]; omega)
              have HRD := Lib.hid (fun W => sigref_Read (strB (wordAt ws 4)) W (by rw [strB_size]; have := HWL.out 4; omega))
              rw [strB_toL] at HRD
              go_wp2_with fail
              refine (HRD.out _).mono ?_
              rintro e w4 ⟨ao', cap', rfl, hc4, hx4, hcap4, hfr4⟩
              have hfr5 := hfr4.mono (show w.heap.size ≤ wr.heap.size by have := HX1.out.size; have := GX.out.size; omega)
              have G5 := Lib.hid (hx4.blk G5.out)
              have G0 := Lib.hid (hx4.blk G0.out)
              have GS := Lib.hid (GS.out.ext hx4)
              have GX := Lib.hid (GX.out.tr hx4)
              have SV : Hid (SlT w.heap.size w4 (readL (wordAt ws (2 + 2))) (.slice ao' (readL (wordAt ws 4)).length cap')) := Lib.hid ⟨ao', cap', rfl, hc4, hcap4, hfr5⟩
              clear hx4 hc4 hcap4 hfr4 hfr5 HRD hcw
              by_cases hre : readE (wordAt ws 4) = 0
              · have t9 : (readE (wordAt ws 4) != 0) = false := by rw [hre]; rfl
                have GE := Lib.hid (show ∀ j, j < 2 + 1 → readE (wordAt ws (2 + j)) = 0 from fun j hj => by
                  by_cases h : j = 2
                  · rw [h]; exact hre
                  · exact GE.out j (by omega))
                clear hre
                have c5 := blk G5.out 2 rfl
                have z5 := frozen_blk G5.out 2
                go_wp2_with fail
                go_roundw
                case rel => exact ⟨3, _, _, _, _, _, by go_num, by omega, by omega, Lib.hid (set_blk G5.out 2 _), Lib.hid ((Below.heap_setCell _ ⟨w1.heap.size, 2, none⟩ _ _ (show w.heap.size ≠ w1.heap.size by have := HS5.out; omega)).trans G0.out), Lib.hid ((Four.set ⟨GS.out.next SV.out (by decide), noi_box4 G5.out GS.out.1.non GS.out.2.1.non GS.out.2.2.1.non GS.out.2.2.2.non⟩ 2 SV.out.non).1), GE, Lib.hid (Below.setCell GX.out.b (p := ⟨w1.heap.size, 2, none⟩) (Nat.le_refl _) _)⟩
                case measure => simp [intOf]
              · have t9 : (readE (wordAt ws 4) != 0) = true := by rw [bne_iff_ne]; exact hre
                have hE : Hid (headE s = readE (wordAt ws 4)) := Lib.hid (by rw [HE.out, errT_bad (k := 2) (by rw [HNN.out]; omega) GE.out hre])
                have HX4 := Lib.hid (HX1.out.tr GX.out)
                have e0 := blk G0.out 0 rfl
                have e1 := blk G0.out 1 rfl
                have e2 := blk G0.out 2 rfl
                have e3 := blk G0.out 3 rfl
                have e4 := blk G0.out 4 rfl
                have e5 := blk G0.out 5 rfl
                have e6 := blk G0.out 6 rfl
                have e7 := blk G0.out 7 rfl
                have e8 := blk G0.out 8 rfl
                have e9 := blk G0.out 9 rfl
                have e10 := blk G0.out 10 rfl
                have f0 := frozen_blk G0.out 0
                have f1 := frozen_blk G0.out 1
                have f2 := frozen_blk G0.out 2
                have f3 := frozen_blk G0.out 3
                have f4 := frozen_blk G0.out 4
                have f5 := frozen_blk G0.out 5
                have f6 := frozen_blk G0.out 6
                have f7 := frozen_blk G0.out 7
                have f8 := frozen_blk G0.out 8
                have f9 := frozen_blk G0.out 9
                have f10 := frozen_blk G0.out 10
                clear hre
                go_wp2_with fail
                refine bodyPost_ret (ret_cell_tmp rfl rfl (load_fn (set11 G0.out _ _ _ _ _ _ _ _ _ _ _))) rfl ?_
                exact HR.out _ _ _ _ hE.out (by rw [HZ.out _ hE.out (by first | decide | simpa using t9)]; exact zero_head) (ext11 HX4.out (Nat.le_refl _) _ _ _ _ _ _ _ _ _ _ _) rfl
            · obtain rfl : q = 5 := by omega
              clear hq hk
              obtain ⟨a2, n2, q2, rfl⟩ := GS.out.1.form
              obtain ⟨a3, n3, q3, rfl⟩ := GS.out.2.1.form
              obtain ⟨a4, n4, q4, rfl⟩ := GS.out.2.2.1.form
              obtain ⟨a5, n5, q5, rfl⟩ := GS.out.2.2.2.form
              have hE : Hid (headE s = 0) := Lib.hid (by rw [HE.out, errT_ok (fun i hi => GE.out i (by have := HNN.out; omega))])
              have HX4 := Lib.hid (HX1.out.tr GX.out)
              have e0 := blk G0.out 0 rfl
              have e1 := blk G0.out 1 rfl
              have e2 := blk G0.out 2 rfl
              have e3 := blk G0.out 3 rfl
              have e4 := blk G0.out 4 rfl
              have e5 := blk G0.out 5 rfl
              have e6 := blk G0.out 6 rfl
              have e7 := blk G0.out 7 rfl
              have e8 := blk G0.out 8 rfl
              have e9 := blk G0.out 9 rfl
              have e10 := blk G0.out 10 rfl
              have f0 := frozen_blk G0.out 0
              have f1 := frozen_blk G0.out 1
              have f2 := frozen_blk G0.out 2
              have f3 := frozen_blk G0.out 3
              have f4 := frozen_blk G0.out 4
              have f5 := frozen_blk G0.out 5
              have f6 := frozen_blk G0.out 6
              have f7 := frozen_blk G0.out 7
              have f8 := frozen_blk G0.out 8
              have f9 := frozen_blk G0.out 9
              have f10 := frozen_blk G0.out 10
              have g0 : wr.cell? ⟨w1.heap.size, 0, none⟩ = some (.slice a3 n3 q3) := blk G5.out 0 rfl
              have g1 : wr.cell? ⟨w1.heap.size, 1, none⟩ = some (.slice a4 n4 q4) := blk G5.out 1 rfl
              have g2 : wr.cell? ⟨w1.heap.size, 2, none⟩ = some (.slice a5 n5 q5) := blk G5.out 2 rfl
              have g3 : wr.cell? ⟨w1.heap.size, 3, none⟩ = some (.slice a2 n2 q2) := blk G5.out 3 rfl
              have gw := HCW.out _ GX.out 1 (by rw [HNN.out]; omega)
              have HV : Hid (Four w.heap.size wr ws 3 (.slice a2 n2 q2) (.slice a3 n3 q3) (.slice a4 n4 q4) (.slice a5 n5 q5) ∧ NoI wr w.heap.size) := Lib.hid ⟨GS.out, noi_box G0.out nonI_nil nonI_nil nonI_nil nonI_nil⟩
              have m1 : b ≠ w.heap.size := fun e => by
                have h2 := HCW.out _ GX.out 2 (by rw [HNN.out]; omega)
                rw [e, cell_of_row _ _ _ _ _ _ G0.out] at h2
                have h3 : off + 2 < 11 := by have := (Array.getElem?_eq_some_iff.1 h2).1; simpa using this
                obtain h | h | h | h | h | h | h | h | h : off = 0 ∨ off = 1 ∨ off = 2 ∨ off = 3 ∨ off = 4 ∨ off = 5 ∨ off = 6 ∨ off = 7 ∨ off = 8 := by omega
                all_goals (subst h; simp at h2)
              have m2 : w1.heap.size ≠ w.heap.size := by have := HS5.out; omega
              go_wp2_with fail
              go_region_held3 (fun w' => w'.cell? ⟨b, off + 1, none⟩ = some (.string (strB (wordAt ws 1))) ∧ w'.cell? ⟨w1.heap.size, 0, none⟩ = some (.slice a3 n3 q3) ∧ w'.cell? ⟨w1.heap.size, 1, none⟩ = some (.slice a4 n4 q4) ∧ w'.cell? ⟨w1.heap.size, 2, none⟩ = some (.slice a5 n5 q5) ∧ w'.cell? ⟨w1.heap.size, 3, none⟩ = some (.slice a2 n2 q2)) (refine ⟨?_, ?_, ?_, ?_, ?_⟩ <;> go_simp) (fail)
              go_wp2
              have HV := Lib.hid (Four.set (Four.set (Four.set (Four.set (Four.set (Four.set (Four.set (Four.set (Four.set (Four.set (Four.set (HV.out) 0 (nonI_str (s := strB (wordAt ws 1)))) 1 (nonI_bool (b := false))) 2 GS.out.1.non) 3 GS.out.2.1.non) 4 GS.out.2.2.1.non) 5 GS.out.2.2.2.non) 6 nonI_nil) 7 nonI_nil) 8 nonI_nil) 9 nonI_nil) 10 nonI_nil)
              have HD := Lib.hid (set11 G0.out (.string (strB (wordAt ws 1))) (.bool false) (.slice a2 n2 q2) (.slice a3 n3 q3) (.slice a4 n4 q4) (.slice a5 n5 q5) (.slice none 0 0) (.slice none 0 0) (.slice none 0 0) (.slice none 0 0) (.slice none 0 0))
              have HXE := Lib.hid (ext11 HX4.out (Nat.le_refl _) (.string (strB (wordAt ws 1))) (.bool false) (.slice a2 n2 q2) (.slice a3 n3 q3) (.slice a4 n4 q4) (.slice a5 n5 q5) (.slice none 0 0) (.slice none 0 0) (.slice none 0 0) (.slice none 0 0) (.slice none 0 0))
              generalize (((((((((((wr.setCell ⟨w.heap.size, 0, none⟩ (.string (strB (wordAt ws 1)))).setCell ⟨w.heap.size, 1, none⟩ (.bool false)).setCell ⟨w.heap.size, 2, none⟩ (.slice a2 n2 q2)).setCell ⟨w.heap.size, 3, none⟩ (.slice a3 n3 q3)).setCell ⟨w.heap.size, 4, none⟩ (.slice a4 n4 q4)).setCell ⟨w.heap.size, 5, none⟩ (.slice a5 n5 q5)).setCell ⟨w.heap.size, 6, none⟩ (.slice none 0 0)).setCell ⟨w.heap.size, 7, none⟩ (.slice none 0 0)).setCell ⟨w.heap.size, 8, none⟩ (.slice none 0 0)).setCell ⟨w.heap.size, 9, none⟩ (.slice none 0 0)).setCell ⟨w.heap.size, 10, none⟩ (.slice none 0 0)) = Wz at *
              refine bodyPost_ret (ret_cell_tmp rfl rfl (load_fn (W := Wz.drew) HD.out)) rfl ?_
              refine HR.out _ _ _ _ hE.out ?_ HXE.out.dr rfl
              rw [HF.out, if_pos hE.out]
              rw [if_neg (by have := HNN.out; omega), show decide (ws.length = 6) = false from decide_eq_false (by have := HNN.out; omega)]
              have HV := HV.out.1.ext (Ext.rf _).dr
              exact fn_head HV.1 HV.2.1 HV.2.2.1 HV.2.2.2
      · rw [hn]
        have HNN := Lib.hid hn
        have hc1 := HCW.out w1 (Ext.rf _) 1 (by omega)
        clear hn
        go_wp2_with fail
        refine (namesref_May _ _ (by rw [strB_size]; have := HWL.out 1; omega)).mono ?_
        rintro e w2 ⟨rfl, rfl⟩
        cases hW' : mayName (strB (wordAt ws 1)) with
        | false =>
          have hE : Hid (headE s = 7) := Lib.hid (by rw [HE.out, if_pos hW'])
          go_wp2_with fail
          refine bodyPost_ret (ret_cell_tmp rfl rfl (load_fn (set11 D0.out _ _ _ _ _ _ _ _ _ _ _))) rfl ?_
          exact HR.out _ _ _ _ hE.out (by rw [HZ.out _ hE.out (by first | decide | simpa using t9)]; exact zero_head) (ext11 HX1.out (Nat.le_refl _) _ _ _ _ _ _ _ _ _ _ _) rfl
        | true =>
          have HE := Lib.hid (HE.out.trans (if_neg (by rw [hW']; decide)))
          have HS5 : Hid (w.heap.size < w1.heap.size) := Lib.hid (Array.getElem?_eq_some_iff.1 D0.out).1
          go_wp2_with fail
          have D5 := Lib.hid (alloc_new w1 (.cells #[.slice none 0 0, .slice none 0 0, .slice none 0 0, .slice none 0 0] 62))
          have HX2 := Lib.hid ((Ext.rf w1).al (.cells #[.slice none 0 0, .slice none 0 0, .slice none 0 0, .slice none 0 0] 62))
          have D0 := Lib.hid (HX2.out.blk D0.out)
          generalize w1.alloc (.cells #[.slice none 0 0, .slice none 0 0, .slice none 0 0, .slice none 0 0] 62) = w2 at *
          go_loopw [6] (fun i wr => ∃ (k : Nat) (q : Int) (v2 v3 v4 v5 : Value), i = .int .i64 q ∧ q = (k : Int) + 2 ∧ k ≤ 4 ∧ Hid (wr.heap[w1.heap.size]? = some (.cells #[v3, v4, v5, v2] 62)) ∧ Hid (wr.heap[w.heap.size]? = some (.cells #[.string ⟨#[]⟩, .bool false, .slice none 0 0, .slice none 0 0, .slice none 0 0, .slice none 0 0, .slice none 0 0, .slice none 0 0, .slice none 0 0, .slice none 0 0, .slice none 0 0] 35)) ∧ Hid (Four w.heap.size wr ws k v2 v3 v4 v5) ∧ Hid (∀ j, j < k → readE (wordAt ws (2 + j)) = 0) ∧ Hid (Ext w1 wr))
            (fun i _ => 6 - (intOf i).toNat)
          case atStart => exact ⟨0, _, _, _, _, _, rfl, rfl, Nat.zero_le _, D5, D0, Lib.hid (Four.start _ _ _), Lib.hid (fun j hj => absurd hj (Nat.not_lt_zero _)), HX2⟩
          case round =>
            obtain ⟨k, q, v2, v3, v4, v5, rfl, hq, hk, G5, G0, GS, GE, GX⟩ := hrel
            obtain rfl | rfl | rfl | rfl | rfl : k = 0 ∨ k = 1 ∨ k = 2 ∨ k = 3 ∨ k = 4 := by omega
            · obtain rfl : q = 2 := by omega
              clear hq hk
              have hcw := HCW.out _ GX.out 2 (by rw [HNN.out]; omega)
              have HRD := Lib.hid (fun W => sigref_Read (strB (wordAt ws 2)) W (by rw [strB_size]; have := HWL.out 2; omega))
              rw [strB_toL] at HRD
              go_wp2_with fail
              refine (HRD.out _).mono ?_
              rintro e w4 ⟨ao', cap', rfl, hc4, hx4, hcap4, hfr4⟩
              have hfr5 := hfr4.mono (show w.heap.size ≤ wr.heap.size by have := HX1.out.size; have := GX.out.size; omega)
              have G5 := Lib.hid (hx4.blk G5.out)
              have G0 := Lib.hid (hx4.blk G0.out)
              have GS := Lib.hid (GS.out.ext hx4)
              have GX := Lib.hid (GX.out.tr hx4)
              have SV : Hid (SlT w.heap.size w4 (readL (wordAt ws (2 + 0))) (.slice ao' (readL (wordAt ws 2)).length cap')) := Lib.hid ⟨ao', cap', rfl, hc4, hcap4, hfr5⟩
              clear hx4 hc4 hcap4 hfr4 hfr5 HRD hcw
              by_cases hre : readE (wordAt ws 2) = 0
              · have t9 : (readE (wordAt ws 2) != 0) = false := by rw [hre]; rfl
                have GE := Lib.hid (show ∀ j, j < 0 + 1 → readE (wordAt ws (2 + j)) = 0 from fun j hj => by
                  by_cases h : j = 0
                  · rw [h]; exact hre
                  · exact GE.out j (by omega))
                clear hre
                have c5 := blk G5.out 0 rfl
                have z5 := frozen_blk G5.out 0
                go_wp2_with fail
                go_roundw
                case rel => exact ⟨1, _, _, _, _, _, by go_num, by omega, by omega, Lib.hid (set_blk G5.out 0 _), Lib.hid ((Below.heap_setCell _ ⟨w1.heap.size, 0, none⟩ _ _ (show w.heap.size ≠ w1.heap.size by have := HS5.out; omega)).trans G0.out), Lib.hid ((Four.set ⟨GS.out.next SV.out (by decide), noi_box4 G5.out GS.out.1.non GS.out.2.1.non GS.out.2.2.1.non GS.out.2.2.2.non⟩ 0 SV.out.non).1), GE, Lib.hid (Below.setCell GX.out.b (p := ⟨w1.heap.size, 0, none⟩) (Nat.le_refl _) _)⟩
                case measure => simp [intOf]
              · have t9 : (readE (wordAt ws 2) != 0) = true := by rw [bne_iff_ne]; exact hre
                have hE : Hid (headE s = readE (wordAt ws 2)) := Lib.hid (by rw [HE.out, errT_bad (k := 0) (by rw [HNN.out]; omega) GE.out hre])
                have HX4 := Lib.hid (HX1.out.tr GX.out)
                have e0 := blk G0.out 0 rfl
                have e1 := blk G0.out 1 rfl
                have e2 := blk G0.out 2 rfl
                have e3 := blk G0.out 3 rfl
                have e4 := blk G0.out 4 rfl
                have e5 := blk G0.out 5 rfl
                have e6 := blk G0.out 6 rfl
                have e7 := blk G0.out 7 rfl
                have e8 := blk G0.out 8 rfl
                have e9 := blk G0.out 9 rfl
                have e10 := blk G0.out 10 rfl
                have f0 := frozen_blk G0.out 0
                have f1 := frozen_blk G0.out 1
                have f2 := frozen_blk G0.out 2
                have f3 := frozen_blk G0.out 3
                have f4 := frozen_blk G0.out 4
                have f5 := frozen_blk G0.out 5
                have f6 := frozen_blk G0.out 6
                have f7 := frozen_blk G0.out 7
                have f8 := frozen_blk G0.out 8
                have f9 := frozen_blk G0.out 9
                have f10 := frozen_blk G0.out 10
                clear hre
                go_wp2_with fail
                refine bodyPost_ret (ret_cell_tmp rfl rfl (load_fn (set11 G0.out _ _ _ _ _ _ _ _ _ _ _))) rfl ?_
                exact HR.out _ _ _ _ hE.out (by rw [HZ.out _ hE.out (by first | decide | simpa using t9)]; exact zero_head) (ext11 HX4.out (Nat.le_refl _) _ _ _ _ _ _ _ _ _ _ _) rfl
            · obtain rfl : q = 3 := by omega
              clear hq hk
              have hcw := HCW.out _ GX.out 3 (by rw [HNN.out]; omega)
              have HRD := Lib.hid (fun W => sigref_Read (strB (wordAt ws 3)) W (by rw [strB_size]; have := HWL.out 3; omega))
              rw [strB_toL] at HRD
              go_wp2_with fail
              refine (HRD.out _).mono ?_
              rintro e w4 ⟨ao', cap', rfl, hc4, hx4, hcap4, hfr4⟩
              have hfr5 := hfr4.mono (show w.heap.size ≤ wr.heap.size by have := HX1.out.size; have := GX.out.size; omega)
              have G5 := Lib.hid (hx4.blk G5.out)
              have G0 := Lib.hid (hx4.blk G0.out)
              have GS := Lib.hid (GS.out.ext hx4)
              have GX := Lib.hid (GX.out.tr hx4)
              have SV : Hid (SlT w.heap.size w4 (readL (wordAt ws (2 + 1))) (.slice ao' (readL (wordAt ws 3)).length cap')) := Lib.hid ⟨ao', cap', rfl, hc4, hcap4, hfr5⟩
              clear hx4 hc4 hcap4 hfr4 hfr5 HRD hcw
              by_cases hre : readE (wordAt ws 3) = 0
              · have t9 : (readE (wordAt ws 3) != 0) = false := by rw [hre]; rfl
                have GE := Lib.hid (show ∀ j, j < 1 + 1 → readE (wordAt ws (2 + j)) = 0 from fun j hj => by
                  by_cases h : j = 1
                  · rw [h]; exact hre
                  · exact GE.out j (by omega))
                clear hre
                have c5 := blk G5.out 1 rfl
                have z5 := frozen_blk G5.out 1
                go_wp2_with fail
                go_roundw
                case rel => exact ⟨2, _, _, _, _, _, by go_num, by omega, by omega, Lib.hid (set_blk G5.out 1 _), Lib.hid ((Below.heap_setCell _ ⟨w1.heap.size, 1, none⟩ _ _ (show w.heap.size ≠ w1.heap.size by have := HS5.out; omega)).trans G0.out), Lib.hid ((Four.set ⟨GS.out.next SV.out (by decide), noi_box4 G5.out GS.out.1.non GS.out.2.1.non GS.out.2.2.1.non GS.out.2.2.2.non⟩ 1 SV.out.non).1), GE, Lib.hid (Below.setCell GX.out.b (p := ⟨w1.heap.size, 1, none⟩) (Nat.le_refl _) _)⟩
                case measure => simp [intOf]
              · have t9 : (readE (wordAt ws 3) != 0) = true := by rw [bne_iff_ne]; exact hre
                have hE : Hid (headE s = readE (wordAt ws 3)) := Lib.hid (by rw [HE.out, errT_bad (k := 1) (by rw [HNN.out]; omega) GE.out hre])
                have HX4 := Lib.hid (HX1.out.tr GX.out)
                have e0 := blk G0.out 0 rfl
                have e1 := blk G0.out 1 rfl
                have e2 := blk G0.out 2 rfl
                have e3 := blk G0.out 3 rfl
                have e4 := blk G0.out 4 rfl
                have e5 := blk G0.out 5 rfl
                have e6 := blk G0.out 6 rfl
                have e7 := blk G0.out 7 rfl
                have e8 := blk G0.out 8 rfl
                have e9 := blk G0.out 9 rfl
                have e10 := blk G0.out 10 rfl
                have f0 := frozen_blk G0.out 0
                have f1 := frozen_blk G0.out 1
                have f2 := frozen_blk G0.out 2
                have f3 := frozen_blk G0.out 3
                have f4 := frozen_blk G0.out 4
                have f5 := frozen_blk G0.out 5
                have f6 := frozen_blk G0.out 6
                have f7 := frozen_blk G0.out 7
                have f8 := frozen_blk G0.out 8
                have f9 := frozen_blk G0.out 9
                have f10 := frozen_blk G0.out 10
                clear hre
                go_wp2_with fail
                refine bodyPost_ret (ret_cell_tmp rfl rfl (load_fn (set11 G0.out _ _ _ _ _ _ _ _ _ _ _))) rfl ?_
                exact HR.out _ _ _ _ hE.out (by rw [HZ.out _ hE.out (by first | decide | simpa using t9)]; exact zero_head) (ext11 HX4.out (Nat.le_refl _) _ _ _ _ _ _ _ _ _ _ _) rfl
            · obtain rfl : q = 4 := by omega
              clear hq hk
              have hcw := HCW.out _ GX.out 4 (by rw [HNN.out]; omega)
              have HRD := Lib.hid (fun W => sigref_Read (strB (wordAt ws 4)) W (by rw [strB_size]; have := HWL.out 4; omega))
              rw [strB_toL] at HRD
              go_wp2_with fail
              refine (HRD.out _).mono ?_
              rintro e w4 ⟨ao', cap', rfl, hc4, hx4, hcap4, hfr4⟩
              have hfr5 := hfr4.mono (show w.heap.size ≤ wr.heap.size by have := HX1.out.size; have := GX.out.size; omega)
              have G5 := Lib.hid (hx4.blk G5.out)
              have G0 := Lib.hid (hx4.blk G0.out)
              have GS := Lib.hid (GS.out.ext hx4)
              have GX := Lib.hid (GX.out.tr hx4)
              have SV : Hid (SlT w.heap.size w4 (readL (wordAt ws (2 + 2))) (.slice ao' (readL (wordAt ws 4)).length cap')) := Lib.hid ⟨ao', cap', rfl, hc4, hcap4, hfr5⟩
              clear hx4 hc4 hcap4 hfr4 hfr5 HRD hcw
              by_cases hre : readE (wordAt ws 4) = 0
              · have t9 : (readE (wordAt ws 4) != 0) = false := by rw [hre]; rfl
                have GE := Lib.hid (show ∀ j, j < 2 + 1 → readE (wordAt ws (2 + j)) = 0 from fun j hj => by
                  by_cases h : j = 2
                  · rw [h]; exact hre
                  · exact GE.out j (by omega))
                clear hre
                have c5 := blk G5.out 2 rfl
                have z5 := frozen_blk G5.out 2
                go_wp2_with fail
                go_roundw
                case rel => exact ⟨3, _, _, _, _, _, by go_num, by omega, by omega, Lib.hid (set_blk G5.out 2 _), Lib.hid ((Below.heap_setCell _ ⟨w1.heap.size, 2, none⟩ _ _ (show w.heap.size ≠ w1.heap.size by have := HS5.out; omega)).trans G0.out), Lib.hid ((Four.set ⟨GS.out.next SV.out (by decide), noi_box4 G5.out GS.out.1.non GS.out.2.1.non GS.out.2.2.1.non GS.out.2.2.2.non⟩ 2 SV.out.non).1), GE, Lib.hid (Below.setCell GX.out.b (p := ⟨w1.heap.size, 2, none⟩) (Nat.le_refl _) _)⟩
                case measure => simp [intOf]
              · have t9 : (readE (wordAt ws 4) != 0) = true := by rw [bne_iff_ne]; exact hre
                have hE : Hid (headE s = readE (wordAt ws 4)) := Lib.hid (by rw [HE.out, errT_bad (k := 2) (by rw [HNN.out]; omega) GE.out hre])
                have HX4 := Lib.hid (HX1.out.tr GX.out)
                have e0 := blk G0.out 0 rfl
                have e1 := blk G0.out 1 rfl
                have e2 := blk G0.out 2 rfl
                have e3 := blk G0.out 3 rfl
                have e4 := blk G0.out 4 rfl
                have e5 := blk G0.out 5 rfl
                have e6 := blk G0.out 6 rfl
                have e7 := blk G0.out 7 rfl
                have e8 := blk G0.out 8 rfl
                have e9 := blk G0.out 9 rfl
                have e10 := blk G0.out 10 rfl
                have f0 := frozen_blk G0.out 0
                have f1 := frozen_blk G0.out 1
                have f2 := frozen_blk G0.out 2
                have f3 := frozen_blk G0.out 3
                have f4 := frozen_blk G0.out 4
                have f5 := frozen_blk G0.out 5
                have f6 := frozen_blk G0.out 6
                have f7 := frozen_blk G0.out 7
                have f8 := frozen_blk G0.out 8
                have f9 := frozen_blk G0.out 9
                have f10 := frozen_blk G0.out 10
                clear hre
                go_wp2_with fail
                refine bodyPost_ret (ret_cell_tmp rfl rfl (load_fn (set11 G0.out _ _ _ _ _ _ _ _ _ _ _))) rfl ?_
                exact HR.out _ _ _ _ hE.out (by rw [HZ.out _ hE.out (by first | decide | simpa using t9)]; exact zero_head) (ext11 HX4.out (Nat.le_refl _) _ _ _ _ _ _ _ _ _ _ _) rfl
            · obtain rfl : q = 5 := by omega
              clear hq hk
              have hcw := HCW.out _ GX.out 5 (by rw [HNN.out]; omega)
              have HRD := Lib.hid (fun W => sigref_Read (strB (wordAt ws 5)) W (by rw [strB_size]; have := HWL.out 5; omega))
              rw [strB_toL] at HRD
              go_wp2_with fail
              refine (HRD.out _).mono ?_
              rintro e w4 ⟨ao', cap', rfl, hc4, hx4, hcap4, hfr4⟩
              have hfr5 := hfr4.mono (show w.heap.size ≤ wr.heap.size by have := HX1.out.size; have := GX.out.size; omega)
              have G5 := Lib.hid (hx4.blk G5.out)
              have G0 := Lib.hid (hx4.blk G0.out)
              have GS := Lib.hid (GS.out.ext hx4)
              have GX := Lib.hid (GX.out.tr hx4)
              have SV : Hid (SlT w.heap.size w4 (readL (wordAt ws (2 + 3))) (.slice ao' (readL (wordAt ws 5)).length cap')) := Lib.hid ⟨ao', cap', rfl, hc4, hcap4, hfr5⟩
              clear hx4 hc4 hcap4 hfr4 hfr5 HRD hcw
              by_cases hre : readE (wordAt ws 5) = 0
              · have t9 : (readE (wordAt ws 5) != 0) = false := by rw [hre]; rfl
                have GE := Lib.hid (show ∀ j, j < 3 + 1 → readE (wordAt ws (2 + j)) = 0 from fun j hj => by
                  by_cases h : j = 3
                  · rw [h]; exact hre
                  · exact GE.out j (by omega))
                clear hre
                have c5 := blk G5.out 3 rfl
                have z5 := frozen_blk G5.out 3
                go_wp2_with fail
                go_roundw
                case rel => exact ⟨4, _, _, _, _, _, by go_num, by omega, by omega, Lib.hid (set_blk G5.out 3 _), Lib.hid ((Below.heap_setCell _ ⟨w1.heap.size, 3, none⟩ _ _ (show w.heap.size ≠ w1.heap.size by have := HS5.out; omega)).trans G0.out), Lib.hid ((Four.set ⟨GS.out.next SV.out (by decide), noi_box4 G5.out GS.out.1.non GS.out.2.1.non GS.out.2.2.1.non GS.out.2.2.2.non⟩ 3 SV.out.non).1), GE, Lib.hid (Below.setCell GX.out.b (p := ⟨w1.heap.size, 3, none⟩) (Nat.le_refl _) _)⟩
                case measure => simp [intOf]
              · have t9 : (readE (wordAt ws 5) != 0) = true := by rw [bne_iff_ne]; exact hre
                have hE : Hid (headE s = readE (wordAt ws 5)) := Lib.hid (by rw [HE.out, errT_bad (k := 3) (by rw [HNN.out]; omega) GE.out hre])
                have HX4 := Lib.hid (HX1.out.tr GX.out)
                have e0 := blk G0.out 0 rfl
                have e1 := blk G0.out 1 rfl
                have e2 := blk G0.out 2 rfl
                have e3 := blk G0.out 3 rfl
                have e4 := blk G0.out 4 rfl
                have e5 := blk G0.out 5 rfl
                have e6 := blk G0.out 6 rfl
                have e7 := blk G0.out 7 rfl
                have e8 := blk G0.out 8 rfl
                have e9 := blk G0.out 9 rfl
                have e10 := blk G0.out 10 rfl
                have f0 := frozen_blk G0.out 0
                have f1 := frozen_blk G0.out 1
                have f2 := frozen_blk G0.out 2
                have f3 := frozen_blk G0.out 3
                have f4 := frozen_blk G0.out 4
                have f5 := frozen_blk G0.out 5
                have f6 := frozen_blk G0.out 6
                have f7 := frozen_blk G0.out 7
                have f8 := frozen_blk G0.out 8
                have f9 := frozen_blk G0.out 9
                have f10 := frozen_blk G0.out 10
                clear hre
                go_wp2_with fail
                refine bodyPost_ret (ret_cell_tmp rfl rfl (load_fn (set11 G0.out _ _ _ _ _ _ _ _ _ _ _))) rfl ?_
                exact HR.out _ _ _ _ hE.out (by rw [HZ.out _ hE.out (by first | decide | simpa using t9)]; exact zero_head) (ext11 HX4.out (Nat.le_refl _) _ _ _ _ _ _ _ _ _ _ _) rfl
            · obtain rfl : q = 6 := by omega
              clear hq hk
              obtain ⟨a2, n2, q2, rfl⟩ := GS.out.1.form
              obtain ⟨a3, n3, q3, rfl⟩ := GS.out.2.1.form
              obtain ⟨a4, n4, q4, rfl⟩ := GS.out.2.2.1.form
              obtain ⟨a5, n5, q5, rfl⟩ := GS.out.2.2.2.form
              have hE : Hid (headE s = 0) := Lib.hid (by rw [HE.out, errT_ok (fun i hi => GE.out i (by have := HNN.out; omega))])
              have HX4 := Lib.hid (HX1.out.tr GX.out)
              have e0 := blk G0.out 0 rfl
              have e1 := blk G0.out 1 rfl
              have e2 := blk G0.out 2 rfl
              have e3 := blk G0.out 3 rfl
              have e4 := blk G0.out 4 rfl
              have e5 := blk G0.out 5 rfl
              have e6 := blk G0.out 6 rfl
              have e7 := blk G0.out 7 rfl
              have e8 := blk G0.out 8 rfl
              have e9 := blk G0.out 9 rfl
              have e10 := blk G0.out 10 rfl
              have f0 := frozen_blk G0.out 0
              have f1 := frozen_blk G0.out 1
              have f2 := frozen_blk G0.out 2
              have f3 := frozen_blk G0.out 3
              have f4 := frozen_blk G0.out 4
              have f5 := frozen_blk G0.out 5
              have f6 := frozen_blk G0.out 6
              have f7 := frozen_blk G0.out 7
              have f8 := frozen_blk G0.out 8
              have f9 := frozen_blk G0.out 9
              have f10 := frozen_blk G0.out 10
              have g0 : wr.cell? ⟨w1.heap.size, 0, none⟩ = some (.slice a3 n3 q3) := blk G5.out 0 rfl
              have g1 : wr.cell? ⟨w1.heap.size, 1, none⟩ = some (.slice a4 n4 q4) := blk G5.out 1 rfl
              have g2 : wr.cell? ⟨w1.heap.size, 2, none⟩ = some (.slice a5 n5 q5) := blk G5.out 2 rfl
              have g3 : wr.cell? ⟨w1.heap.size, 3, none⟩ = some (.slice a2 n2 q2) := blk G5.out 3 rfl
              have gw := HCW.out _ GX.out 1 (by rw [HNN.out]; omega)
              have HV : Hid (Four w.heap.size wr ws 4 (.slice a2 n2 q2) (.slice a3 n3 q3) (.slice a4 n4 q4) (.slice a5 n5 q5) ∧ NoI wr w.heap.size) := Lib.hid ⟨GS.out, noi_box G0.out nonI_nil nonI_nil nonI_nil nonI_nil⟩
              have m1 : b ≠ w.heap.size := fun e => by
                have h2 := HCW.out _ GX.out 2 (by rw [HNN.out]; omega)
                rw [e, cell_of_row _ _ _ _ _ _ G0.out] at h2
                have h3 : off + 2 < 11 := by have := (Array.getElem?_eq_some_iff.1 h2).1; simpa using this
                obtain h | h | h | h | h | h | h | h | h : off = 0 ∨ off = 1 ∨ off = 2 ∨ off = 3 ∨ off = 4 ∨ off = 5 ∨ off = 6 ∨ off = 7 ∨ off = 8 := by omega
                all_goals (subst h; simp at h2)
              have m2 : w1.heap.size ≠ w.heap.size := by have := HS5.out; omega
              go_wp2_with fail
              go_region_held3 (fun w' => w'.cell? ⟨b, off + 1, none⟩ = some (.string (strB (wordAt ws 1))) ∧ w'.cell? ⟨w1.heap.size, 0, none⟩ = some (.slice a3 n3 q3) ∧ w'.cell? ⟨w1.heap.size, 1, none⟩ = some (.slice a4 n4 q4) ∧ w'.cell? ⟨w1.heap.size, 2, none⟩ = some (.slice a5 n5 q5) ∧ w'.cell? ⟨w1.heap.size, 3, none⟩ = some (.slice a2 n2 q2)) (refine ⟨?_, ?_, ?_, ?_, ?_⟩ <;> go_simp) (fail)
              go_wp2
              have HV := Lib.hid (Four.set (Four.set (Four.set (Four.set (Four.set (Four.set (Four.set (Four.set (Four.set (Four.set (Four.set (HV.out) 0 (nonI_str (s := strB (wordAt ws 1)))) 1 (nonI_bool (b := true))) 2 GS.out.1.non) 3 GS.out.2.1.non) 4 GS.out.2.2.1.non) 5 GS.out.2.2.2.non) 6 nonI_nil) 7 nonI_nil) 8 nonI_nil) 9 nonI_nil) 10 nonI_nil)
              have HD := Lib.hid (set11 G0.out (.string (strB (wordAt ws 1))) (.bool true) (.slice a2 n2 q2) (.slice a3 n3 q3) (.slice a4 n4 q4) (.slice a5 n5 q5) (.slice none 0 0) (.slice none 0 0) (.slice none 0 0) (.slice none 0 0) (.slice none 0 0))
              have HXE := Lib.hid (ext11 HX4.out (Nat.le_refl _) (.string (strB (wordAt ws 1))) (.bool true) (.slice a2 n2 q2) (.slice a3 n3 q3) (.slice a4 n4 q4) (.slice a5 n5 q5) (.slice none 0 0) (.slice none 0 0) (.slice none 0 0) (.slice none 0 0) (.slice none 0 0))
              generalize (((((((((((wr.setCell ⟨w.heap.size, 0, none⟩ (.string (strB (wordAt ws 1)))).setCell ⟨w.heap.size, 1, none⟩ (.bool true)).setCell ⟨w.heap.size, 2, none⟩ (.slice a2 n2 q2)).setCell ⟨w.heap.size, 3, none⟩ (.slice a3 n3 q3)).setCell ⟨w.heap.size, 4, none⟩ (.slice a4 n4 q4)).setCell ⟨w.heap.size, 5, none⟩ (.slice a5 n5 q5)).setCell ⟨w.heap.size, 6, none⟩ (.slice none 0 0)).setCell ⟨w.heap.size, 7, none⟩ (.slice none 0 0)).setCell ⟨w.heap.size, 8, none⟩ (.slice none 0 0)).setCell ⟨w.heap.size, 9, none⟩ (.slice none 0 0)).setCell ⟨w.heap.size, 10, none⟩ (.slice none 0 0)) = Wz at *
              refine bodyPost_ret (ret_cell_tmp rfl rfl (load_fn (W := Wz.drew) HD.out)) rfl ?_
              refine HR.out _ _ _ _ hE.out ?_ HXE.out.dr rfl
              rw [HF.out, if_pos hE.out]
              rw [if_pos HNN.out, show decide (ws.length = 6) = true from decide_eq_true HNN.out]
              have HV := HV.out.1.ext (Ext.rf _).dr
              exact fn_head HV.1 HV.2.1 HV.2.2.1 HV.2.2.2
  · have t1 : ((strB (wordAt ws 0)).toList == [102, 117, 110, 99]) = false := by
      rw [beq_eq_false_iff_ne, ByteArray.toList_eq, strB_toL]; exact ha
    have hE : Hid (headE s = 19) := Lib.hid (by rw [HE.out, if_pos]; exact decide_eq_true (.inl ha))
    clear ha
    go_wp2_with fail
    refine bodyPost_ret (ret_cell_tmp rfl rfl (load_fn (set11 D0.out _ _ _ _ _ _ _ _ _ _ _))) rfl ?_
    exact HR.out _ _ _ _ hE.out (by rw [HZ.out _ hE.out (by first | decide | simpa using t9)]; exact zero_head) (ext11 HX1.out (Nat.le_refl _) _ _ _ _ _ _ _ _ _ _ _) rfl
end Go.Proofs.YtkdnbnkbnegckaaGreatDoor
