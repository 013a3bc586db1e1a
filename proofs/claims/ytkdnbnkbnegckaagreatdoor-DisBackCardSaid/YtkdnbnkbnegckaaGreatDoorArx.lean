/- (*asm.reader).read within a function, walked. -/
import Derived.Test.YtkdnbnkbnegckaaGreatDoorArw
namespace Go.Proofs.YtkdnbnkbnegckaaGreatDoor
open Go.RowKit
set_option maxRecDepth 20000
set_option linter.unusedVariables false
theorem StepX.growC {X : Nat → Prop} {A B C : World} {v v' : Value} (h : StepX X A B) (hg : Grow B C v v') (hX : ∀ k, v.ownBlock = some k → X k) : StepX X A C :=
  h.trans ⟨hg.os, hg.tape, hg.output, hg.size, fun k hk hx => hg.block k hk fun e => hx (hX k e.symm)⟩
theorem row_cell {W : World} {base : Nat} {e : TypeId} {sz n cap g : Nat} {xs : List Value} (h : W.ownsRow base e sz (.slice (some ⟨g, 0, none⟩) n cap) n xs) {j : Nat} {u : Value} (hj : xs[j]? = some u) : W.cell? ⟨g, j, none⟩ = some u := by
  obtain ⟨ao, c, he, -, -, hC⟩ := Cells.own h
  cases he
  have := hC.cell g 0 rfl j u hj
  rwa [Nat.zero_add] at this
theorem cells_blk {W : World} {g : Nat} {cs : List Value} {t : TypeId} {fz : Nat × Nat} (h : W.heap[g]? = some (.cells cs.toArray t fz)) : Cells W (some ⟨g, 0, none⟩) cs :=
  ⟨fun _ => ⟨g, 0, rfl⟩, fun b off e j u hj => by
    cases e
    rw [Nat.zero_add]
    exact blk h j (by simpa using hj)⟩
theorem own_not_blk {W : World} {base n sz : Nat} {e : TypeId} {v : Value} {xs : List Value} (h : W.ownsRow base e sz v n xs) {b : Nat} {cs : Array Value} {t : TypeId} {fz : Nat × Nat} (ht : e ≠ t) (hb : v.ownBlock = some b) (hc : W.heap[b]? = some (.cells cs t fz)) : False := by
  obtain ⟨-, ⟨rfl, -⟩ | ⟨g, cap, cur, rfl, -, hg, -⟩⟩ := h
  · cases hb
  cases hb
  rw [hg] at hc
  cases hc
  exact ht rfl
set_option maxHeartbeats 8000000 in
theorem read_some (lo r : Nat) (fs : List Fn) (f : Fn) (s : List UInt8) (m : Int) (W : World) (hr : r < lo + 7) (hlo : lo + 7 ≤ W.heap.size) (hm : W.cell? ⟨0, 0, none⟩ = some (.int .i64 m)) (hl : s.length ≤ 1000000) (hN : fs.length ≤ 1000000) (hCl : (codeOf f).length ≤ 1000000) (hLl : (linesOfF f).length ≤ 1000000) (hs : s ≠ []) (h : RInv lo r W (fs, some f)) :
    Calls Tryz.prog 42 #[.pointer (some ⟨r, 0, none⟩), .string (strB s)] W (ReadR lo r (fs, some f) s W) := by
  obtain ⟨who, v, css, ocs, hI⟩ := h
  obtain ⟨v2, v3, v4, v5, vc, vl, ho⟩ := hI.opn f rfl
  have HI := Lib.hid hI
  have HO := Lib.hid ho
  have HLN := Lib.hid (asm_Line s m W hm (by omega))
  have t0 : (strB s).toList.isEmpty = false := by
    rw [ByteArray.toList_eq, strB_toL]
    cases s with
    | nil => exact absurd rfl hs
    | cons => rfl
  have b1 : W.cell? ⟨r, 1, none⟩ = some (.bool true) := blk hI.box 1 rfl
  have f1 := frozen_blk hI.box 1
  have HR : Hid (∀ e W', (s = endW → e = .returned (.int .i64 0) → RInv lo r W' (fs ++ [f], none) → StepX (Xr lo r) W W' → ReadR lo r (fs, some f) s W e W') ∧ (s ≠ endW → (lineI s).2.2 ≠ 0 → e = .returned (.int .i64 (lineI s).2.2) → RInv lo r W' (fs, some f) → StepX (Xr lo r) W W' → ReadR lo r (fs, some f) s W e W') ∧ (s ≠ endW → (lineI s).2.2 = 0 → e = .returned (.int .i64 0) → RInv lo r W' (fs, some (addLine f (lineI s).1 (lineI s).2.1)) → StepX (Xr lo r) W W' → ReadR lo r (fs, some f) s W e W')) := Lib.hid fun e W' => by
    have e1 : readStep (fs, some f) s = if s = endW then ((fs ++ [f], none), 0) else if (lineI s).2.2 = 0 then ((fs, some (addLine f (lineI s).1 (lineI s).2.1)), 0) else ((fs, some f), (lineI s).2.2) := by unfold readStep; rw [if_neg hs]
    refine ⟨fun h1 h2 h3 h4 => ?_, fun h0 h1 h2 h3 h4 => ?_, fun h0 h1 h2 h3 h4 => ?_⟩
    · unfold ReadR; rw [e1, if_pos h1]; exact ⟨h2, h3, h4⟩
    · unfold ReadR; rw [e1, if_neg h0, if_neg h1]; exact ⟨h2, h3, h4⟩
    · unfold ReadR; rw [e1, if_neg h0, if_pos h1]; exact ⟨h2, h3, h4⟩
  have hq : ∀ P, ReadR lo r (fs, some f) s W = P → ReadR lo r (fs, some f) s W = P := fun _ h => h
  generalize ReadR lo r (fs, some f) s W = RH at *
  clear hq hI ho hs
  by_cases he : s = endW
  · have t2 : ((strB s).toList == [101, 110, 100]) = true := by rw [beq_iff_eq, ByteArray.toList_eq, strB_toL]; exact he
    have HE := Lib.hid he
    clear he HLN
    go_enter Tryz.func42, Tryz.ntmps42
    go_wp2_with fail
    exact (HR.out _ _).1 HE.out rfl (RI.fin HI.out hr _ rfl) ((StepX.refl _ _).set (.inl rfl) _ _)
  · have t2 : ((strB s).toList == [101, 110, 100]) = false := by rw [beq_eq_false_iff_ne, ByteArray.toList_eq, strB_toL]; exact he
    have HE := Lib.hid he
    clear he
    go_enter Tryz.func42, Tryz.ntmps42
    go_wp2_with fail
    refine HLN.out.mono ?_
    rintro e W1 ⟨rfl, hx⟩
    have HX := Lib.hid hx
    clear b1 f1 t0 t2 HLN hx
    generalize hL : lineI s = L at *
    obtain ⟨⟨i1, i2⟩, ln, er⟩ := L
    dsimp only
    by_cases h0 : er = 0
    · subst h0
      obtain ⟨g, cv, rfl⟩ := own_some (n := fs.length + 1) (by have := HI.out.row; simpa using this) (by omega)
      have hTT := alloc_new W1 (.cells #[.int .i64 i1, .int .i64 i2] 25)
      have HXA := Lib.hid ((Ext.rf W1).al (.cells #[.int .i64 i1, .int .i64 i2] 25))
      have hBB := HXA.out.blk (HX.out.blk HI.out.box)
      have c0 := blk hBB 0 rfl
      have i0 : (0 : Int) ≤ (fs.length : Int) := by omega
      have i3 : (fs.length : Int) < (fs.length : Int) + 1 := by omega
      have hwr : IntKind.i64.wrap (fs.length : Int) = (fs.length : Int) := wi64 (by omega) (by omega)
      have HROW : Hid (W.ownsRow (lo + 7) 35 11 (.slice (some ⟨g, 0, none⟩) (fs.length + 1) cv) (fs.length + 1) (css.flatten ++ ocs)) := Lib.hid (by have := HI.out.row; simpa using this)
      go_wp2_with fail
      have HSA : Hid ((W1.alloc (.cells #[.int .i64 i1, .int .i64 i2] 25)).heap.size = W1.heap.size + 1) := Lib.hid (by simp)
      have HTT := Lib.hid hTT
      have HBB := Lib.hid hBB
      clear hTT hBB
      generalize hW2 : W1.alloc (.cells #[.int .i64 i1, .int .i64 i2] 25) = W2 at *
      clear hW2
      go_region_held3 (fun w' => w'.cell? ⟨r, 0, none⟩ = some (.slice (some ⟨g, 0, none⟩) (fs.length + 1) cv)) (first | exact c0 | go_simp) (fail)
      go_wp2_with fail
      obtain ⟨ac, cc, rfl⟩ := own_form HO.out.rc
      obtain ⟨al, cl, rfl⟩ := own_form HO.out.rl
      have HXD : Hid (Ext W W2.drew.drew) := Lib.hid ((HX.out.tr HXA.out).dr.dr)
      have HSZ : Hid (lo + 7 ≤ W2.drew.drew.heap.size) := Lib.hid (by have := HXD.out.size; omega)
      have HOC : Hid (W2.drew.drew.ownsRow (lo + 7) 25 2 (.slice ac (codeOf f).length cc) (codeOf f).length ((codeOf f).flatMap pairV)) := Lib.hid (own_ext HO.out.rc HXD.out)
      have HOL : Hid (W2.drew.drew.ownsRow (lo + 7) 3 1 (.slice al (linesOfF f).length cl) (linesOfF f).length ((linesOfF f).map (.int .i64))) := Lib.hid (own_ext HO.out.rl HXD.out)
      have HOR : Hid (W2.drew.drew.ownsRow (lo + 7) 35 11 (.slice (some ⟨g, 0, none⟩) (fs.length + 1) cv) (fs.length + 1) (css.flatten ++ ocs)) := Lib.hid (own_ext HROW.out HXD.out)
      have HT0 : Hid (W2.drew.drew.heap[W1.heap.size]? = some (.cells #[.int .i64 i1, .int .i64 i2] 25 (0, 0))) := HTT
      have HWT : Hid (W.heap.size ≤ W1.heap.size) := Lib.hid HX.out.size
      have HFL := Lib.hid (flat_len11 HI.out.len HI.out.don)
      have H6 : Hid ((css.flatten ++ ocs)[fs.length * 11 + 6]? = some (.slice ac (codeOf f).length cc)) := Lib.hid (by rw [← HFL.out, List.getElem?_append_right (by omega), Nat.add_sub_cancel_left, HO.out.cells]; rfl)
      have H7 : Hid ((css.flatten ++ ocs)[fs.length * 11 + 7]? = some (.slice al (linesOfF f).length cl)) := Lib.hid (by rw [← HFL.out, List.getElem?_append_right (by omega), Nat.add_sub_cancel_left, HO.out.cells]; rfl)
      have HLD : Hid (∀ X, StepX (fun b => Value.ownBlock (.slice ac (codeOf f).length cc) = some b ∨ Value.ownBlock (.slice al (linesOfF f).length cl) = some b) W2.drew.drew X → X.cell? ⟨g, fs.length * 11 + 6, none⟩ = some (.slice ac (codeOf f).length cc) ∧ X.cell? ⟨g, fs.length * 11 + 7, none⟩ = some (.slice al (linesOfF f).length cl) ∧ X.heap[W1.heap.size]? = some (.cells #[.int .i64 i1, .int .i64 i2] 25 (0, 0)) ∧ X.ownsRow (lo + 7) 35 11 (.slice (some ⟨g, 0, none⟩) (fs.length + 1) cv) (fs.length + 1) (css.flatten ++ ocs)) := Lib.hid fun X hS => by
        have hg : Value.ownBlock (.slice (some ⟨g, 0, none⟩) (fs.length + 1) cv) = some g := rfl
        have hrow := own_keep (W' := X) HOR.out fun b hb => hS.block b (HOR.out.lt b hb).2 fun h => by
          rcases h with h | h
          · exact own_ne HOR.out HOC.out (by decide) hb h
          · exact own_ne HOR.out HOL.out (by decide) hb h
        refine ⟨row_cell hrow H6.out, row_cell hrow H7.out, (hS.block _ (Array.getElem?_eq_some_iff.1 HT0.out).1 fun h => ?_).trans HT0.out, hrow⟩
        rcases h with h | h
        · have := (HO.out.rc.lt _ h).2
          have := HWT.out
          omega
        · have := (HO.out.rl.lt _ h).2
          have := HWT.out
          omega
      have hS0 : StepX (fun b => Value.ownBlock (.slice ac (codeOf f).length cc) = some b ∨ Value.ownBlock (.slice al (linesOfF f).length cl) = some b) W2.drew.drew W2.drew.drew := StepX.refl _ _
      have hOC := HOC.out
      have hOL := HOL.out
      have HNB0 : Hid (W2.drew.drew.heap.size = W2.drew.drew.heap.size) := rfl
      clear HTT HBB c0
      refine wp_region_L 18 (fun W => StepX (fun b => Value.ownBlock (.slice ac (codeOf f).length cc) = some b ∨ Value.ownBlock (.slice al (linesOfF f).length cl) = some b) W2.drew.drew W) (by kernel_rfl) hS0 (fun hS => ?_)
      generalize hWD : W2.drew.drew = WD at *
      refine takeL_op 0 (v := ?_) rfl rfl (by kernel_rfl) (by kernel_rfl) (by kernel_rfl) (by kernel_rfl) (Or.inl ⟨by rfl, ?_⟩) (by assumption) ?_
      rotate_left 1
      · (intro W hS; go_simp; try with_reducible rfl)
      (try simp only [Act.put, List.setIfInBounds_toArray, List.set_cons_zero, List.set_cons_succ])
      refine takeLY_op 1 (v := ?_) rfl (by decide) (by kernel_rfl) (by kernel_rfl) (by kernel_rfl) (Or.inl ⟨by rfl, ?_⟩) (by assumption) ?_
      rotate_left 1
      · (intro W; go_simp; try with_reducible rfl)
      (try simp only [Act.put, List.setIfInBounds_toArray, List.set_cons_zero, List.set_cons_succ])
      refine takeL_op 2 (v := ?_) rfl rfl (by kernel_rfl) (by kernel_rfl) (by kernel_rfl) (by kernel_rfl) (Or.inl ⟨by rfl, ?_⟩) (by assumption) ?_
      rotate_left 1
      · (intro W hS; go_simp; try with_reducible rfl)
      (try simp only [Act.put, List.setIfInBounds_toArray, List.set_cons_zero, List.set_cons_succ])
      refine takeL_op 3 (v := ?_) rfl rfl (by kernel_rfl) (by kernel_rfl) (by kernel_rfl) (by kernel_rfl) (Or.inl ⟨by rfl, ?_⟩) (by assumption) ?_
      rotate_left 1
      · (intro W hS; go_simp; try with_reducible rfl)
      (try simp only [Act.put, List.setIfInBounds_toArray, List.set_cons_zero, List.set_cons_succ])
      refine takeL_op 4 (v := ?_) rfl rfl (by kernel_rfl) (by kernel_rfl) (by kernel_rfl) (by kernel_rfl) (Or.inl ⟨by rfl, ?_⟩) (by assumption) ?_
      rotate_left 1
      · (intro W hS; go_simp; try with_reducible rfl)
      (try simp only [Act.put, List.setIfInBounds_toArray, List.set_cons_zero, List.set_cons_succ])
      refine takeL_op 5 (v := ?_) rfl rfl (by kernel_rfl) (by kernel_rfl) (by kernel_rfl) (by kernel_rfl) (Or.inl ⟨by rfl, ?_⟩) (by assumption) ?_
      rotate_left 1
      · (intro W hS; obtain ⟨c6, c7, hT, -⟩ := HLD.out _ hS; have cT0 := blk hT 0 rfl; have cT1 := blk hT 1 rfl; go_simp; try with_reducible rfl)
      (try simp only [Act.put, List.setIfInBounds_toArray, List.set_cons_zero, List.set_cons_succ])
      refine takeL_op 6 (v := ?_) rfl rfl (by kernel_rfl) (by kernel_rfl) (by kernel_rfl) (by kernel_rfl) (Or.inl ⟨by rfl, ?_⟩) (by assumption) ?_
      rotate_left 1
      · (intro W hS; obtain ⟨c6, c7, hT, -⟩ := HLD.out _ hS; have cT0 := blk hT 0 rfl; have cT1 := blk hT 1 rfl; go_simp; try with_reducible rfl)
      (try simp only [Act.put, List.setIfInBounds_toArray, List.set_cons_zero, List.set_cons_succ])
      refine takeLY_op 9 (v := ?_) rfl (by decide) (by kernel_rfl) (by kernel_rfl) (by kernel_rfl) (Or.inl ⟨by rfl, ?_⟩) (by assumption) ?_
      rotate_left 1
      · (intro W; go_simp; try with_reducible rfl)
      (try simp only [Act.put, List.setIfInBounds_toArray, List.set_cons_zero, List.set_cons_succ])
      refine takeLY_op 10 (v := ?_) rfl (by decide) (by kernel_rfl) (by kernel_rfl) (by kernel_rfl) (Or.inl ⟨by rfl, ?_⟩) (by assumption) ?_
      rotate_left 1
      · (intro W; go_simp; try with_reducible rfl)
      (try simp only [Act.put, List.setIfInBounds_toArray, List.set_cons_zero, List.set_cons_succ])
      refine takeLY_op 11 (v := ?_) rfl (by decide) (by kernel_rfl) (by kernel_rfl) (by kernel_rfl) (Or.inl ⟨by rfl, ?_⟩) (by assumption) ?_
      rotate_left 1
      · (intro W; go_simp; try with_reducible rfl)
      (try simp only [Act.put, List.setIfInBounds_toArray, List.set_cons_zero, List.set_cons_succ])
      refine takeL_op 12 (v := ?_) rfl rfl (by kernel_rfl) (by kernel_rfl) (by kernel_rfl) (by kernel_rfl) (Or.inl ⟨by rfl, ?_⟩) (by assumption) ?_
      rotate_left 1
      · (intro W hS; obtain ⟨c6, c7, hT, -⟩ := HLD.out _ hS; have cT0 := blk hT 0 rfl; have cT1 := blk hT 1 rfl; go_simp; try with_reducible rfl)
      (try simp only [Act.put, List.setIfInBounds_toArray, List.set_cons_zero, List.set_cons_succ])
      refine takeLY_op 13 (v := ?_) rfl (by decide) (by kernel_rfl) (by kernel_rfl) (by kernel_rfl) (Or.inl ⟨by rfl, ?_⟩) (by assumption) ?_
      rotate_left 1
      · (intro W; go_simp; try with_reducible rfl)
      (try simp only [Act.put, List.setIfInBounds_toArray, List.set_cons_zero, List.set_cons_succ])
      refine doL_op2 7 14 rfl rfl (by decide) (by decide) (by kernel_rfl) (fun K hK => ?_) (fun K hK => ?_)
      · skip
        go_simp; refine K_alloc ?_; intro wB_1 hxB hn3
        refine hK.out _ _ (hS.trans (.ext hxB)) (fun hS => ?_)
        clear hK K
        (try simp only [Act.put, List.setIfInBounds_toArray, List.set_cons_zero, List.set_cons_succ])
        have hnb7 := hS; (try replace hn14 := hxB.blk hn14); replace hOC := own_ext hOC hxB; replace hOL := own_ext hOL hxB; have hn7 := hn3; clear hn3 hxB hnb7
        refine doL_op2 8 14 rfl rfl (by decide) (by decide) (by kernel_rfl) (fun K hK => ?_) (fun K hK => ?_)
        · skip
          refine step_appendAll rfl (.tmp 75) (.tmp 77) 30 rfl (lo + 7) 25 (.agg #[.int .i64 0, .int .i64 0]) 2 16 Tryz.underlying30 (by kernel_rfl) rfl (by decide) _ (codeOf f).length _ _ 1 1 [.int .i64 i1, .int .i64 i2] rfl hOC rfl (cells_blk hn7) (by simp) (by simp [Value.oneCell']) (by unfold maxLen; omega) (by omega) (by have := HSZ.out; have := hS.size; omega) ?_; intro vn_2 w3_2 hown3 hgr; have hS3 := StepX.growC hS hgr (fun k hk => .inl hk); have hN75 := hgr.new.imp id (fun h b hb => Nat.le_trans (Nat.le_trans HXD.out.size hS.size) (h b hb)); have ho3 := own_keep hOL (fun b hb => hgr.block b (hOL.lt b hb).2 (fun e => own_ne hOC hOL (by decide) e.symm hb)); (try have hn3 := (hgr.block _ (Array.getElem?_eq_some_iff.1 hn14).1 (fun e => own_not_blk hOC (by decide) e.symm hn14)).trans hn14); obtain ⟨a_2, q_2, rfl⟩ := own_form hown3; have HGR_2 := Lib.hid hgr; clear hgr
          refine hK.out _ _ hS3 (fun hS => ?_)
          clear hK K
          (try simp only [Act.put, List.setIfInBounds_toArray, List.set_cons_zero, List.set_cons_succ])
          replace hOC := hown3; replace hOL := ho3; (try replace hn14 := hn3); (try clear hn3); clear hown3 ho3 hS3
          refine doL_op 14 rfl (by decide) (by kernel_rfl) (fun K hK => ?_)
          go_simp; refine K_alloc ?_; intro wB_3 hxB hn3
          refine hK.out _ _ (hS.trans (.ext hxB)) (fun hS => ?_)
          clear hK K
          (try simp only [Act.put, List.setIfInBounds_toArray, List.set_cons_zero, List.set_cons_succ])
          (try replace hn7 := hxB.blk hn7); replace hOC := own_ext hOC hxB; replace hOL := own_ext hOL hxB; have hn14 := hn3; clear hn3 hxB
          refine doL_op 15 rfl (by decide) (by kernel_rfl) (fun K hK => ?_)
          refine step_appendAll rfl (.tmp 82) (.tmp 84) 31 rfl (lo + 7) 3 (.int .i64 0) 1 8 Tryz.underlying31 (by kernel_rfl) rfl (by decide) _ (linesOfF f).length _ _ 1 1 [.int .i64 ln] rfl hOL rfl (cells_blk hn14) (by simp) (by simp [Value.oneCell']) (by unfold maxLen; omega) (by omega) (by have := HSZ.out; have := hS.size; omega) ?_; intro vn_4 w3_4 hown3 hgr; have hS3 := StepX.growC hS hgr (fun k hk => .inr hk); have hN82 := hgr.new.imp id (fun h b hb => Nat.le_trans (Nat.le_trans HXD.out.size hS.size) (h b hb)); have ho3 := own_keep hOC (fun b hb => hgr.block b (hOC.lt b hb).2 (fun e => own_ne hOL hOC (by decide) e.symm hb)); (try have hn3 := (hgr.block _ (Array.getElem?_eq_some_iff.1 hn7).1 (fun e => own_not_blk hOL (by decide) e.symm hn7)).trans hn7); obtain ⟨a_4, q_4, rfl⟩ := own_form hown3; have HGR_4 := Lib.hid hgr; clear hgr
          refine hK.out _ _ hS3 (fun hS => ?_)
          clear hK K
          (try simp only [Act.put, List.setIfInBounds_toArray, List.set_cons_zero, List.set_cons_succ])
          replace hOL := hown3; replace hOC := ho3; (try replace hn7 := hn3); (try clear hn3); clear hown3 ho3 hS3
          refine takeLY_op 16 (v := ?_) rfl (by decide) (by kernel_rfl) (by kernel_rfl) (by kernel_rfl) (Or.inl ⟨by rfl, ?_⟩) (by assumption) ?_
          rotate_left 1
          · (intro W; go_simp; try with_reducible rfl)
          (try simp only [Act.put, List.setIfInBounds_toArray, List.set_cons_zero, List.set_cons_succ])
          refine takeL_op 17 (v := ?_) rfl rfl (by kernel_rfl) (by kernel_rfl) (by kernel_rfl) (by kernel_rfl) (Or.inl ⟨by rfl, ?_⟩) (by assumption) ?_
          rotate_left 1
          · (intro W hS; go_simp; try with_reducible rfl)
          (try simp only [Act.put, List.setIfInBounds_toArray, List.set_cons_zero, List.set_cons_succ])
          refine doL_st rfl (by kernel_rfl) (fun K hK => ?_)
          have hQ := HLD.out _ hS; have hSX := hS; have cQ := hQ.1; have fQ := hQ.2.2.2.frozenAt (fs.length * 11 + 6); obtain ⟨ax, qx, hvx⟩ := own_form hOC; have HVX := Lib.hid hvx; clear hvx; go_simp
          refine hK.out _ _ ?_
          clear hK K hS
          have hS := trivial
          (try simp only [Act.put, List.setIfInBounds_toArray, List.set_cons_zero, List.set_cons_succ])
          have hR1 := hQ.2.2.2.stored (fs.length * 11 + 6) (.slice ax ((codeOf f).length + 1) qx); rw [← HVX.out] at hR1
          refine take_op 19 (v := ?_) rfl (by kernel_rfl) (by kernel_rfl) (by kernel_rfl) (Or.inl ⟨by rfl, ?_⟩) (by assumption) ?_
          rotate_left 1
          · (intro W hS; go_simp; try with_reducible rfl)
          (try simp only [Act.put, List.setIfInBounds_toArray, List.set_cons_zero, List.set_cons_succ])
          refine take_op 20 (v := ?_) rfl (by kernel_rfl) (by kernel_rfl) (by kernel_rfl) (Or.inl ⟨by rfl, ?_⟩) (by assumption) ?_
          rotate_left 1
          · (intro W hS; go_simp; try with_reducible rfl)
          (try simp only [Act.put, List.setIfInBounds_toArray, List.set_cons_zero, List.set_cons_succ])
          refine do_op 21 rfl (by kernel_rfl) (fun K hK => ?_)
          have cZ := row_cell hR1.1 (j := fs.length * 11 + 7) (by rw [List.getElem?_set_ne (by omega)]; exact H7.out); have fZ := hR1.1.frozenAt (fs.length * 11 + 7); obtain ⟨ay, qy, hvy⟩ := own_form hOL; have HVY := Lib.hid hvy; clear hvy; go_simp
          refine hK.out _ _ trivial (fun hS => ?_)
          clear hK K
          (try simp only [Act.put, List.setIfInBounds_toArray, List.set_cons_zero, List.set_cons_succ])
          have hR2 := hR1.1.stored (fs.length * 11 + 7) (.slice ay ((linesOfF f).length + 1) qy); rw [← HVY.out] at hR2
          refine wpAnyH_done (by kernel_rfl) ?_ _
          refine NoPanic.normal ?_
          clear hS
          go_wp2_with fail
          have hgo : Value.ownBlock (.slice (some ⟨g, 0, none⟩) (fs.length + 1) cv) = some g := rfl
          have hglo : lo + 7 ≤ g := (HROW.out.lt g hgo).1
          have hS5 : ∀ (X : World) (j : Nat) (u : Value), (X.setCell ⟨g, j, none⟩ u).heap.size = X.heap.size := fun X j u => by simp [World.setCell]
          have hz1 := HXD.out.size
          have hz2 := hSX.size
          refine (HR.out _ _).2.2 HE.out (by trivial) rfl (RI.line (i1, i2) ln HI.out HO.out hr (by rw [hS5, hS5]; omega) (fun b hb h1 h2 h3 => ?_) (own_keep hOC fun b hb => ?_) (own_keep hOL fun b hb => ?_) hN75 hN82 hR2.1) (StepX.set (StepX.set ((StepX.ext HXD.out).trans (hSX.mono fun k _ hk => ?_)) (.inr hglo) _ _) (.inr hglo) _ _)
          · have hbg : b ≠ g := fun e => h1 (by rw [hgo, e])
            rw [Below.heap_setCell _ _ _ _ hbg, Below.heap_setCell _ _ _ _ hbg, hSX.block b (by omega) (fun h => h.elim h2 h3)]
            exact HXD.out.block hb
          · have hbg : b ≠ g := fun e => own_ne hOC hQ.2.2.2 (by decide) hb (by rw [hgo, e])
            rw [Below.heap_setCell _ _ _ _ hbg, Below.heap_setCell _ _ _ _ hbg]
          · have hbg : b ≠ g := fun e => own_ne hOL hQ.2.2.2 (by decide) hb (by rw [hgo, e])
            rw [Below.heap_setCell _ _ _ _ hbg, Below.heap_setCell _ _ _ _ hbg]
          · rcases hk with h | h
            · exact .inr (HO.out.rc.lt _ h).1
            · exact .inr (HO.out.rl.lt _ h).1
        · skip
          go_simp; refine K_alloc ?_; intro wB_7 hxB hn3
          refine hK.out _ _ (hS.trans (.ext hxB)) (fun hS => ?_)
          clear hK K
          (try simp only [Act.put, List.setIfInBounds_toArray, List.set_cons_zero, List.set_cons_succ])
          (try replace hn7 := hxB.blk hn7); replace hOC := own_ext hOC hxB; replace hOL := own_ext hOL hxB; have hn14 := hn3; clear hn3 hxB
          refine doL_op 8 rfl (by decide) (by kernel_rfl) (fun K hK => ?_)
          refine step_appendAll rfl (.tmp 75) (.tmp 77) 30 rfl (lo + 7) 25 (.agg #[.int .i64 0, .int .i64 0]) 2 16 Tryz.underlying30 (by kernel_rfl) rfl (by decide) _ (codeOf f).length _ _ 1 1 [.int .i64 i1, .int .i64 i2] rfl hOC rfl (cells_blk hn7) (by simp) (by simp [Value.oneCell']) (by unfold maxLen; omega) (by omega) (by have := HSZ.out; have := hS.size; omega) ?_; intro vn_8 w3_8 hown3 hgr; have hS3 := StepX.growC hS hgr (fun k hk => .inl hk); have hN75 := hgr.new.imp id (fun h b hb => Nat.le_trans (Nat.le_trans HXD.out.size hS.size) (h b hb)); have ho3 := own_keep hOL (fun b hb => hgr.block b (hOL.lt b hb).2 (fun e => own_ne hOC hOL (by decide) e.symm hb)); (try have hn3 := (hgr.block _ (Array.getElem?_eq_some_iff.1 hn14).1 (fun e => own_not_blk hOC (by decide) e.symm hn14)).trans hn14); obtain ⟨a_8, q_8, rfl⟩ := own_form hown3; have HGR_8 := Lib.hid hgr; clear hgr
          refine hK.out _ _ hS3 (fun hS => ?_)
          clear hK K
          (try simp only [Act.put, List.setIfInBounds_toArray, List.set_cons_zero, List.set_cons_succ])
          replace hOC := hown3; replace hOL := ho3; (try replace hn14 := hn3); (try clear hn3); clear hown3 ho3 hS3
          refine doL_op 15 rfl (by decide) (by kernel_rfl) (fun K hK => ?_)
          refine step_appendAll rfl (.tmp 82) (.tmp 84) 31 rfl (lo + 7) 3 (.int .i64 0) 1 8 Tryz.underlying31 (by kernel_rfl) rfl (by decide) _ (linesOfF f).length _ _ 1 1 [.int .i64 ln] rfl hOL rfl (cells_blk hn14) (by simp) (by simp [Value.oneCell']) (by unfold maxLen; omega) (by omega) (by have := HSZ.out; have := hS.size; omega) ?_; intro vn_9 w3_9 hown3 hgr; have hS3 := StepX.growC hS hgr (fun k hk => .inr hk); have hN82 := hgr.new.imp id (fun h b hb => Nat.le_trans (Nat.le_trans HXD.out.size hS.size) (h b hb)); have ho3 := own_keep hOC (fun b hb => hgr.block b (hOC.lt b hb).2 (fun e => own_ne hOL hOC (by decide) e.symm hb)); (try have hn3 := (hgr.block _ (Array.getElem?_eq_some_iff.1 hn7).1 (fun e => own_not_blk hOL (by decide) e.symm hn7)).trans hn7); obtain ⟨a_9, q_9, rfl⟩ := own_form hown3; have HGR_9 := Lib.hid hgr; clear hgr
          refine hK.out _ _ hS3 (fun hS => ?_)
          clear hK K
          (try simp only [Act.put, List.setIfInBounds_toArray, List.set_cons_zero, List.set_cons_succ])
          replace hOL := hown3; replace hOC := ho3; (try replace hn7 := hn3); (try clear hn3); clear hown3 ho3 hS3
          refine takeLY_op 16 (v := ?_) rfl (by decide) (by kernel_rfl) (by kernel_rfl) (by kernel_rfl) (Or.inl ⟨by rfl, ?_⟩) (by assumption) ?_
          rotate_left 1
          · (intro W; go_simp; try with_reducible rfl)
          (try simp only [Act.put, List.setIfInBounds_toArray, List.set_cons_zero, List.set_cons_succ])
          refine takeL_op 17 (v := ?_) rfl rfl (by kernel_rfl) (by kernel_rfl) (by kernel_rfl) (by kernel_rfl) (Or.inl ⟨by rfl, ?_⟩) (by assumption) ?_
          rotate_left 1
          · (intro W hS; go_simp; try with_reducible rfl)
          (try simp only [Act.put, List.setIfInBounds_toArray, List.set_cons_zero, List.set_cons_succ])
          refine doL_st rfl (by kernel_rfl) (fun K hK => ?_)
          have hQ := HLD.out _ hS; have hSX := hS; have cQ := hQ.1; have fQ := hQ.2.2.2.frozenAt (fs.length * 11 + 6); obtain ⟨ax, qx, hvx⟩ := own_form hOC; have HVX := Lib.hid hvx; clear hvx; go_simp
          refine hK.out _ _ ?_
          clear hK K hS
          have hS := trivial
          (try simp only [Act.put, List.setIfInBounds_toArray, List.set_cons_zero, List.set_cons_succ])
          have hR1 := hQ.2.2.2.stored (fs.length * 11 + 6) (.slice ax ((codeOf f).length + 1) qx); rw [← HVX.out] at hR1
          refine take_op 19 (v := ?_) rfl (by kernel_rfl) (by kernel_rfl) (by kernel_rfl) (Or.inl ⟨by rfl, ?_⟩) (by assumption) ?_
          rotate_left 1
          · (intro W hS; go_simp; try with_reducible rfl)
          (try simp only [Act.put, List.setIfInBounds_toArray, List.set_cons_zero, List.set_cons_succ])
          refine take_op 20 (v := ?_) rfl (by kernel_rfl) (by kernel_rfl) (by kernel_rfl) (Or.inl ⟨by rfl, ?_⟩) (by assumption) ?_
          rotate_left 1
          · (intro W hS; go_simp; try with_reducible rfl)
          (try simp only [Act.put, List.setIfInBounds_toArray, List.set_cons_zero, List.set_cons_succ])
          refine do_op 21 rfl (by kernel_rfl) (fun K hK => ?_)
          have cZ := row_cell hR1.1 (j := fs.length * 11 + 7) (by rw [List.getElem?_set_ne (by omega)]; exact H7.out); have fZ := hR1.1.frozenAt (fs.length * 11 + 7); obtain ⟨ay, qy, hvy⟩ := own_form hOL; have HVY := Lib.hid hvy; clear hvy; go_simp
          refine hK.out _ _ trivial (fun hS => ?_)
          clear hK K
          (try simp only [Act.put, List.setIfInBounds_toArray, List.set_cons_zero, List.set_cons_succ])
          have hR2 := hR1.1.stored (fs.length * 11 + 7) (.slice ay ((linesOfF f).length + 1) qy); rw [← HVY.out] at hR2
          refine wpAnyH_done (by kernel_rfl) ?_ _
          refine NoPanic.normal ?_
          clear hS
          go_wp2_with fail
          have hgo : Value.ownBlock (.slice (some ⟨g, 0, none⟩) (fs.length + 1) cv) = some g := rfl
          have hglo : lo + 7 ≤ g := (HROW.out.lt g hgo).1
          have hS5 : ∀ (X : World) (j : Nat) (u : Value), (X.setCell ⟨g, j, none⟩ u).heap.size = X.heap.size := fun X j u => by simp [World.setCell]
          have hz1 := HXD.out.size
          have hz2 := hSX.size
          refine (HR.out _ _).2.2 HE.out (by trivial) rfl (RI.line (i1, i2) ln HI.out HO.out hr (by rw [hS5, hS5]; omega) (fun b hb h1 h2 h3 => ?_) (own_keep hOC fun b hb => ?_) (own_keep hOL fun b hb => ?_) hN75 hN82 hR2.1) (StepX.set (StepX.set ((StepX.ext HXD.out).trans (hSX.mono fun k _ hk => ?_)) (.inr hglo) _ _) (.inr hglo) _ _)
          · have hbg : b ≠ g := fun e => h1 (by rw [hgo, e])
            rw [Below.heap_setCell _ _ _ _ hbg, Below.heap_setCell _ _ _ _ hbg, hSX.block b (by omega) (fun h => h.elim h2 h3)]
            exact HXD.out.block hb
          · have hbg : b ≠ g := fun e => own_ne hOC hQ.2.2.2 (by decide) hb (by rw [hgo, e])
            rw [Below.heap_setCell _ _ _ _ hbg, Below.heap_setCell _ _ _ _ hbg]
          · have hbg : b ≠ g := fun e => own_ne hOL hQ.2.2.2 (by decide) hb (by rw [hgo, e])
            rw [Below.heap_setCell _ _ _ _ hbg, Below.heap_setCell _ _ _ _ hbg]
          · rcases hk with h | h
            · exact .inr (HO.out.rc.lt _ h).1
            · exact .inr (HO.out.rl.lt _ h).1
      · skip
        go_simp; refine K_alloc ?_; intro wB_12 hxB hn3
        refine hK.out _ _ (hS.trans (.ext hxB)) (fun hS => ?_)
        clear hK K
        (try simp only [Act.put, List.setIfInBounds_toArray, List.set_cons_zero, List.set_cons_succ])
        (try replace hn7 := hxB.blk hn7); replace hOC := own_ext hOC hxB; replace hOL := own_ext hOL hxB; have hn14 := hn3; clear hn3 hxB
        refine doL_op 7 rfl (by decide) (by kernel_rfl) (fun K hK => ?_)
        go_simp; refine K_alloc ?_; intro wB_13 hxB hn3
        refine hK.out _ _ (hS.trans (.ext hxB)) (fun hS => ?_)
        clear hK K
        (try simp only [Act.put, List.setIfInBounds_toArray, List.set_cons_zero, List.set_cons_succ])
        have hnb7 := hS; (try replace hn14 := hxB.blk hn14); replace hOC := own_ext hOC hxB; replace hOL := own_ext hOL hxB; have hn7 := hn3; clear hn3 hxB hnb7
        refine doL_op 8 rfl (by decide) (by kernel_rfl) (fun K hK => ?_)
        refine step_appendAll rfl (.tmp 75) (.tmp 77) 30 rfl (lo + 7) 25 (.agg #[.int .i64 0, .int .i64 0]) 2 16 Tryz.underlying30 (by kernel_rfl) rfl (by decide) _ (codeOf f).length _ _ 1 1 [.int .i64 i1, .int .i64 i2] rfl hOC rfl (cells_blk hn7) (by simp) (by simp [Value.oneCell']) (by unfold maxLen; omega) (by omega) (by have := HSZ.out; have := hS.size; omega) ?_; intro vn_14 w3_14 hown3 hgr; have hS3 := StepX.growC hS hgr (fun k hk => .inl hk); have hN75 := hgr.new.imp id (fun h b hb => Nat.le_trans (Nat.le_trans HXD.out.size hS.size) (h b hb)); have ho3 := own_keep hOL (fun b hb => hgr.block b (hOL.lt b hb).2 (fun e => own_ne hOC hOL (by decide) e.symm hb)); (try have hn3 := (hgr.block _ (Array.getElem?_eq_some_iff.1 hn14).1 (fun e => own_not_blk hOC (by decide) e.symm hn14)).trans hn14); obtain ⟨a_14, q_14, rfl⟩ := own_form hown3; have HGR_14 := Lib.hid hgr; clear hgr
        refine hK.out _ _ hS3 (fun hS => ?_)
        clear hK K
        (try simp only [Act.put, List.setIfInBounds_toArray, List.set_cons_zero, List.set_cons_succ])
        replace hOC := hown3; replace hOL := ho3; (try replace hn14 := hn3); (try clear hn3); clear hown3 ho3 hS3
        refine doL_op 15 rfl (by decide) (by kernel_rfl) (fun K hK => ?_)
        refine step_appendAll rfl (.tmp 82) (.tmp 84) 31 rfl (lo + 7) 3 (.int .i64 0) 1 8 Tryz.underlying31 (by kernel_rfl) rfl (by decide) _ (linesOfF f).length _ _ 1 1 [.int .i64 ln] rfl hOL rfl (cells_blk hn14) (by simp) (by simp [Value.oneCell']) (by unfold maxLen; omega) (by omega) (by have := HSZ.out; have := hS.size; omega) ?_; intro vn_15 w3_15 hown3 hgr; have hS3 := StepX.growC hS hgr (fun k hk => .inr hk); have hN82 := hgr.new.imp id (fun h b hb => Nat.le_trans (Nat.le_trans HXD.out.size hS.size) (h b hb)); have ho3 := own_keep hOC (fun b hb => hgr.block b (hOC.lt b hb).2 (fun e => own_ne hOL hOC (by decide) e.symm hb)); (try have hn3 := (hgr.block _ (Array.getElem?_eq_some_iff.1 hn7).1 (fun e => own_not_blk hOL (by decide) e.symm hn7)).trans hn7); obtain ⟨a_15, q_15, rfl⟩ := own_form hown3; have HGR_15 := Lib.hid hgr; clear hgr
        refine hK.out _ _ hS3 (fun hS => ?_)
        clear hK K
        (try simp only [Act.put, List.setIfInBounds_toArray, List.set_cons_zero, List.set_cons_succ])
        replace hOL := hown3; replace hOC := ho3; (try replace hn7 := hn3); (try clear hn3); clear hown3 ho3 hS3
        refine takeLY_op 16 (v := ?_) rfl (by decide) (by kernel_rfl) (by kernel_rfl) (by kernel_rfl) (Or.inl ⟨by rfl, ?_⟩) (by assumption) ?_
        rotate_left 1
        · (intro W; go_simp; try with_reducible rfl)
        (try simp only [Act.put, List.setIfInBounds_toArray, List.set_cons_zero, List.set_cons_succ])
        refine takeL_op 17 (v := ?_) rfl rfl (by kernel_rfl) (by kernel_rfl) (by kernel_rfl) (by kernel_rfl) (Or.inl ⟨by rfl, ?_⟩) (by assumption) ?_
        rotate_left 1
        · (intro W hS; go_simp; try with_reducible rfl)
        (try simp only [Act.put, List.setIfInBounds_toArray, List.set_cons_zero, List.set_cons_succ])
        refine doL_st rfl (by kernel_rfl) (fun K hK => ?_)
        have hQ := HLD.out _ hS; have hSX := hS; have cQ := hQ.1; have fQ := hQ.2.2.2.frozenAt (fs.length * 11 + 6); obtain ⟨ax, qx, hvx⟩ := own_form hOC; have HVX := Lib.hid hvx; clear hvx; go_simp
        refine hK.out _ _ ?_
        clear hK K hS
        have hS := trivial
        (try simp only [Act.put, List.setIfInBounds_toArray, List.set_cons_zero, List.set_cons_succ])
        have hR1 := hQ.2.2.2.stored (fs.length * 11 + 6) (.slice ax ((codeOf f).length + 1) qx); rw [← HVX.out] at hR1
        refine take_op 19 (v := ?_) rfl (by kernel_rfl) (by kernel_rfl) (by kernel_rfl) (Or.inl ⟨by rfl, ?_⟩) (by assumption) ?_
        rotate_left 1
        · (intro W hS; go_simp; try with_reducible rfl)
        (try simp only [Act.put, List.setIfInBounds_toArray, List.set_cons_zero, List.set_cons_succ])
        refine take_op 20 (v := ?_) rfl (by kernel_rfl) (by kernel_rfl) (by kernel_rfl) (Or.inl ⟨by rfl, ?_⟩) (by assumption) ?_
        rotate_left 1
        · (intro W hS; go_simp; try with_reducible rfl)
        (try simp only [Act.put, List.setIfInBounds_toArray, List.set_cons_zero, List.set_cons_succ])
        refine do_op 21 rfl (by kernel_rfl) (fun K hK => ?_)
        have cZ := row_cell hR1.1 (j := fs.length * 11 + 7) (by rw [List.getElem?_set_ne (by omega)]; exact H7.out); have fZ := hR1.1.frozenAt (fs.length * 11 + 7); obtain ⟨ay, qy, hvy⟩ := own_form hOL; have HVY := Lib.hid hvy; clear hvy; go_simp
        refine hK.out _ _ trivial (fun hS => ?_)
        clear hK K
        (try simp only [Act.put, List.setIfInBounds_toArray, List.set_cons_zero, List.set_cons_succ])
        have hR2 := hR1.1.stored (fs.length * 11 + 7) (.slice ay ((linesOfF f).length + 1) qy); rw [← HVY.out] at hR2
        refine wpAnyH_done (by kernel_rfl) ?_ _
        refine NoPanic.normal ?_
        clear hS
        go_wp2_with fail
        have hgo : Value.ownBlock (.slice (some ⟨g, 0, none⟩) (fs.length + 1) cv) = some g := rfl
        have hglo : lo + 7 ≤ g := (HROW.out.lt g hgo).1
        have hS5 : ∀ (X : World) (j : Nat) (u : Value), (X.setCell ⟨g, j, none⟩ u).heap.size = X.heap.size := fun X j u => by simp [World.setCell]
        have hz1 := HXD.out.size
        have hz2 := hSX.size
        refine (HR.out _ _).2.2 HE.out (by trivial) rfl (RI.line (i1, i2) ln HI.out HO.out hr (by rw [hS5, hS5]; omega) (fun b hb h1 h2 h3 => ?_) (own_keep hOC fun b hb => ?_) (own_keep hOL fun b hb => ?_) hN75 hN82 hR2.1) (StepX.set (StepX.set ((StepX.ext HXD.out).trans (hSX.mono fun k _ hk => ?_)) (.inr hglo) _ _) (.inr hglo) _ _)
        · have hbg : b ≠ g := fun e => h1 (by rw [hgo, e])
          rw [Below.heap_setCell _ _ _ _ hbg, Below.heap_setCell _ _ _ _ hbg, hSX.block b (by omega) (fun h => h.elim h2 h3)]
          exact HXD.out.block hb
        · have hbg : b ≠ g := fun e => own_ne hOC hQ.2.2.2 (by decide) hb (by rw [hgo, e])
          rw [Below.heap_setCell _ _ _ _ hbg, Below.heap_setCell _ _ _ _ hbg]
        · have hbg : b ≠ g := fun e => own_ne hOL hQ.2.2.2 (by decide) hb (by rw [hgo, e])
          rw [Below.heap_setCell _ _ _ _ hbg, Below.heap_setCell _ _ _ _ hbg]
        · rcases hk with h | h
          · exact .inr (HO.out.rc.lt _ h).1
          · exact .inr (HO.out.rl.lt _ h).1
    · have t1 : (er == 0) = false := beq_eq_false_iff_ne.2 h0
      have HE0 := Lib.hid h0
      clear h0
      go_wp2_with fail
      exact (HR.out _ _).2.1 HE.out HE0.out rfl (RInv.ext (st := (fs, some f)) ⟨who, v, css, ocs, HI.out⟩ (HX.out.al _)) (.ext (HX.out.al _))
end Go.Proofs.YtkdnbnkbnegckaaGreatDoor
