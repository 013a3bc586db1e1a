/- A function's bytes, the reference's. -/
import Derived.Test.YtofdkhilapmccaaFncQ
import Derived.Test.YtofdkhilapmccaaStrB
namespace Go.Proofs.Ytofdkhilapmccaa
open Go.RowKit

set_option maxHeartbeats 16000000 in
set_option maxRecDepth 20000 in
theorem fncref_Put (A : FuncA) (f : FuncT) (w : World) (hf : FuncIn w A f) (bf : FuncB f) :
    Calls Try.prog 52 #[.agg #[.string f.name, .bool f.inner, .slice A.o1 f.outer.length A.c1, .slice A.o2 f.params.length A.c2, .slice A.o3 f.results.length A.c3, .slice A.o4 f.locs.length A.c4, .slice A.o5 f.code.length A.c5, .slice A.o6 f.lines.length A.c6, .slice A.o7 f.nodes.length A.c7, .slice A.o8 f.ats.length A.c8, .slice A.o9 f.live.length A.c9]] w (RetSl (putF' f).length ((putF' f).map byteC) w) := by
  have HFB := Lib.hid bf
  have HFI := Lib.hid hf
  have HBR : Hid (∀ W, Calls Try.prog 50 #[.agg #[.string f.name, .bool f.inner, .slice A.o1 f.outer.length A.c1, .slice A.o2 f.params.length A.c2, .slice A.o3 f.results.length A.c3, .slice A.o4 f.locs.length A.c4, .slice A.o5 f.code.length A.c5, .slice A.o6 f.lines.length A.c6, .slice A.o7 f.nodes.length A.c7, .slice A.o8 f.ats.length A.c8, .slice A.o9 f.live.length A.c9]] W fun e w' => e = .returned (.bool (bareF f)) ∧ Ext W w') := fun W => fncref_Bare A f W bf
  clear hf bf
  go_enter Try.func52, Try.ntmps52
  go_upto_region 1 with fail
  obtain ⟨hx0, hz0, hcA⟩ := one_box w [.string f.name, .bool f.inner, .slice A.o1 f.outer.length A.c1, .slice A.o2 f.params.length A.c2, .slice A.o3 f.results.length A.c3, .slice A.o4 f.locs.length A.c4, .slice A.o5 f.code.length A.c5, .slice A.o6 f.lines.length A.c6, .slice A.o7 f.nodes.length A.c7, .slice A.o8 f.ats.length A.c8, .slice A.o9 f.live.length A.c9] 28
  generalize hW1 : w.alloc (.cells ([.string f.name, .bool f.inner, .slice A.o1 f.outer.length A.c1, .slice A.o2 f.params.length A.c2, .slice A.o3 f.results.length A.c3, .slice A.o4 f.locs.length A.c4, .slice A.o5 f.code.length A.c5, .slice A.o6 f.lines.length A.c6, .slice A.o7 f.nodes.length A.c7, .slice A.o8 f.ats.length A.c8, .slice A.o9 f.live.length A.c9] : List Value).toArray 28) = W1 at *
  clear hW1
  have c0 : W1.cell? ⟨w.heap.size, 0, none⟩ = some (.string f.name) := by have := hcA.cell _ _ rfl 0 _ rfl; rwa [Nat.zero_add] at this
  have c1 : W1.cell? ⟨w.heap.size, 1, none⟩ = some (.bool f.inner) := by have := hcA.cell _ _ rfl 1 _ rfl; rwa [Nat.zero_add] at this
  have c2 : W1.cell? ⟨w.heap.size, 2, none⟩ = some (.slice A.o1 f.outer.length A.c1) := by have := hcA.cell _ _ rfl 2 _ rfl; rwa [Nat.zero_add] at this
  have c3 : W1.cell? ⟨w.heap.size, 3, none⟩ = some (.slice A.o2 f.params.length A.c2) := by have := hcA.cell _ _ rfl 3 _ rfl; rwa [Nat.zero_add] at this
  have c4 : W1.cell? ⟨w.heap.size, 4, none⟩ = some (.slice A.o3 f.results.length A.c3) := by have := hcA.cell _ _ rfl 4 _ rfl; rwa [Nat.zero_add] at this
  have c5 : W1.cell? ⟨w.heap.size, 5, none⟩ = some (.slice A.o4 f.locs.length A.c4) := by have := hcA.cell _ _ rfl 5 _ rfl; rwa [Nat.zero_add] at this
  have c6 : W1.cell? ⟨w.heap.size, 6, none⟩ = some (.slice A.o5 f.code.length A.c5) := by have := hcA.cell _ _ rfl 6 _ rfl; rwa [Nat.zero_add] at this
  have c7 : W1.cell? ⟨w.heap.size, 7, none⟩ = some (.slice A.o6 f.lines.length A.c6) := by have := hcA.cell _ _ rfl 7 _ rfl; rwa [Nat.zero_add] at this
  have c8 : W1.cell? ⟨w.heap.size, 8, none⟩ = some (.slice A.o7 f.nodes.length A.c7) := by have := hcA.cell _ _ rfl 8 _ rfl; rwa [Nat.zero_add] at this
  have c9 : W1.cell? ⟨w.heap.size, 9, none⟩ = some (.slice A.o8 f.ats.length A.c8) := by have := hcA.cell _ _ rfl 9 _ rfl; rwa [Nat.zero_add] at this
  have c10 : W1.cell? ⟨w.heap.size, 10, none⟩ = some (.slice A.o9 f.live.length A.c9) := by have := hcA.cell _ _ rfl 10 _ rfl; rwa [Nat.zero_add] at this
  clear hcA
  go_wp2_with fail
  refine (fncref_Can A f _ (HFI.out.ext hx0) HFB.out).mono ?_
  rintro e W2 ⟨rfl, hx2⟩
  have HX2 := Lib.hid (hx0.tr hx2)
  have HFI2 := Lib.hid (HFI.out.ext (hx0.tr hx2))
  have e0 := hx2.has c0
  have HE1 := Lib.hid (hx2.has c1)
  have HE2 := Lib.hid (hx2.has c2)
  have HE3 := Lib.hid (hx2.has c3)
  have HE4 := Lib.hid (hx2.has c4)
  have HE5 := Lib.hid (hx2.has c5)
  have HE6 := Lib.hid (hx2.has c6)
  have HE7 := Lib.hid (hx2.has c7)
  have HE8 := Lib.hid (hx2.has c8)
  have HE9 := Lib.hid (hx2.has c9)
  have HE10 := Lib.hid (hx2.has c10)
  have HE0 := Lib.hid e0
  clear HFI hx0 hx2 c0 c1 c2 c3 c4 c5 c6 c7 c8 c9 c10
  cases hcan : canF f == 0 with
  | false =>
    have hm : (canF f != 0) = true := by rw [bne, hcan]; rfl
    have HR : Hid (putF' f = []) := by rw [Hid, putF', if_neg (by simpa using hcan)]
    clear hcan
    go_wp2_with fail
    go_ret
    exact ⟨none, 0, by rw [HR.out] <;> rfl, by rw [HR.out]; exact Cells.nil _ _, HX2.out, fun _ h => by cases h⟩
  | true =>
    have h0 : canF f = 0 := by simpa using hcan
    have HRB0 : Hid (putF' f = bytesY f) := by rw [Hid, putF', if_pos h0]
    obtain ⟨s0, s1, s2, s3, s4, s5, s6, s7, s8, s9⟩ := canF_small h0
    rw [h0]
    clear hcan h0
    have hwn : IntKind.u64.wrap (f.name.size : Int) = f.name.size := by rw [IntKind.wrap_u64]; omega
    have hwc : IntKind.u64.wrap (f.code.length : Int) = f.code.length := by rw [IntKind.wrap_u64]; omega
    have htl : f.name.data.toList.length = f.name.size := by rw [Array.length_toList]; rfl
    have hpn := putB_le f.name.size
    go_upto_region 3 with fail
    go_cut [3] (fun s3 wx => wx.ownsRow W2.heap.size 5 1 s3 (putB f.name.size ++ f.name.data.toList).length ((putB f.name.size ++ f.name.data.toList).map byteC) ∧ Ext W2 wx)
    case first =>
      have hy := (Ext.rf W2).dr
      refine wp_region_ext (fun W => Ext W2 W) (by kernel_rfl) hy (fun hS => ?_)
      refine take_op 0 (v := ?_) rfl (by kernel_rfl) (by kernel_rfl) (by kernel_rfl) (Or.inl ⟨by rfl, ?_⟩) (by assumption) ?_
      rotate_left 1
      · (intro W hS; go_simp; try with_reducible rfl)
      (try simp only [Act.put, List.setIfInBounds_toArray, List.set_cons_zero, List.set_cons_succ])
      refine take_op 1 (v := ?_) rfl (by kernel_rfl) (by kernel_rfl) (by kernel_rfl) (Or.inl ⟨by rfl, ?_⟩) (by assumption) ?_
      rotate_left 1
      · (intro W hS; have d0 := hS.has e0; go_simp; try with_reducible rfl)
      (try simp only [Act.put, List.setIfInBounds_toArray, List.set_cons_zero, List.set_cons_succ])
      refine take_op 2 (v := ?_) rfl (by kernel_rfl) (by kernel_rfl) (by kernel_rfl) (Or.inl ⟨by rfl, ?_⟩) (by assumption) ?_
      rotate_left 1
      · (intro W hS; go_simp; try with_reducible rfl)
      (try simp only [Act.put, List.setIfInBounds_toArray, List.set_cons_zero, List.set_cons_succ])
      refine take_op 3 (v := ?_) rfl (by kernel_rfl) (by kernel_rfl) (by kernel_rfl) (Or.inl ⟨by rfl, ?_⟩) (by assumption) ?_
      rotate_left 1
      · (intro W hS; have d0 := hS.has e0; go_simp; try with_reducible rfl)
      (try simp only [Act.put, List.setIfInBounds_toArray, List.set_cons_zero, List.set_cons_succ])
      refine take_op 5 (v := ?_) rfl (by kernel_rfl) (by kernel_rfl) (by kernel_rfl) (Or.inl ⟨by rfl, ?_⟩) (by assumption) ?_
      rotate_left 1
      · (intro W hS; go_simp; try with_reducible rfl)
      (try simp only [Act.put, List.setIfInBounds_toArray, List.set_cons_zero, List.set_cons_succ])
      refine take_op 6 (v := ?_) rfl (by kernel_rfl) (by kernel_rfl) (by kernel_rfl) (Or.inl ⟨by rfl, ?_⟩) (by assumption) ?_
      rotate_left 1
      · (intro W hS; have d0 := hS.has e0; go_simp; try with_reducible rfl)
      (try simp only [Act.put, List.setIfInBounds_toArray, List.set_cons_zero, List.set_cons_succ])
      refine do_op2 4 7 rfl rfl (by kernel_rfl) (fun K hK => ?_) (fun K hK => ?_)
      · skip
        go_simp; (with_reducible refine (uvarref_PutO f.name.size _ (by omega)).mono ?_); rintro e wA ⟨vA, rfl, hoA, hxA⟩
        refine hK.out _ _ (hy.tr hxA) (fun hS => ?_)
        clear hK K
        (try simp only [Act.put, List.setIfInBounds_toArray, List.set_cons_zero, List.set_cons_succ])
        have ho := own_mono hoA (Ext.size hy); replace hy := hy.tr hxA; try replace hcB := hcB.ext hxA
        refine do_op 7 rfl (by kernel_rfl) (fun K hK => ?_)
        refine step_bytes rfl 9 38 5 (.tmp 15) rfl f.name rfl Try.underlying9 Try.underlying38 Try.underlying5 ?_; intro wB capB hxB hcB
        refine hK.out _ _ (hy.tr hxB) (fun hS => ?_)
        clear hK K
        (try simp only [Act.put, List.setIfInBounds_toArray, List.set_cons_zero, List.set_cons_succ])
        (try replace ho := own_ext ho hxB); replace hy := hy.tr hxB
        refine do_op 8 rfl (by kernel_rfl) (fun K hK => ?_)
        refine step_appendAll rfl (.tmp 13) (.tmp 16) 38 rfl W2.heap.size 5 (.int .u8 0) 1 1 Try.underlying38 (by kernel_rfl) rfl (by decide) _ _ _ _ f.name.size _ (f.name.data.toList.map byteC) rfl ho rfl hcB (by simp) (by intro u hu; simp only [List.mem_map] at hu; obtain ⟨_, _, rfl⟩ := hu; rfl) (by unfold maxLen; omega) (by omega) hy.size ?_; intro vC wC hoC hgC
        refine hK.out _ _ (hy.push ho (Nat.le_refl _) hgC) (fun hS => ?_)
        clear hK K
        (try simp only [Act.put, List.setIfInBounds_toArray, List.set_cons_zero, List.set_cons_succ])
        replace hy := hy.push ho (Nat.le_refl _) hgC; replace ho := hoC
        refine take_op 9 (v := ?_) rfl (by kernel_rfl) (by kernel_rfl) (by kernel_rfl) (Or.inl ⟨by rfl, ?_⟩) (by assumption) ?_
        rotate_left 1
        · (intro W hS; go_simp; try with_reducible rfl)
        (try simp only [Act.put, List.setIfInBounds_toArray, List.set_cons_zero, List.set_cons_succ])
        refine wpAnyH_done (by kernel_rfl) ?_ _
        refine NoPanic.normal ?_
        go_wp2_with fail
        go_meet
        exact ⟨by rw [List.length_append, List.map_append, htl]; exact ho, hy⟩
      · skip
        refine step_bytes rfl 9 38 5 (.tmp 15) rfl f.name rfl Try.underlying9 Try.underlying38 Try.underlying5 ?_; intro wB capB hxB hcB
        refine hK.out _ _ (hy.tr hxB) (fun hS => ?_)
        clear hK K
        (try simp only [Act.put, List.setIfInBounds_toArray, List.set_cons_zero, List.set_cons_succ])
        (try replace ho := own_ext ho hxB); replace hy := hy.tr hxB
        refine do_op 4 rfl (by kernel_rfl) (fun K hK => ?_)
        go_simp; (with_reducible refine (uvarref_PutO f.name.size _ (by omega)).mono ?_); rintro e wA ⟨vA, rfl, hoA, hxA⟩
        refine hK.out _ _ (hy.tr hxA) (fun hS => ?_)
        clear hK K
        (try simp only [Act.put, List.setIfInBounds_toArray, List.set_cons_zero, List.set_cons_succ])
        have ho := own_mono hoA (Ext.size hy); replace hy := hy.tr hxA; try replace hcB := hcB.ext hxA
        refine do_op 8 rfl (by kernel_rfl) (fun K hK => ?_)
        refine step_appendAll rfl (.tmp 13) (.tmp 16) 38 rfl W2.heap.size 5 (.int .u8 0) 1 1 Try.underlying38 (by kernel_rfl) rfl (by decide) _ _ _ _ f.name.size _ (f.name.data.toList.map byteC) rfl ho rfl hcB (by simp) (by intro u hu; simp only [List.mem_map] at hu; obtain ⟨_, _, rfl⟩ := hu; rfl) (by unfold maxLen; omega) (by omega) hy.size ?_; intro vC wC hoC hgC
        refine hK.out _ _ (hy.push ho (Nat.le_refl _) hgC) (fun hS => ?_)
        clear hK K
        (try simp only [Act.put, List.setIfInBounds_toArray, List.set_cons_zero, List.set_cons_succ])
        replace hy := hy.push ho (Nat.le_refl _) hgC; replace ho := hoC
        refine take_op 9 (v := ?_) rfl (by kernel_rfl) (by kernel_rfl) (by kernel_rfl) (Or.inl ⟨by rfl, ?_⟩) (by assumption) ?_
        rotate_left 1
        · (intro W hS; go_simp; try with_reducible rfl)
        (try simp only [Act.put, List.setIfInBounds_toArray, List.set_cons_zero, List.set_cons_succ])
        refine wpAnyH_done (by kernel_rfl) ?_ _
        refine NoPanic.normal ?_
        go_wp2_with fail
        go_meet
        exact ⟨by rw [List.length_append, List.map_append, htl]; exact ho, hy⟩
    case rest =>
      obtain ⟨hown0, hxb⟩ := hcut
      have hle0 : (putB f.name.size ++ f.name.data.toList).length ≤ 22 := by rw [List.length_append]; omega
      clear hwn hpn htl e0
      rcases Bool.eq_false_or_eq_true f.inner with hi | hi <;> rcases Bool.eq_false_or_eq_true (bareF f) with hq | hq
      · have HRB : Hid (putF' f = (putB f.name.size ++ f.name.data.toList ++ [(1 : UInt8)]) ++ (sigPut f.outer ++ sigPut f.params ++ sigPut f.results ++ sigPut f.locs) ++ (putB f.code.length ++ f.code.flatMap putInstr) ++ putRuns (runsOf f.lines) ++ []) := by
          rw [Hid, HRB0.out, bytesY, headY, sigsY, codeY, tabsY, flagF, hi, hq]; rfl
        rw [hi] at HE1 HBR
        rw [hq] at HBR
        generalize hD : putB f.name.size ++ f.name.data.toList = D0 at *
        have HD0 := Lib.hid hD
        clear hD HRB0 hi hq
        have d0 := hxb.has HE0.out
        have d1 := hxb.has HE1.out
        have d2 := hxb.has HE2.out
        have d3 := hxb.has HE3.out
        have d4 := hxb.has HE4.out
        have d5 := hxb.has HE5.out
        have d6 := hxb.has HE6.out
        have d7 := hxb.has HE7.out
        have d8 := hxb.has HE8.out
        have d9 := hxb.has HE9.out
        have d10 := hxb.has HE10.out
        go_upto_region 7 with fail
        go_wp2_with fail
        refine (HBR.out _).mono ?_
        rintro e wf ⟨rfl, hxf⟩
        have hoF := own_ext hown0 hxf
        have hxF := hxb.tr hxf
        clear hown0 hxb hxf d0 d1 d2 d3 d4 d5 d6 d7 d8 d9 d10
        go_upto_region 10 with (at_builtin; (refine wpList_push rfl (.tmp 25) (.tmp 27) 38 rfl W2.heap.size 5 5 (.int .u8 0) 1 1 Try.underlying38 (by kernel_rfl) rfl (by decide) _ D0.length _ [.int .u8 1] rfl hoF _ rfl (by simp) rfl (by simp [Value.oneCell']) (by unfold maxLen; omega) (by omega) hxF.size ?_; intro vb0 wb0 hownb0 hgr; have hxb0 := hxF.push hoF (Nat.le_refl _) hgr; clear hgr hoF hxF))
        obtain ⟨P0, HP0⟩ : ∃ P0 : List UInt8, Hid ([(1 : UInt8)] = P0) := ⟨_, Lib.hid rfl⟩
        have hPl0 : P0.length ≤ 1 := by rw [← HP0.out]; exact Nat.le_refl _
        have hownb0 : wb0.ownsRow W2.heap.size 5 1 vb0 (D0.length + P0.length) (D0.map byteC ++ P0.map byteC) := by rw [← HP0.out]; exact hownb0
        have HO1 : wb0.ownsRow W2.heap.size 5 1 vb0 (D0 ++ P0).length ((D0 ++ P0).map byteC) := by rw [List.length_append, List.map_append]; exact hownb0
        have hle1 : (D0 ++ P0).length ≤ 23 := by rw [List.length_append]; omega
        generalize hD : D0 ++ P0 = D1 at *
        have HD1 := Lib.hid hD
        clear hD hownb0 hle0 hPl0
        have d1 := hxb0.has HE1.out
        go_upto_region 11 with fail
        clear d1
        have d2 := hxb0.has HE2.out
        go_wp2_with fail
        refine (sigref_Put _ _ f.outer _ ((HFI2.out.ext hxb0)).h1 (by omega)).mono ?_
        rintro e wa1 ⟨ao, ac, rfl, hcX, hxX, -⟩
        have hPl1 : (sigPut f.outer).length ≤ 14 := by have := sigPut_le f.outer; omega
        generalize hP : sigPut f.outer = P1 at *
        have HP1 := Lib.hid hP
        clear hP d2
        have hoa1 := own_ext HO1 hxX
        have hxa1 := hxb0.tr hxX
        clear HO1 hxb0 hxX
        go_upto_region 12 with (at_builtin; (refine wpList_appendAll rfl (.tmp 31) (.tmp 34) 38 rfl W2.heap.size 5 (.int .u8 0) 1 1 Try.underlying38 (by kernel_rfl) rfl (by decide) _ D1.length _ ao P1.length _ (P1.map byteC) rfl hoa1 rfl hcX (by simp) (by intro u hu; simp only [List.mem_map] at hu; obtain ⟨_, _, rfl⟩ := hu; rfl) (by unfold maxLen; omega) (by omega) hxa1.size ?_; intro vb1 wb1 hownb1 hgr; have hxb1 := hxa1.push hoa1 (Nat.le_refl _) hgr; clear hgr hoa1 hxa1))
        have HO2 : wb1.ownsRow W2.heap.size 5 1 vb1 (D1 ++ P1).length ((D1 ++ P1).map byteC) := by rw [List.length_append, List.map_append]; exact hownb1
        have hle2 : (D1 ++ P1).length ≤ 37 := by rw [List.length_append]; omega
        generalize hD : D1 ++ P1 = D2 at *
        have HD2 := Lib.hid hD
        clear hD hownb1 hle1 hPl1
        have d3 := hxb1.has HE3.out
        go_wp2_with fail
        refine (sigref_Put _ _ f.params _ ((HFI2.out.ext hxb1)).h2 (by omega)).mono ?_
        rintro e wa2 ⟨ao, ac, rfl, hcX, hxX, -⟩
        have hPl2 : (sigPut f.params).length ≤ 18 := by have := sigPut_le f.params; omega
        generalize hP : sigPut f.params = P2 at *
        have HP2 := Lib.hid hP
        clear hP d3
        have hoa2 := own_ext HO2 hxX
        have hxa2 := hxb1.tr hxX
        clear HO2 hxb1 hxX
        go_upto_region 13 with (at_builtin; (refine wpList_appendAll rfl (.tmp 36) (.tmp 39) 38 rfl W2.heap.size 5 (.int .u8 0) 1 1 Try.underlying38 (by kernel_rfl) rfl (by decide) _ D2.length _ ao P2.length _ (P2.map byteC) rfl hoa2 rfl hcX (by simp) (by intro u hu; simp only [List.mem_map] at hu; obtain ⟨_, _, rfl⟩ := hu; rfl) (by unfold maxLen; omega) (by omega) hxa2.size ?_; intro vb2 wb2 hownb2 hgr; have hxb2 := hxa2.push hoa2 (Nat.le_refl _) hgr; clear hgr hoa2 hxa2))
        have HO3 : wb2.ownsRow W2.heap.size 5 1 vb2 (D2 ++ P2).length ((D2 ++ P2).map byteC) := by rw [List.length_append, List.map_append]; exact hownb2
        have hle3 : (D2 ++ P2).length ≤ 55 := by rw [List.length_append]; omega
        generalize hD : D2 ++ P2 = D3 at *
        have HD3 := Lib.hid hD
        clear hD hownb2 hle2 hPl2
        have d4 := hxb2.has HE4.out
        go_wp2_with fail
        refine (sigref_Put _ _ f.results _ ((HFI2.out.ext hxb2)).h3 (by omega)).mono ?_
        rintro e wa3 ⟨ao, ac, rfl, hcX, hxX, -⟩
        have hPl3 : (sigPut f.results).length ≤ 14 := by have := sigPut_le f.results; omega
        generalize hP : sigPut f.results = P3 at *
        have HP3 := Lib.hid hP
        clear hP d4
        have hoa3 := own_ext HO3 hxX
        have hxa3 := hxb2.tr hxX
        clear HO3 hxb2 hxX
        go_upto_region 14 with (at_builtin; (refine wpList_appendAll rfl (.tmp 41) (.tmp 44) 38 rfl W2.heap.size 5 (.int .u8 0) 1 1 Try.underlying38 (by kernel_rfl) rfl (by decide) _ D3.length _ ao P3.length _ (P3.map byteC) rfl hoa3 rfl hcX (by simp) (by intro u hu; simp only [List.mem_map] at hu; obtain ⟨_, _, rfl⟩ := hu; rfl) (by unfold maxLen; omega) (by omega) hxa3.size ?_; intro vb3 wb3 hownb3 hgr; have hxb3 := hxa3.push hoa3 (Nat.le_refl _) hgr; clear hgr hoa3 hxa3))
        have HO4 : wb3.ownsRow W2.heap.size 5 1 vb3 (D3 ++ P3).length ((D3 ++ P3).map byteC) := by rw [List.length_append, List.map_append]; exact hownb3
        have hle4 : (D3 ++ P3).length ≤ 69 := by rw [List.length_append]; omega
        generalize hD : D3 ++ P3 = D4 at *
        have HD4 := Lib.hid hD
        clear hD hownb3 hle3 hPl3
        have d5 := hxb3.has HE5.out
        go_wp2_with fail
        refine (sigref_Put _ _ f.locs _ ((HFI2.out.ext hxb3)).h4 (by omega)).mono ?_
        rintro e wa4 ⟨ao, ac, rfl, hcX, hxX, -⟩
        have hPl4 : (sigPut f.locs).length ≤ 266 := by have := sigPut_le f.locs; omega
        generalize hP : sigPut f.locs = P4 at *
        have HP4 := Lib.hid hP
        clear hP d5
        have hoa4 := own_ext HO4 hxX
        have hxa4 := hxb3.tr hxX
        clear HO4 hxb3 hxX
        go_upto_region 15 with (at_builtin; (refine wpList_appendAll rfl (.tmp 46) (.tmp 49) 38 rfl W2.heap.size 5 (.int .u8 0) 1 1 Try.underlying38 (by kernel_rfl) rfl (by decide) _ D4.length _ ao P4.length _ (P4.map byteC) rfl hoa4 rfl hcX (by simp) (by intro u hu; simp only [List.mem_map] at hu; obtain ⟨_, _, rfl⟩ := hu; rfl) (by unfold maxLen; omega) (by omega) hxa4.size ?_; intro vb4 wb4 hownb4 hgr; have hxb4 := hxa4.push hoa4 (Nat.le_refl _) hgr; clear hgr hoa4 hxa4))
        have HO5 : wb4.ownsRow W2.heap.size 5 1 vb4 (D4 ++ P4).length ((D4 ++ P4).map byteC) := by rw [List.length_append, List.map_append]; exact hownb4
        have hle5 : (D4 ++ P4).length ≤ 335 := by rw [List.length_append]; omega
        generalize hD : D4 ++ P4 = D5 at *
        have HD5 := Lib.hid hD
        clear hD hownb4 hle4 hPl4
        have d6 := hxb4.has HE6.out
        go_wp2_with fail
        refine (uvarref_PutO f.code.length _ (by omega)).mono ?_
        rintro e wa5 ⟨va, rfl, hoX, hxX⟩
        obtain ⟨ao, ac, rfl, hcX, -⟩ := own_cells hoX
        clear hoX
        have hPl5 : (putB f.code.length).length ≤ 10 := putB_le _
        generalize hP : putB f.code.length = P5 at *
        have HP5 := Lib.hid hP
        clear hP d6
        have hoa5 := own_ext HO5 hxX
        have hxa5 := hxb4.tr hxX
        clear HO5 hxb4 hxX
        go_upto_region 16 with (at_builtin; (refine wpList_appendAll rfl (.tmp 51) (.tmp 56) 38 rfl W2.heap.size 5 (.int .u8 0) 1 1 Try.underlying38 (by kernel_rfl) rfl (by decide) _ D5.length _ ao P5.length _ (P5.map byteC) rfl hoa5 rfl hcX (by simp) (by intro u hu; simp only [List.mem_map] at hu; obtain ⟨_, _, rfl⟩ := hu; rfl) (by unfold maxLen; omega) (by omega) hxa5.size ?_; intro vb5 wb5 hownb5 hgr; have hxb5 := hxa5.push hoa5 (Nat.le_refl _) hgr; clear hgr hoa5 hxa5))
        have HO6 : wb5.ownsRow W2.heap.size 5 1 vb5 (D5 ++ P5).length ((D5 ++ P5).map byteC) := by rw [List.length_append, List.map_append]; exact hownb5
        have hle6 : (D5 ++ P5).length ≤ 345 := by rw [List.length_append]; omega
        generalize hD : D5 ++ P5 = D6 at *
        have HD6 := Lib.hid hD
        clear hD hownb5 hle5 hPl5
        go_wp2_with fail
        go_loopw [3, 5] (fun u i wr => ∃ k : Nat, k ≤ f.code.length ∧ i = .int .i64 k ∧ wr.ownsRow W2.heap.size 5 1 u (D6 ++ (f.code.take k).flatMap putInstr).length ((D6 ++ (f.code.take k).flatMap putInstr).map byteC) ∧ Ext W2 wr)
          (fun _ i _ => f.code.length - (intOf i).toNat)
        case atStart => exact ⟨0, Nat.zero_le _, rfl, by simpa using HO6, hxb5⟩
        case round =>
          clear HO6 hxb5
          obtain ⟨k, hk, rfl, hownk, hxk⟩ := hrel
          have d6 := hxk.has HE6.out
          have hle : ((f.code.take k).flatMap putInstr).length ≤ k * 11 := by
            have := flat_le putInstr 11 putInstr_le (f.code.take k)
            rw [List.length_take] at this; have e : min k f.code.length = k := by omega
            rwa [e] at this
          by_cases hlt : k < f.code.length
          · obtain ⟨b, off, eo, x1, x2⟩ := (HFI2.out.ext hxk).h5.pair hlt
            have HS := Lib.hid (flat_snoc putInstr hlt)
            obtain ⟨hi1, hi2⟩ := (HFB.out.v5 _ (List.getElem_mem hlt)).2
            generalize f.code[k] = x at *
            have HD : Hid (D6 ++ (f.code.take (k + 1)).flatMap putInstr = (D6 ++ (f.code.take k).flatMap putInstr) ++ putInstr x) := by rw [Hid, HS.out, List.append_assoc]
            have hle2 : (D6 ++ (f.code.take k).flatMap putInstr).length ≤ 30000 := by rw [List.length_append]; omega
            clear HS
            generalize D6 ++ (f.code.take k).flatMap putInstr = Dk at *
            rw [eo] at d6
            replace eo := Lib.hid eo
            go_wp2_with fail
            refine (instrref_Put x _ hi1 hi2).mono ?_
            rintro e wa ⟨ao, ac, rfl, hcX, hxX, -⟩
            have hPl : (putInstr x).length ≤ 11 := putInstr_le x
            generalize putInstr x = PX at *
            have hoa := own_ext hownk hxX
            have hxa := hxk.tr hxX
            clear hownk hxk hxX d6 x1 x2
            go_wp2_with (at_builtin; (refine wpList_appendAll rfl (.tmp 65) (.tmp 71) 38 rfl W2.heap.size 5 (.int .u8 0) 1 1 Try.underlying38 (by kernel_rfl) rfl (by decide) _ Dk.length _ ao PX.length _ (PX.map byteC) rfl hoa rfl hcX (by simp) (by intro u hu; simp only [List.mem_map] at hu; obtain ⟨_, _, rfl⟩ := hu; rfl) (by unfold maxLen; omega) (by omega) hxa.size ?_; intro v' wb hownB hgr; have hxB := hxa.push hoa (Nat.le_refl _) hgr; clear hgr hoa hxa))
            have HOk : Hid (wb.ownsRow W2.heap.size 5 1 v' (Dk ++ PX).length ((Dk ++ PX).map byteC)) := by rw [Hid, List.length_append, List.map_append]; exact hownB
            clear hownB
            go_roundw
            case rel =>
              first
              | exact ⟨k + 1, by omega, by go_num, by rw [HD.out]; exact HOk.out, hxB⟩
              | (refine ⟨_, _, _, _, _, _, _, _, _, _, _, _, _, _, _, _, _, _, _, _, _, _, _, _, _, _, _, _, _, _, _, _, _, _, _, _, _, _, _, _, _, _, ?_, rfl⟩
                 exact ⟨k + 1, by omega, by go_num, by rw [HD.out]; exact HOk.out, hxB⟩)
            case measure => simp [intOf]; omega
          · obtain rfl : k = f.code.length := by omega
            rw [List.take_of_length_le (Nat.le_refl _)] at hownk hle
            have hPl6 : (f.code.flatMap putInstr).length ≤ 22000 := by omega
            generalize hP : f.code.flatMap putInstr = P6 at *
            have HP6 := Lib.hid hP
            clear hP hle
            have hownb6 : wr.ownsRow W2.heap.size 5 1 u3 (D6 ++ P6).length ((D6 ++ P6).map byteC) := hownk
            have hxb6 := hxk
            clear hownk hxk
            go_upto_region 20 with fail
            clear d6
            have hle7 : (D6 ++ P6).length ≤ 22345 := by rw [List.length_append]; omega
            generalize hD : D6 ++ P6 = D7 at *
            have HD7 := Lib.hid hD
            have HO7 := hownb6
            clear hD hownb6 hle6 hPl6
            have d7 := hxb6.has HE7.out
            go_wp2_with fail
            refine (runsref_Put _ _ f.lines _ ((HFI2.out.ext hxb6)).h6 (by omega) HFB.out.v6).mono ?_
            rintro e wa7 ⟨ao, ac, rfl, hcX, hxX, -⟩
            have hPl7 : (putRuns (runsOf f.lines)).length ≤ 40000 := by have := putRuns_le (runsOf f.lines); have := (cntOk f.lines).1; omega
            generalize hP : putRuns (runsOf f.lines) = P7 at *
            have HP7 := Lib.hid hP
            clear hP d7
            have hoa7 := own_ext HO7 hxX
            have hxa7 := hxb6.tr hxX
            clear HO7 hxb6 hxX
            go_upto_region 21 with (at_builtin; (refine wpList_appendAll rfl (.tmp 73) (.tmp 76) 38 rfl W2.heap.size 5 (.int .u8 0) 1 1 Try.underlying38 (by kernel_rfl) rfl (by decide) _ D7.length _ ao P7.length _ (P7.map byteC) rfl hoa7 rfl hcX (by simp) (by intro u hu; simp only [List.mem_map] at hu; obtain ⟨_, _, rfl⟩ := hu; rfl) (by unfold maxLen; omega) (by omega) hxa7.size ?_; intro vb7 wb7 hownb7 hgr; have hxb7 := hxa7.push hoa7 (Nat.le_refl _) hgr; clear hgr hoa7 hxa7))
            have HO8 : wb7.ownsRow W2.heap.size 5 1 vb7 (D7 ++ P7).length ((D7 ++ P7).map byteC) := by rw [List.length_append, List.map_append]; exact hownb7
            have hle8 : (D7 ++ P7).length ≤ 62345 := by rw [List.length_append]; omega
            generalize hD : D7 ++ P7 = D8 at *
            have HD8 := Lib.hid hD
            clear hD hownb7 hle7 hPl7
            skip
            have d0 := hxb7.has HE0.out
            have d1 := hxb7.has HE1.out
            have d2 := hxb7.has HE2.out
            have d3 := hxb7.has HE3.out
            have d4 := hxb7.has HE4.out
            have d5 := hxb7.has HE5.out
            have d6 := hxb7.has HE6.out
            have d7 := hxb7.has HE7.out
            have d8 := hxb7.has HE8.out
            have d9 := hxb7.has HE9.out
            have d10 := hxb7.has HE10.out
            go_wp2_with fail
            refine (HBR.out _).mono ?_
            rintro e wg ⟨rfl, hxg⟩
            have hoG := own_ext HO8 hxg
            have hxG := hxb7.tr hxg
            clear HO8 hxb7 hxg d0 d1 d2 d3 d4 d5 d6 d7 d8 d9 d10
            have HO8 := hoG
            have hxb7 := hxG
            clear hoG hxG
            obtain ⟨ro, rc, hro, hcR, hfR⟩ := own_cells HO8
            subst hro
            clear HO8
            go_wp2_with fail
            go_ret
            have HB : Hid (putF' f = D8) := by rw [Hid, HRB.out, ← HD8.out, ← HD7.out, ← HD6.out, ← HD5.out, ← HD4.out, ← HD3.out, ← HD2.out, ← HD1.out, ← HP0.out, ← HP1.out, ← HP2.out, ← HP3.out, ← HP4.out, ← HP5.out, ← HP6.out, ← HP7.out, ← HD0.out]; simp only [List.append_assoc, List.append_nil, List.nil_append]
            exact ⟨ro, rc, by rw [HB.out] <;> rfl, by rw [HB.out]; exact hcR, HX2.out.tr hxb7, fun ad e => Nat.le_trans HX2.out.size (hfR ad e)⟩
      · have HRB : Hid (putF' f = (putB f.name.size ++ f.name.data.toList ++ [(3 : UInt8)]) ++ (sigPut f.outer ++ sigPut f.params ++ sigPut f.results ++ sigPut f.locs) ++ (putB f.code.length ++ f.code.flatMap putInstr) ++ putRuns (runsOf f.lines) ++ (putTree f.nodes ++ putRuns (runsOf f.ats) ++ putMaps f.live)) := by
          rw [Hid, HRB0.out, bytesY, headY, sigsY, codeY, tabsY, flagF, hi, hq]; rfl
        rw [hi] at HE1 HBR
        rw [hq] at HBR
        generalize hD : putB f.name.size ++ f.name.data.toList = D0 at *
        have HD0 := Lib.hid hD
        clear hD HRB0 hi hq
        have d0 := hxb.has HE0.out
        have d1 := hxb.has HE1.out
        have d2 := hxb.has HE2.out
        have d3 := hxb.has HE3.out
        have d4 := hxb.has HE4.out
        have d5 := hxb.has HE5.out
        have d6 := hxb.has HE6.out
        have d7 := hxb.has HE7.out
        have d8 := hxb.has HE8.out
        have d9 := hxb.has HE9.out
        have d10 := hxb.has HE10.out
        go_upto_region 7 with fail
        go_wp2_with fail
        refine (HBR.out _).mono ?_
        rintro e wf ⟨rfl, hxf⟩
        have hoF := own_ext hown0 hxf
        have hxF := hxb.tr hxf
        clear hown0 hxb hxf d0 d1 d2 d3 d4 d5 d6 d7 d8 d9 d10
        go_upto_region 10 with (at_builtin; (refine wpList_push rfl (.tmp 25) (.tmp 27) 38 rfl W2.heap.size 5 5 (.int .u8 0) 1 1 Try.underlying38 (by kernel_rfl) rfl (by decide) _ D0.length _ [.int .u8 3] rfl hoF _ rfl (by simp) rfl (by simp [Value.oneCell']) (by unfold maxLen; omega) (by omega) hxF.size ?_; intro vb0 wb0 hownb0 hgr; have hxb0 := hxF.push hoF (Nat.le_refl _) hgr; clear hgr hoF hxF))
        obtain ⟨P0, HP0⟩ : ∃ P0 : List UInt8, Hid ([(3 : UInt8)] = P0) := ⟨_, Lib.hid rfl⟩
        have hPl0 : P0.length ≤ 1 := by rw [← HP0.out]; exact Nat.le_refl _
        have hownb0 : wb0.ownsRow W2.heap.size 5 1 vb0 (D0.length + P0.length) (D0.map byteC ++ P0.map byteC) := by rw [← HP0.out]; exact hownb0
        have HO1 : wb0.ownsRow W2.heap.size 5 1 vb0 (D0 ++ P0).length ((D0 ++ P0).map byteC) := by rw [List.length_append, List.map_append]; exact hownb0
        have hle1 : (D0 ++ P0).length ≤ 23 := by rw [List.length_append]; omega
        generalize hD : D0 ++ P0 = D1 at *
        have HD1 := Lib.hid hD
        clear hD hownb0 hle0 hPl0
        have d1 := hxb0.has HE1.out
        go_upto_region 11 with fail
        clear d1
        have d2 := hxb0.has HE2.out
        go_wp2_with fail
        refine (sigref_Put _ _ f.outer _ ((HFI2.out.ext hxb0)).h1 (by omega)).mono ?_
        rintro e wa1 ⟨ao, ac, rfl, hcX, hxX, -⟩
        have hPl1 : (sigPut f.outer).length ≤ 14 := by have := sigPut_le f.outer; omega
        generalize hP : sigPut f.outer = P1 at *
        have HP1 := Lib.hid hP
        clear hP d2
        have hoa1 := own_ext HO1 hxX
        have hxa1 := hxb0.tr hxX
        clear HO1 hxb0 hxX
        go_upto_region 12 with (at_builtin; (refine wpList_appendAll rfl (.tmp 31) (.tmp 34) 38 rfl W2.heap.size 5 (.int .u8 0) 1 1 Try.underlying38 (by kernel_rfl) rfl (by decide) _ D1.length _ ao P1.length _ (P1.map byteC) rfl hoa1 rfl hcX (by simp) (by intro u hu; simp only [List.mem_map] at hu; obtain ⟨_, _, rfl⟩ := hu; rfl) (by unfold maxLen; omega) (by omega) hxa1.size ?_; intro vb1 wb1 hownb1 hgr; have hxb1 := hxa1.push hoa1 (Nat.le_refl _) hgr; clear hgr hoa1 hxa1))
        have HO2 : wb1.ownsRow W2.heap.size 5 1 vb1 (D1 ++ P1).length ((D1 ++ P1).map byteC) := by rw [List.length_append, List.map_append]; exact hownb1
        have hle2 : (D1 ++ P1).length ≤ 37 := by rw [List.length_append]; omega
        generalize hD : D1 ++ P1 = D2 at *
        have HD2 := Lib.hid hD
        clear hD hownb1 hle1 hPl1
        have d3 := hxb1.has HE3.out
        go_wp2_with fail
        refine (sigref_Put _ _ f.params _ ((HFI2.out.ext hxb1)).h2 (by omega)).mono ?_
        rintro e wa2 ⟨ao, ac, rfl, hcX, hxX, -⟩
        have hPl2 : (sigPut f.params).length ≤ 18 := by have := sigPut_le f.params; omega
        generalize hP : sigPut f.params = P2 at *
        have HP2 := Lib.hid hP
        clear hP d3
        have hoa2 := own_ext HO2 hxX
        have hxa2 := hxb1.tr hxX
        clear HO2 hxb1 hxX
        go_upto_region 13 with (at_builtin; (refine wpList_appendAll rfl (.tmp 36) (.tmp 39) 38 rfl W2.heap.size 5 (.int .u8 0) 1 1 Try.underlying38 (by kernel_rfl) rfl (by decide) _ D2.length _ ao P2.length _ (P2.map byteC) rfl hoa2 rfl hcX (by simp) (by intro u hu; simp only [List.mem_map] at hu; obtain ⟨_, _, rfl⟩ := hu; rfl) (by unfold maxLen; omega) (by omega) hxa2.size ?_; intro vb2 wb2 hownb2 hgr; have hxb2 := hxa2.push hoa2 (Nat.le_refl _) hgr; clear hgr hoa2 hxa2))
        have HO3 : wb2.ownsRow W2.heap.size 5 1 vb2 (D2 ++ P2).length ((D2 ++ P2).map byteC) := by rw [List.length_append, List.map_append]; exact hownb2
        have hle3 : (D2 ++ P2).length ≤ 55 := by rw [List.length_append]; omega
        generalize hD : D2 ++ P2 = D3 at *
        have HD3 := Lib.hid hD
        clear hD hownb2 hle2 hPl2
        have d4 := hxb2.has HE4.out
        go_wp2_with fail
        refine (sigref_Put _ _ f.results _ ((HFI2.out.ext hxb2)).h3 (by omega)).mono ?_
        rintro e wa3 ⟨ao, ac, rfl, hcX, hxX, -⟩
        have hPl3 : (sigPut f.results).length ≤ 14 := by have := sigPut_le f.results; omega
        generalize hP : sigPut f.results = P3 at *
        have HP3 := Lib.hid hP
        clear hP d4
        have hoa3 := own_ext HO3 hxX
        have hxa3 := hxb2.tr hxX
        clear HO3 hxb2 hxX
        go_upto_region 14 with (at_builtin; (refine wpList_appendAll rfl (.tmp 41) (.tmp 44) 38 rfl W2.heap.size 5 (.int .u8 0) 1 1 Try.underlying38 (by kernel_rfl) rfl (by decide) _ D3.length _ ao P3.length _ (P3.map byteC) rfl hoa3 rfl hcX (by simp) (by intro u hu; simp only [List.mem_map] at hu; obtain ⟨_, _, rfl⟩ := hu; rfl) (by unfold maxLen; omega) (by omega) hxa3.size ?_; intro vb3 wb3 hownb3 hgr; have hxb3 := hxa3.push hoa3 (Nat.le_refl _) hgr; clear hgr hoa3 hxa3))
        have HO4 : wb3.ownsRow W2.heap.size 5 1 vb3 (D3 ++ P3).length ((D3 ++ P3).map byteC) := by rw [List.length_append, List.map_append]; exact hownb3
        have hle4 : (D3 ++ P3).length ≤ 69 := by rw [List.length_append]; omega
        generalize hD : D3 ++ P3 = D4 at *
        have HD4 := Lib.hid hD
        clear hD hownb3 hle3 hPl3
        have d5 := hxb3.has HE5.out
        go_wp2_with fail
        refine (sigref_Put _ _ f.locs _ ((HFI2.out.ext hxb3)).h4 (by omega)).mono ?_
        rintro e wa4 ⟨ao, ac, rfl, hcX, hxX, -⟩
        have hPl4 : (sigPut f.locs).length ≤ 266 := by have := sigPut_le f.locs; omega
        generalize hP : sigPut f.locs = P4 at *
        have HP4 := Lib.hid hP
        clear hP d5
        have hoa4 := own_ext HO4 hxX
        have hxa4 := hxb3.tr hxX
        clear HO4 hxb3 hxX
        go_upto_region 15 with (at_builtin; (refine wpList_appendAll rfl (.tmp 46) (.tmp 49) 38 rfl W2.heap.size 5 (.int .u8 0) 1 1 Try.underlying38 (by kernel_rfl) rfl (by decide) _ D4.length _ ao P4.length _ (P4.map byteC) rfl hoa4 rfl hcX (by simp) (by intro u hu; simp only [List.mem_map] at hu; obtain ⟨_, _, rfl⟩ := hu; rfl) (by unfold maxLen; omega) (by omega) hxa4.size ?_; intro vb4 wb4 hownb4 hgr; have hxb4 := hxa4.push hoa4 (Nat.le_refl _) hgr; clear hgr hoa4 hxa4))
        have HO5 : wb4.ownsRow W2.heap.size 5 1 vb4 (D4 ++ P4).length ((D4 ++ P4).map byteC) := by rw [List.length_append, List.map_append]; exact hownb4
        have hle5 : (D4 ++ P4).length ≤ 335 := by rw [List.length_append]; omega
        generalize hD : D4 ++ P4 = D5 at *
        have HD5 := Lib.hid hD
        clear hD hownb4 hle4 hPl4
        have d6 := hxb4.has HE6.out
        go_wp2_with fail
        refine (uvarref_PutO f.code.length _ (by omega)).mono ?_
        rintro e wa5 ⟨va, rfl, hoX, hxX⟩
        obtain ⟨ao, ac, rfl, hcX, -⟩ := own_cells hoX
        clear hoX
        have hPl5 : (putB f.code.length).length ≤ 10 := putB_le _
        generalize hP : putB f.code.length = P5 at *
        have HP5 := Lib.hid hP
        clear hP d6
        have hoa5 := own_ext HO5 hxX
        have hxa5 := hxb4.tr hxX
        clear HO5 hxb4 hxX
        go_upto_region 16 with (at_builtin; (refine wpList_appendAll rfl (.tmp 51) (.tmp 56) 38 rfl W2.heap.size 5 (.int .u8 0) 1 1 Try.underlying38 (by kernel_rfl) rfl (by decide) _ D5.length _ ao P5.length _ (P5.map byteC) rfl hoa5 rfl hcX (by simp) (by intro u hu; simp only [List.mem_map] at hu; obtain ⟨_, _, rfl⟩ := hu; rfl) (by unfold maxLen; omega) (by omega) hxa5.size ?_; intro vb5 wb5 hownb5 hgr; have hxb5 := hxa5.push hoa5 (Nat.le_refl _) hgr; clear hgr hoa5 hxa5))
        have HO6 : wb5.ownsRow W2.heap.size 5 1 vb5 (D5 ++ P5).length ((D5 ++ P5).map byteC) := by rw [List.length_append, List.map_append]; exact hownb5
        have hle6 : (D5 ++ P5).length ≤ 345 := by rw [List.length_append]; omega
        generalize hD : D5 ++ P5 = D6 at *
        have HD6 := Lib.hid hD
        clear hD hownb5 hle5 hPl5
        go_wp2_with fail
        go_loopw [3, 5] (fun u i wr => ∃ k : Nat, k ≤ f.code.length ∧ i = .int .i64 k ∧ wr.ownsRow W2.heap.size 5 1 u (D6 ++ (f.code.take k).flatMap putInstr).length ((D6 ++ (f.code.take k).flatMap putInstr).map byteC) ∧ Ext W2 wr)
          (fun _ i _ => f.code.length - (intOf i).toNat)
        case atStart => exact ⟨0, Nat.zero_le _, rfl, by simpa using HO6, hxb5⟩
        case round =>
          clear HO6 hxb5
          obtain ⟨k, hk, rfl, hownk, hxk⟩ := hrel
          have d6 := hxk.has HE6.out
          have hle : ((f.code.take k).flatMap putInstr).length ≤ k * 11 := by
            have := flat_le putInstr 11 putInstr_le (f.code.take k)
            rw [List.length_take] at this; have e : min k f.code.length = k := by omega
            rwa [e] at this
          by_cases hlt : k < f.code.length
          · obtain ⟨b, off, eo, x1, x2⟩ := (HFI2.out.ext hxk).h5.pair hlt
            have HS := Lib.hid (flat_snoc putInstr hlt)
            obtain ⟨hi1, hi2⟩ := (HFB.out.v5 _ (List.getElem_mem hlt)).2
            generalize f.code[k] = x at *
            have HD : Hid (D6 ++ (f.code.take (k + 1)).flatMap putInstr = (D6 ++ (f.code.take k).flatMap putInstr) ++ putInstr x) := by rw [Hid, HS.out, List.append_assoc]
            have hle2 : (D6 ++ (f.code.take k).flatMap putInstr).length ≤ 30000 := by rw [List.length_append]; omega
            clear HS
            generalize D6 ++ (f.code.take k).flatMap putInstr = Dk at *
            rw [eo] at d6
            replace eo := Lib.hid eo
            go_wp2_with fail
            refine (instrref_Put x _ hi1 hi2).mono ?_
            rintro e wa ⟨ao, ac, rfl, hcX, hxX, -⟩
            have hPl : (putInstr x).length ≤ 11 := putInstr_le x
            generalize putInstr x = PX at *
            have hoa := own_ext hownk hxX
            have hxa := hxk.tr hxX
            clear hownk hxk hxX d6 x1 x2
            go_wp2_with (at_builtin; (refine wpList_appendAll rfl (.tmp 65) (.tmp 71) 38 rfl W2.heap.size 5 (.int .u8 0) 1 1 Try.underlying38 (by kernel_rfl) rfl (by decide) _ Dk.length _ ao PX.length _ (PX.map byteC) rfl hoa rfl hcX (by simp) (by intro u hu; simp only [List.mem_map] at hu; obtain ⟨_, _, rfl⟩ := hu; rfl) (by unfold maxLen; omega) (by omega) hxa.size ?_; intro v' wb hownB hgr; have hxB := hxa.push hoa (Nat.le_refl _) hgr; clear hgr hoa hxa))
            have HOk : Hid (wb.ownsRow W2.heap.size 5 1 v' (Dk ++ PX).length ((Dk ++ PX).map byteC)) := by rw [Hid, List.length_append, List.map_append]; exact hownB
            clear hownB
            go_roundw
            case rel =>
              first
              | exact ⟨k + 1, by omega, by go_num, by rw [HD.out]; exact HOk.out, hxB⟩
              | (refine ⟨_, _, _, _, _, _, _, _, _, _, _, _, _, _, _, _, _, _, _, _, _, _, _, _, _, _, _, _, _, _, _, _, _, _, _, _, _, _, _, _, _, _, ?_, rfl⟩
                 exact ⟨k + 1, by omega, by go_num, by rw [HD.out]; exact HOk.out, hxB⟩)
            case measure => simp [intOf]; omega
          · obtain rfl : k = f.code.length := by omega
            rw [List.take_of_length_le (Nat.le_refl _)] at hownk hle
            have hPl6 : (f.code.flatMap putInstr).length ≤ 22000 := by omega
            generalize hP : f.code.flatMap putInstr = P6 at *
            have HP6 := Lib.hid hP
            clear hP hle
            have hownb6 : wr.ownsRow W2.heap.size 5 1 u3 (D6 ++ P6).length ((D6 ++ P6).map byteC) := hownk
            have hxb6 := hxk
            clear hownk hxk
            go_upto_region 20 with fail
            clear d6
            have hle7 : (D6 ++ P6).length ≤ 22345 := by rw [List.length_append]; omega
            generalize hD : D6 ++ P6 = D7 at *
            have HD7 := Lib.hid hD
            have HO7 := hownb6
            clear hD hownb6 hle6 hPl6
            have d7 := hxb6.has HE7.out
            go_wp2_with fail
            refine (runsref_Put _ _ f.lines _ ((HFI2.out.ext hxb6)).h6 (by omega) HFB.out.v6).mono ?_
            rintro e wa7 ⟨ao, ac, rfl, hcX, hxX, -⟩
            have hPl7 : (putRuns (runsOf f.lines)).length ≤ 40000 := by have := putRuns_le (runsOf f.lines); have := (cntOk f.lines).1; omega
            generalize hP : putRuns (runsOf f.lines) = P7 at *
            have HP7 := Lib.hid hP
            clear hP d7
            have hoa7 := own_ext HO7 hxX
            have hxa7 := hxb6.tr hxX
            clear HO7 hxb6 hxX
            go_upto_region 21 with (at_builtin; (refine wpList_appendAll rfl (.tmp 73) (.tmp 76) 38 rfl W2.heap.size 5 (.int .u8 0) 1 1 Try.underlying38 (by kernel_rfl) rfl (by decide) _ D7.length _ ao P7.length _ (P7.map byteC) rfl hoa7 rfl hcX (by simp) (by intro u hu; simp only [List.mem_map] at hu; obtain ⟨_, _, rfl⟩ := hu; rfl) (by unfold maxLen; omega) (by omega) hxa7.size ?_; intro vb7 wb7 hownb7 hgr; have hxb7 := hxa7.push hoa7 (Nat.le_refl _) hgr; clear hgr hoa7 hxa7))
            have HO8 : wb7.ownsRow W2.heap.size 5 1 vb7 (D7 ++ P7).length ((D7 ++ P7).map byteC) := by rw [List.length_append, List.map_append]; exact hownb7
            have hle8 : (D7 ++ P7).length ≤ 62345 := by rw [List.length_append]; omega
            generalize hD : D7 ++ P7 = D8 at *
            have HD8 := Lib.hid hD
            clear hD hownb7 hle7 hPl7
            skip
            have d0 := hxb7.has HE0.out
            have d1 := hxb7.has HE1.out
            have d2 := hxb7.has HE2.out
            have d3 := hxb7.has HE3.out
            have d4 := hxb7.has HE4.out
            have d5 := hxb7.has HE5.out
            have d6 := hxb7.has HE6.out
            have d7 := hxb7.has HE7.out
            have d8 := hxb7.has HE8.out
            have d9 := hxb7.has HE9.out
            have d10 := hxb7.has HE10.out
            go_wp2_with fail
            refine (HBR.out _).mono ?_
            rintro e wg ⟨rfl, hxg⟩
            have hoG := own_ext HO8 hxg
            have hxG := hxb7.tr hxg
            clear HO8 hxb7 hxg d0 d1 d2 d3 d4 d5 d6 d7 d8 d9 d10
            have HO8 := hoG
            have hxb7 := hxG
            clear hoG hxG
            go_upto_region 22 with fail
            have d8 := hxb7.has HE8.out
            go_wp2_with fail
            refine (treeref_Put _ _ f.nodes _ ((HFI2.out.ext hxb7)).h7 (by omega) HFB.out.v7).mono ?_
            rintro e wa8 ⟨ao, ac, rfl, hcX, hxX, -⟩
            have hPl8 : (putTree f.nodes).length ≤ 8410 := by have := putB_le f.nodes.length; have := flat_le putNode 70 putNode_le f.nodes; rw [putTree, List.length_append]; omega
            generalize hP : putTree f.nodes = P8 at *
            have HP8 := Lib.hid hP
            clear hP d8
            have hoa8 := own_ext HO8 hxX
            have hxa8 := hxb7.tr hxX
            clear HO8 hxb7 hxX
            go_upto_region 23 with (at_builtin; (refine wpList_appendAll rfl (.tmp 81) (.tmp 84) 38 rfl W2.heap.size 5 (.int .u8 0) 1 1 Try.underlying38 (by kernel_rfl) rfl (by decide) _ D8.length _ ao P8.length _ (P8.map byteC) rfl hoa8 rfl hcX (by simp) (by intro u hu; simp only [List.mem_map] at hu; obtain ⟨_, _, rfl⟩ := hu; rfl) (by unfold maxLen; omega) (by omega) hxa8.size ?_; intro vb8 wb8 hownb8 hgr; have hxb8 := hxa8.push hoa8 (Nat.le_refl _) hgr; clear hgr hoa8 hxa8))
            have HO9 : wb8.ownsRow W2.heap.size 5 1 vb8 (D8 ++ P8).length ((D8 ++ P8).map byteC) := by rw [List.length_append, List.map_append]; exact hownb8
            have hle9 : (D8 ++ P8).length ≤ 70755 := by rw [List.length_append]; omega
            generalize hD : D8 ++ P8 = D9 at *
            have HD9 := Lib.hid hD
            clear hD hownb8 hle8 hPl8
            have d9 := hxb8.has HE9.out
            go_wp2_with fail
            refine (runsref_Put _ _ f.ats _ ((HFI2.out.ext hxb8)).h8 (by omega) HFB.out.v8).mono ?_
            rintro e wa9 ⟨ao, ac, rfl, hcX, hxX, -⟩
            have hPl9 : (putRuns (runsOf f.ats)).length ≤ 40000 := by have := putRuns_le (runsOf f.ats); have := (cntOk f.ats).1; omega
            generalize hP : putRuns (runsOf f.ats) = P9 at *
            have HP9 := Lib.hid hP
            clear hP d9
            have hoa9 := own_ext HO9 hxX
            have hxa9 := hxb8.tr hxX
            clear HO9 hxb8 hxX
            go_upto_region 24 with (at_builtin; (refine wpList_appendAll rfl (.tmp 86) (.tmp 89) 38 rfl W2.heap.size 5 (.int .u8 0) 1 1 Try.underlying38 (by kernel_rfl) rfl (by decide) _ D9.length _ ao P9.length _ (P9.map byteC) rfl hoa9 rfl hcX (by simp) (by intro u hu; simp only [List.mem_map] at hu; obtain ⟨_, _, rfl⟩ := hu; rfl) (by unfold maxLen; omega) (by omega) hxa9.size ?_; intro vb9 wb9 hownb9 hgr; have hxb9 := hxa9.push hoa9 (Nat.le_refl _) hgr; clear hgr hoa9 hxa9))
            have HO10 : wb9.ownsRow W2.heap.size 5 1 vb9 (D9 ++ P9).length ((D9 ++ P9).map byteC) := by rw [List.length_append, List.map_append]; exact hownb9
            have hle10 : (D9 ++ P9).length ≤ 110755 := by rw [List.length_append]; omega
            generalize hD : D9 ++ P9 = D10 at *
            have HD10 := Lib.hid hD
            clear hD hownb9 hle9 hPl9
            have d10 := hxb9.has HE10.out
            go_wp2_with fail
            refine (mapsref_Put _ _ f.live _ ((HFI2.out.ext hxb9)).h9 (by omega) HFB.out.v9).mono ?_
            rintro e wa10 ⟨ao, ac, rfl, hcX, hxX, -⟩
            have hPl10 : (putMaps f.live).length ≤ 100000 := by have := putMaps_le f.live; omega
            generalize hP : putMaps f.live = P10 at *
            have HP10 := Lib.hid hP
            clear hP d10
            have hoa10 := own_ext HO10 hxX
            have hxa10 := hxb9.tr hxX
            clear HO10 hxb9 hxX
            go_upto_region 25 with (at_builtin; (refine wpList_appendAll rfl (.tmp 91) (.tmp 94) 38 rfl W2.heap.size 5 (.int .u8 0) 1 1 Try.underlying38 (by kernel_rfl) rfl (by decide) _ D10.length _ ao P10.length _ (P10.map byteC) rfl hoa10 rfl hcX (by simp) (by intro u hu; simp only [List.mem_map] at hu; obtain ⟨_, _, rfl⟩ := hu; rfl) (by unfold maxLen; omega) (by omega) hxa10.size ?_; intro vb10 wb10 hownb10 hgr; have hxb10 := hxa10.push hoa10 (Nat.le_refl _) hgr; clear hgr hoa10 hxa10))
            have HO11 : wb10.ownsRow W2.heap.size 5 1 vb10 (D10 ++ P10).length ((D10 ++ P10).map byteC) := by rw [List.length_append, List.map_append]; exact hownb10
            have hle11 : (D10 ++ P10).length ≤ 210755 := by rw [List.length_append]; omega
            generalize hD : D10 ++ P10 = D11 at *
            have HD11 := Lib.hid hD
            clear hD hownb10 hle10 hPl10
            obtain ⟨ro, rc, hro, hcR, hfR⟩ := own_cells HO11
            subst hro
            clear HO11
            go_wp2_with fail
            go_ret
            have HB : Hid (putF' f = D11) := by rw [Hid, HRB.out, ← HD11.out, ← HD10.out, ← HD9.out, ← HD8.out, ← HD7.out, ← HD6.out, ← HD5.out, ← HD4.out, ← HD3.out, ← HD2.out, ← HD1.out, ← HP0.out, ← HP1.out, ← HP2.out, ← HP3.out, ← HP4.out, ← HP5.out, ← HP6.out, ← HP7.out, ← HP8.out, ← HP9.out, ← HP10.out, ← HD0.out]; simp only [List.append_assoc, List.append_nil, List.nil_append]
            exact ⟨ro, rc, by rw [HB.out] <;> rfl, by rw [HB.out]; exact hcR, HX2.out.tr hxb10, fun ad e => Nat.le_trans HX2.out.size (hfR ad e)⟩
      · have HRB : Hid (putF' f = (putB f.name.size ++ f.name.data.toList ++ [(0 : UInt8)]) ++ ([] ++ sigPut f.params ++ sigPut f.results ++ sigPut f.locs) ++ (putB f.code.length ++ f.code.flatMap putInstr) ++ putRuns (runsOf f.lines) ++ []) := by
          rw [Hid, HRB0.out, bytesY, headY, sigsY, codeY, tabsY, flagF, hi, hq]; rfl
        rw [hi] at HE1 HBR
        rw [hq] at HBR
        generalize hD : putB f.name.size ++ f.name.data.toList = D0 at *
        have HD0 := Lib.hid hD
        clear hD HRB0 hi hq
        have d0 := hxb.has HE0.out
        have d1 := hxb.has HE1.out
        have d2 := hxb.has HE2.out
        have d3 := hxb.has HE3.out
        have d4 := hxb.has HE4.out
        have d5 := hxb.has HE5.out
        have d6 := hxb.has HE6.out
        have d7 := hxb.has HE7.out
        have d8 := hxb.has HE8.out
        have d9 := hxb.has HE9.out
        have d10 := hxb.has HE10.out
        go_upto_region 7 with fail
        go_wp2_with fail
        refine (HBR.out _).mono ?_
        rintro e wf ⟨rfl, hxf⟩
        have hoF := own_ext hown0 hxf
        have hxF := hxb.tr hxf
        clear hown0 hxb hxf d0 d1 d2 d3 d4 d5 d6 d7 d8 d9 d10
        go_upto_region 10 with (at_builtin; (refine wpList_push rfl (.tmp 25) (.tmp 27) 38 rfl W2.heap.size 5 5 (.int .u8 0) 1 1 Try.underlying38 (by kernel_rfl) rfl (by decide) _ D0.length _ [.int .u8 0] rfl hoF _ rfl (by simp) rfl (by simp [Value.oneCell']) (by unfold maxLen; omega) (by omega) hxF.size ?_; intro vb0 wb0 hownb0 hgr; have hxb0 := hxF.push hoF (Nat.le_refl _) hgr; clear hgr hoF hxF))
        obtain ⟨P0, HP0⟩ : ∃ P0 : List UInt8, Hid ([(0 : UInt8)] = P0) := ⟨_, Lib.hid rfl⟩
        have hPl0 : P0.length ≤ 1 := by rw [← HP0.out]; exact Nat.le_refl _
        have hownb0 : wb0.ownsRow W2.heap.size 5 1 vb0 (D0.length + P0.length) (D0.map byteC ++ P0.map byteC) := by rw [← HP0.out]; exact hownb0
        have HO1 : wb0.ownsRow W2.heap.size 5 1 vb0 (D0 ++ P0).length ((D0 ++ P0).map byteC) := by rw [List.length_append, List.map_append]; exact hownb0
        have hle1 : (D0 ++ P0).length ≤ 23 := by rw [List.length_append]; omega
        generalize hD : D0 ++ P0 = D1 at *
        have HD1 := Lib.hid hD
        clear hD hownb0 hle0 hPl0
        have d1 := hxb0.has HE1.out
        go_upto_region 12 with fail
        clear d1
        have d3 := hxb0.has HE3.out
        go_wp2_with fail
        refine (sigref_Put _ _ f.params _ ((HFI2.out.ext hxb0)).h2 (by omega)).mono ?_
        rintro e wa1 ⟨ao, ac, rfl, hcX, hxX, -⟩
        have hPl1 : (sigPut f.params).length ≤ 18 := by have := sigPut_le f.params; omega
        generalize hP : sigPut f.params = P1 at *
        have HP1 := Lib.hid hP
        clear hP d3
        have hoa1 := own_ext HO1 hxX
        have hxa1 := hxb0.tr hxX
        clear HO1 hxb0 hxX
        go_upto_region 13 with (at_builtin; (refine wpList_appendAll rfl (.tmp 36) (.tmp 39) 38 rfl W2.heap.size 5 (.int .u8 0) 1 1 Try.underlying38 (by kernel_rfl) rfl (by decide) _ D1.length _ ao P1.length _ (P1.map byteC) rfl hoa1 rfl hcX (by simp) (by intro u hu; simp only [List.mem_map] at hu; obtain ⟨_, _, rfl⟩ := hu; rfl) (by unfold maxLen; omega) (by omega) hxa1.size ?_; intro vb1 wb1 hownb1 hgr; have hxb1 := hxa1.push hoa1 (Nat.le_refl _) hgr; clear hgr hoa1 hxa1))
        have HO2 : wb1.ownsRow W2.heap.size 5 1 vb1 (D1 ++ P1).length ((D1 ++ P1).map byteC) := by rw [List.length_append, List.map_append]; exact hownb1
        have hle2 : (D1 ++ P1).length ≤ 41 := by rw [List.length_append]; omega
        generalize hD : D1 ++ P1 = D2 at *
        have HD2 := Lib.hid hD
        clear hD hownb1 hle1 hPl1
        have d4 := hxb1.has HE4.out
        go_wp2_with fail
        refine (sigref_Put _ _ f.results _ ((HFI2.out.ext hxb1)).h3 (by omega)).mono ?_
        rintro e wa2 ⟨ao, ac, rfl, hcX, hxX, -⟩
        have hPl2 : (sigPut f.results).length ≤ 14 := by have := sigPut_le f.results; omega
        generalize hP : sigPut f.results = P2 at *
        have HP2 := Lib.hid hP
        clear hP d4
        have hoa2 := own_ext HO2 hxX
        have hxa2 := hxb1.tr hxX
        clear HO2 hxb1 hxX
        go_upto_region 14 with (at_builtin; (refine wpList_appendAll rfl (.tmp 41) (.tmp 44) 38 rfl W2.heap.size 5 (.int .u8 0) 1 1 Try.underlying38 (by kernel_rfl) rfl (by decide) _ D2.length _ ao P2.length _ (P2.map byteC) rfl hoa2 rfl hcX (by simp) (by intro u hu; simp only [List.mem_map] at hu; obtain ⟨_, _, rfl⟩ := hu; rfl) (by unfold maxLen; omega) (by omega) hxa2.size ?_; intro vb2 wb2 hownb2 hgr; have hxb2 := hxa2.push hoa2 (Nat.le_refl _) hgr; clear hgr hoa2 hxa2))
        have HO3 : wb2.ownsRow W2.heap.size 5 1 vb2 (D2 ++ P2).length ((D2 ++ P2).map byteC) := by rw [List.length_append, List.map_append]; exact hownb2
        have hle3 : (D2 ++ P2).length ≤ 55 := by rw [List.length_append]; omega
        generalize hD : D2 ++ P2 = D3 at *
        have HD3 := Lib.hid hD
        clear hD hownb2 hle2 hPl2
        have d5 := hxb2.has HE5.out
        go_wp2_with fail
        refine (sigref_Put _ _ f.locs _ ((HFI2.out.ext hxb2)).h4 (by omega)).mono ?_
        rintro e wa3 ⟨ao, ac, rfl, hcX, hxX, -⟩
        have hPl3 : (sigPut f.locs).length ≤ 266 := by have := sigPut_le f.locs; omega
        generalize hP : sigPut f.locs = P3 at *
        have HP3 := Lib.hid hP
        clear hP d5
        have hoa3 := own_ext HO3 hxX
        have hxa3 := hxb2.tr hxX
        clear HO3 hxb2 hxX
        go_upto_region 15 with (at_builtin; (refine wpList_appendAll rfl (.tmp 46) (.tmp 49) 38 rfl W2.heap.size 5 (.int .u8 0) 1 1 Try.underlying38 (by kernel_rfl) rfl (by decide) _ D3.length _ ao P3.length _ (P3.map byteC) rfl hoa3 rfl hcX (by simp) (by intro u hu; simp only [List.mem_map] at hu; obtain ⟨_, _, rfl⟩ := hu; rfl) (by unfold maxLen; omega) (by omega) hxa3.size ?_; intro vb3 wb3 hownb3 hgr; have hxb3 := hxa3.push hoa3 (Nat.le_refl _) hgr; clear hgr hoa3 hxa3))
        have HO4 : wb3.ownsRow W2.heap.size 5 1 vb3 (D3 ++ P3).length ((D3 ++ P3).map byteC) := by rw [List.length_append, List.map_append]; exact hownb3
        have hle4 : (D3 ++ P3).length ≤ 321 := by rw [List.length_append]; omega
        generalize hD : D3 ++ P3 = D4 at *
        have HD4 := Lib.hid hD
        clear hD hownb3 hle3 hPl3
        have d6 := hxb3.has HE6.out
        go_wp2_with fail
        refine (uvarref_PutO f.code.length _ (by omega)).mono ?_
        rintro e wa4 ⟨va, rfl, hoX, hxX⟩
        obtain ⟨ao, ac, rfl, hcX, -⟩ := own_cells hoX
        clear hoX
        have hPl4 : (putB f.code.length).length ≤ 10 := putB_le _
        generalize hP : putB f.code.length = P4 at *
        have HP4 := Lib.hid hP
        clear hP d6
        have hoa4 := own_ext HO4 hxX
        have hxa4 := hxb3.tr hxX
        clear HO4 hxb3 hxX
        go_upto_region 16 with (at_builtin; (refine wpList_appendAll rfl (.tmp 51) (.tmp 56) 38 rfl W2.heap.size 5 (.int .u8 0) 1 1 Try.underlying38 (by kernel_rfl) rfl (by decide) _ D4.length _ ao P4.length _ (P4.map byteC) rfl hoa4 rfl hcX (by simp) (by intro u hu; simp only [List.mem_map] at hu; obtain ⟨_, _, rfl⟩ := hu; rfl) (by unfold maxLen; omega) (by omega) hxa4.size ?_; intro vb4 wb4 hownb4 hgr; have hxb4 := hxa4.push hoa4 (Nat.le_refl _) hgr; clear hgr hoa4 hxa4))
        have HO5 : wb4.ownsRow W2.heap.size 5 1 vb4 (D4 ++ P4).length ((D4 ++ P4).map byteC) := by rw [List.length_append, List.map_append]; exact hownb4
        have hle5 : (D4 ++ P4).length ≤ 331 := by rw [List.length_append]; omega
        generalize hD : D4 ++ P4 = D5 at *
        have HD5 := Lib.hid hD
        clear hD hownb4 hle4 hPl4
        go_wp2_with fail
        go_loopw [3, 5] (fun u i wr => ∃ k : Nat, k ≤ f.code.length ∧ i = .int .i64 k ∧ wr.ownsRow W2.heap.size 5 1 u (D5 ++ (f.code.take k).flatMap putInstr).length ((D5 ++ (f.code.take k).flatMap putInstr).map byteC) ∧ Ext W2 wr)
          (fun _ i _ => f.code.length - (intOf i).toNat)
        case atStart => exact ⟨0, Nat.zero_le _, rfl, by simpa using HO5, hxb4⟩
        case round =>
          clear HO5 hxb4
          obtain ⟨k, hk, rfl, hownk, hxk⟩ := hrel
          have d6 := hxk.has HE6.out
          have hle : ((f.code.take k).flatMap putInstr).length ≤ k * 11 := by
            have := flat_le putInstr 11 putInstr_le (f.code.take k)
            rw [List.length_take] at this; have e : min k f.code.length = k := by omega
            rwa [e] at this
          by_cases hlt : k < f.code.length
          · obtain ⟨b, off, eo, x1, x2⟩ := (HFI2.out.ext hxk).h5.pair hlt
            have HS := Lib.hid (flat_snoc putInstr hlt)
            obtain ⟨hi1, hi2⟩ := (HFB.out.v5 _ (List.getElem_mem hlt)).2
            generalize f.code[k] = x at *
            have HD : Hid (D5 ++ (f.code.take (k + 1)).flatMap putInstr = (D5 ++ (f.code.take k).flatMap putInstr) ++ putInstr x) := by rw [Hid, HS.out, List.append_assoc]
            have hle2 : (D5 ++ (f.code.take k).flatMap putInstr).length ≤ 30000 := by rw [List.length_append]; omega
            clear HS
            generalize D5 ++ (f.code.take k).flatMap putInstr = Dk at *
            rw [eo] at d6
            replace eo := Lib.hid eo
            go_wp2_with fail
            refine (instrref_Put x _ hi1 hi2).mono ?_
            rintro e wa ⟨ao, ac, rfl, hcX, hxX, -⟩
            have hPl : (putInstr x).length ≤ 11 := putInstr_le x
            generalize putInstr x = PX at *
            have hoa := own_ext hownk hxX
            have hxa := hxk.tr hxX
            clear hownk hxk hxX d6 x1 x2
            go_wp2_with (at_builtin; (refine wpList_appendAll rfl (.tmp 65) (.tmp 71) 38 rfl W2.heap.size 5 (.int .u8 0) 1 1 Try.underlying38 (by kernel_rfl) rfl (by decide) _ Dk.length _ ao PX.length _ (PX.map byteC) rfl hoa rfl hcX (by simp) (by intro u hu; simp only [List.mem_map] at hu; obtain ⟨_, _, rfl⟩ := hu; rfl) (by unfold maxLen; omega) (by omega) hxa.size ?_; intro v' wb hownB hgr; have hxB := hxa.push hoa (Nat.le_refl _) hgr; clear hgr hoa hxa))
            have HOk : Hid (wb.ownsRow W2.heap.size 5 1 v' (Dk ++ PX).length ((Dk ++ PX).map byteC)) := by rw [Hid, List.length_append, List.map_append]; exact hownB
            clear hownB
            go_roundw
            case rel =>
              first
              | exact ⟨k + 1, by omega, by go_num, by rw [HD.out]; exact HOk.out, hxB⟩
              | (refine ⟨_, _, _, _, _, _, _, _, _, _, _, _, _, _, _, _, _, _, _, _, _, _, _, _, _, _, _, _, _, _, _, _, _, _, _, _, _, _, _, _, _, _, ?_, rfl⟩
                 exact ⟨k + 1, by omega, by go_num, by rw [HD.out]; exact HOk.out, hxB⟩)
            case measure => simp [intOf]; omega
          · obtain rfl : k = f.code.length := by omega
            rw [List.take_of_length_le (Nat.le_refl _)] at hownk hle
            have hPl5 : (f.code.flatMap putInstr).length ≤ 22000 := by omega
            generalize hP : f.code.flatMap putInstr = P5 at *
            have HP5 := Lib.hid hP
            clear hP hle
            have hownb5 : wr.ownsRow W2.heap.size 5 1 u3 (D5 ++ P5).length ((D5 ++ P5).map byteC) := hownk
            have hxb5 := hxk
            clear hownk hxk
            go_upto_region 20 with fail
            clear d6
            have hle6 : (D5 ++ P5).length ≤ 22331 := by rw [List.length_append]; omega
            generalize hD : D5 ++ P5 = D6 at *
            have HD6 := Lib.hid hD
            have HO6 := hownb5
            clear hD hownb5 hle5 hPl5
            have d7 := hxb5.has HE7.out
            go_wp2_with fail
            refine (runsref_Put _ _ f.lines _ ((HFI2.out.ext hxb5)).h6 (by omega) HFB.out.v6).mono ?_
            rintro e wa6 ⟨ao, ac, rfl, hcX, hxX, -⟩
            have hPl6 : (putRuns (runsOf f.lines)).length ≤ 40000 := by have := putRuns_le (runsOf f.lines); have := (cntOk f.lines).1; omega
            generalize hP : putRuns (runsOf f.lines) = P6 at *
            have HP6 := Lib.hid hP
            clear hP d7
            have hoa6 := own_ext HO6 hxX
            have hxa6 := hxb5.tr hxX
            clear HO6 hxb5 hxX
            go_upto_region 21 with (at_builtin; (refine wpList_appendAll rfl (.tmp 73) (.tmp 76) 38 rfl W2.heap.size 5 (.int .u8 0) 1 1 Try.underlying38 (by kernel_rfl) rfl (by decide) _ D6.length _ ao P6.length _ (P6.map byteC) rfl hoa6 rfl hcX (by simp) (by intro u hu; simp only [List.mem_map] at hu; obtain ⟨_, _, rfl⟩ := hu; rfl) (by unfold maxLen; omega) (by omega) hxa6.size ?_; intro vb6 wb6 hownb6 hgr; have hxb6 := hxa6.push hoa6 (Nat.le_refl _) hgr; clear hgr hoa6 hxa6))
            have HO7 : wb6.ownsRow W2.heap.size 5 1 vb6 (D6 ++ P6).length ((D6 ++ P6).map byteC) := by rw [List.length_append, List.map_append]; exact hownb6
            have hle7 : (D6 ++ P6).length ≤ 62331 := by rw [List.length_append]; omega
            generalize hD : D6 ++ P6 = D7 at *
            have HD7 := Lib.hid hD
            clear hD hownb6 hle6 hPl6
            skip
            have d0 := hxb6.has HE0.out
            have d1 := hxb6.has HE1.out
            have d2 := hxb6.has HE2.out
            have d3 := hxb6.has HE3.out
            have d4 := hxb6.has HE4.out
            have d5 := hxb6.has HE5.out
            have d6 := hxb6.has HE6.out
            have d7 := hxb6.has HE7.out
            have d8 := hxb6.has HE8.out
            have d9 := hxb6.has HE9.out
            have d10 := hxb6.has HE10.out
            go_wp2_with fail
            refine (HBR.out _).mono ?_
            rintro e wg ⟨rfl, hxg⟩
            have hoG := own_ext HO7 hxg
            have hxG := hxb6.tr hxg
            clear HO7 hxb6 hxg d0 d1 d2 d3 d4 d5 d6 d7 d8 d9 d10
            have HO7 := hoG
            have hxb6 := hxG
            clear hoG hxG
            obtain ⟨ro, rc, hro, hcR, hfR⟩ := own_cells HO7
            subst hro
            clear HO7
            go_wp2_with fail
            go_ret
            have HB : Hid (putF' f = D7) := by rw [Hid, HRB.out, ← HD7.out, ← HD6.out, ← HD5.out, ← HD4.out, ← HD3.out, ← HD2.out, ← HD1.out, ← HP0.out, ← HP1.out, ← HP2.out, ← HP3.out, ← HP4.out, ← HP5.out, ← HP6.out, ← HD0.out]; simp only [List.append_assoc, List.append_nil, List.nil_append]
            exact ⟨ro, rc, by rw [HB.out] <;> rfl, by rw [HB.out]; exact hcR, HX2.out.tr hxb6, fun ad e => Nat.le_trans HX2.out.size (hfR ad e)⟩
      · have HRB : Hid (putF' f = (putB f.name.size ++ f.name.data.toList ++ [(2 : UInt8)]) ++ ([] ++ sigPut f.params ++ sigPut f.results ++ sigPut f.locs) ++ (putB f.code.length ++ f.code.flatMap putInstr) ++ putRuns (runsOf f.lines) ++ (putTree f.nodes ++ putRuns (runsOf f.ats) ++ putMaps f.live)) := by
          rw [Hid, HRB0.out, bytesY, headY, sigsY, codeY, tabsY, flagF, hi, hq]; rfl
        rw [hi] at HE1 HBR
        rw [hq] at HBR
        generalize hD : putB f.name.size ++ f.name.data.toList = D0 at *
        have HD0 := Lib.hid hD
        clear hD HRB0 hi hq
        have d0 := hxb.has HE0.out
        have d1 := hxb.has HE1.out
        have d2 := hxb.has HE2.out
        have d3 := hxb.has HE3.out
        have d4 := hxb.has HE4.out
        have d5 := hxb.has HE5.out
        have d6 := hxb.has HE6.out
        have d7 := hxb.has HE7.out
        have d8 := hxb.has HE8.out
        have d9 := hxb.has HE9.out
        have d10 := hxb.has HE10.out
        go_upto_region 7 with fail
        go_wp2_with fail
        refine (HBR.out _).mono ?_
        rintro e wf ⟨rfl, hxf⟩
        have hoF := own_ext hown0 hxf
        have hxF := hxb.tr hxf
        clear hown0 hxb hxf d0 d1 d2 d3 d4 d5 d6 d7 d8 d9 d10
        go_upto_region 10 with (at_builtin; (refine wpList_push rfl (.tmp 25) (.tmp 27) 38 rfl W2.heap.size 5 5 (.int .u8 0) 1 1 Try.underlying38 (by kernel_rfl) rfl (by decide) _ D0.length _ [.int .u8 2] rfl hoF _ rfl (by simp) rfl (by simp [Value.oneCell']) (by unfold maxLen; omega) (by omega) hxF.size ?_; intro vb0 wb0 hownb0 hgr; have hxb0 := hxF.push hoF (Nat.le_refl _) hgr; clear hgr hoF hxF))
        obtain ⟨P0, HP0⟩ : ∃ P0 : List UInt8, Hid ([(2 : UInt8)] = P0) := ⟨_, Lib.hid rfl⟩
        have hPl0 : P0.length ≤ 1 := by rw [← HP0.out]; exact Nat.le_refl _
        have hownb0 : wb0.ownsRow W2.heap.size 5 1 vb0 (D0.length + P0.length) (D0.map byteC ++ P0.map byteC) := by rw [← HP0.out]; exact hownb0
        have HO1 : wb0.ownsRow W2.heap.size 5 1 vb0 (D0 ++ P0).length ((D0 ++ P0).map byteC) := by rw [List.length_append, List.map_append]; exact hownb0
        have hle1 : (D0 ++ P0).length ≤ 23 := by rw [List.length_append]; omega
        generalize hD : D0 ++ P0 = D1 at *
        have HD1 := Lib.hid hD
        clear hD hownb0 hle0 hPl0
        have d1 := hxb0.has HE1.out
        go_upto_region 12 with fail
        clear d1
        have d3 := hxb0.has HE3.out
        go_wp2_with fail
        refine (sigref_Put _ _ f.params _ ((HFI2.out.ext hxb0)).h2 (by omega)).mono ?_
        rintro e wa1 ⟨ao, ac, rfl, hcX, hxX, -⟩
        have hPl1 : (sigPut f.params).length ≤ 18 := by have := sigPut_le f.params; omega
        generalize hP : sigPut f.params = P1 at *
        have HP1 := Lib.hid hP
        clear hP d3
        have hoa1 := own_ext HO1 hxX
        have hxa1 := hxb0.tr hxX
        clear HO1 hxb0 hxX
        go_upto_region 13 with (at_builtin; (refine wpList_appendAll rfl (.tmp 36) (.tmp 39) 38 rfl W2.heap.size 5 (.int .u8 0) 1 1 Try.underlying38 (by kernel_rfl) rfl (by decide) _ D1.length _ ao P1.length _ (P1.map byteC) rfl hoa1 rfl hcX (by simp) (by intro u hu; simp only [List.mem_map] at hu; obtain ⟨_, _, rfl⟩ := hu; rfl) (by unfold maxLen; omega) (by omega) hxa1.size ?_; intro vb1 wb1 hownb1 hgr; have hxb1 := hxa1.push hoa1 (Nat.le_refl _) hgr; clear hgr hoa1 hxa1))
        have HO2 : wb1.ownsRow W2.heap.size 5 1 vb1 (D1 ++ P1).length ((D1 ++ P1).map byteC) := by rw [List.length_append, List.map_append]; exact hownb1
        have hle2 : (D1 ++ P1).length ≤ 41 := by rw [List.length_append]; omega
        generalize hD : D1 ++ P1 = D2 at *
        have HD2 := Lib.hid hD
        clear hD hownb1 hle1 hPl1
        have d4 := hxb1.has HE4.out
        go_wp2_with fail
        refine (sigref_Put _ _ f.results _ ((HFI2.out.ext hxb1)).h3 (by omega)).mono ?_
        rintro e wa2 ⟨ao, ac, rfl, hcX, hxX, -⟩
        have hPl2 : (sigPut f.results).length ≤ 14 := by have := sigPut_le f.results; omega
        generalize hP : sigPut f.results = P2 at *
        have HP2 := Lib.hid hP
        clear hP d4
        have hoa2 := own_ext HO2 hxX
        have hxa2 := hxb1.tr hxX
        clear HO2 hxb1 hxX
        go_upto_region 14 with (at_builtin; (refine wpList_appendAll rfl (.tmp 41) (.tmp 44) 38 rfl W2.heap.size 5 (.int .u8 0) 1 1 Try.underlying38 (by kernel_rfl) rfl (by decide) _ D2.length _ ao P2.length _ (P2.map byteC) rfl hoa2 rfl hcX (by simp) (by intro u hu; simp only [List.mem_map] at hu; obtain ⟨_, _, rfl⟩ := hu; rfl) (by unfold maxLen; omega) (by omega) hxa2.size ?_; intro vb2 wb2 hownb2 hgr; have hxb2 := hxa2.push hoa2 (Nat.le_refl _) hgr; clear hgr hoa2 hxa2))
        have HO3 : wb2.ownsRow W2.heap.size 5 1 vb2 (D2 ++ P2).length ((D2 ++ P2).map byteC) := by rw [List.length_append, List.map_append]; exact hownb2
        have hle3 : (D2 ++ P2).length ≤ 55 := by rw [List.length_append]; omega
        generalize hD : D2 ++ P2 = D3 at *
        have HD3 := Lib.hid hD
        clear hD hownb2 hle2 hPl2
        have d5 := hxb2.has HE5.out
        go_wp2_with fail
        refine (sigref_Put _ _ f.locs _ ((HFI2.out.ext hxb2)).h4 (by omega)).mono ?_
        rintro e wa3 ⟨ao, ac, rfl, hcX, hxX, -⟩
        have hPl3 : (sigPut f.locs).length ≤ 266 := by have := sigPut_le f.locs; omega
        generalize hP : sigPut f.locs = P3 at *
        have HP3 := Lib.hid hP
        clear hP d5
        have hoa3 := own_ext HO3 hxX
        have hxa3 := hxb2.tr hxX
        clear HO3 hxb2 hxX
        go_upto_region 15 with (at_builtin; (refine wpList_appendAll rfl (.tmp 46) (.tmp 49) 38 rfl W2.heap.size 5 (.int .u8 0) 1 1 Try.underlying38 (by kernel_rfl) rfl (by decide) _ D3.length _ ao P3.length _ (P3.map byteC) rfl hoa3 rfl hcX (by simp) (by intro u hu; simp only [List.mem_map] at hu; obtain ⟨_, _, rfl⟩ := hu; rfl) (by unfold maxLen; omega) (by omega) hxa3.size ?_; intro vb3 wb3 hownb3 hgr; have hxb3 := hxa3.push hoa3 (Nat.le_refl _) hgr; clear hgr hoa3 hxa3))
        have HO4 : wb3.ownsRow W2.heap.size 5 1 vb3 (D3 ++ P3).length ((D3 ++ P3).map byteC) := by rw [List.length_append, List.map_append]; exact hownb3
        have hle4 : (D3 ++ P3).length ≤ 321 := by rw [List.length_append]; omega
        generalize hD : D3 ++ P3 = D4 at *
        have HD4 := Lib.hid hD
        clear hD hownb3 hle3 hPl3
        have d6 := hxb3.has HE6.out
        go_wp2_with fail
        refine (uvarref_PutO f.code.length _ (by omega)).mono ?_
        rintro e wa4 ⟨va, rfl, hoX, hxX⟩
        obtain ⟨ao, ac, rfl, hcX, -⟩ := own_cells hoX
        clear hoX
        have hPl4 : (putB f.code.length).length ≤ 10 := putB_le _
        generalize hP : putB f.code.length = P4 at *
        have HP4 := Lib.hid hP
        clear hP d6
        have hoa4 := own_ext HO4 hxX
        have hxa4 := hxb3.tr hxX
        clear HO4 hxb3 hxX
        go_upto_region 16 with (at_builtin; (refine wpList_appendAll rfl (.tmp 51) (.tmp 56) 38 rfl W2.heap.size 5 (.int .u8 0) 1 1 Try.underlying38 (by kernel_rfl) rfl (by decide) _ D4.length _ ao P4.length _ (P4.map byteC) rfl hoa4 rfl hcX (by simp) (by intro u hu; simp only [List.mem_map] at hu; obtain ⟨_, _, rfl⟩ := hu; rfl) (by unfold maxLen; omega) (by omega) hxa4.size ?_; intro vb4 wb4 hownb4 hgr; have hxb4 := hxa4.push hoa4 (Nat.le_refl _) hgr; clear hgr hoa4 hxa4))
        have HO5 : wb4.ownsRow W2.heap.size 5 1 vb4 (D4 ++ P4).length ((D4 ++ P4).map byteC) := by rw [List.length_append, List.map_append]; exact hownb4
        have hle5 : (D4 ++ P4).length ≤ 331 := by rw [List.length_append]; omega
        generalize hD : D4 ++ P4 = D5 at *
        have HD5 := Lib.hid hD
        clear hD hownb4 hle4 hPl4
        go_wp2_with fail
        go_loopw [3, 5] (fun u i wr => ∃ k : Nat, k ≤ f.code.length ∧ i = .int .i64 k ∧ wr.ownsRow W2.heap.size 5 1 u (D5 ++ (f.code.take k).flatMap putInstr).length ((D5 ++ (f.code.take k).flatMap putInstr).map byteC) ∧ Ext W2 wr)
          (fun _ i _ => f.code.length - (intOf i).toNat)
        case atStart => exact ⟨0, Nat.zero_le _, rfl, by simpa using HO5, hxb4⟩
        case round =>
          clear HO5 hxb4
          obtain ⟨k, hk, rfl, hownk, hxk⟩ := hrel
          have d6 := hxk.has HE6.out
          have hle : ((f.code.take k).flatMap putInstr).length ≤ k * 11 := by
            have := flat_le putInstr 11 putInstr_le (f.code.take k)
            rw [List.length_take] at this; have e : min k f.code.length = k := by omega
            rwa [e] at this
          by_cases hlt : k < f.code.length
          · obtain ⟨b, off, eo, x1, x2⟩ := (HFI2.out.ext hxk).h5.pair hlt
            have HS := Lib.hid (flat_snoc putInstr hlt)
            obtain ⟨hi1, hi2⟩ := (HFB.out.v5 _ (List.getElem_mem hlt)).2
            generalize f.code[k] = x at *
            have HD : Hid (D5 ++ (f.code.take (k + 1)).flatMap putInstr = (D5 ++ (f.code.take k).flatMap putInstr) ++ putInstr x) := by rw [Hid, HS.out, List.append_assoc]
            have hle2 : (D5 ++ (f.code.take k).flatMap putInstr).length ≤ 30000 := by rw [List.length_append]; omega
            clear HS
            generalize D5 ++ (f.code.take k).flatMap putInstr = Dk at *
            rw [eo] at d6
            replace eo := Lib.hid eo
            go_wp2_with fail
            refine (instrref_Put x _ hi1 hi2).mono ?_
            rintro e wa ⟨ao, ac, rfl, hcX, hxX, -⟩
            have hPl : (putInstr x).length ≤ 11 := putInstr_le x
            generalize putInstr x = PX at *
            have hoa := own_ext hownk hxX
            have hxa := hxk.tr hxX
            clear hownk hxk hxX d6 x1 x2
            go_wp2_with (at_builtin; (refine wpList_appendAll rfl (.tmp 65) (.tmp 71) 38 rfl W2.heap.size 5 (.int .u8 0) 1 1 Try.underlying38 (by kernel_rfl) rfl (by decide) _ Dk.length _ ao PX.length _ (PX.map byteC) rfl hoa rfl hcX (by simp) (by intro u hu; simp only [List.mem_map] at hu; obtain ⟨_, _, rfl⟩ := hu; rfl) (by unfold maxLen; omega) (by omega) hxa.size ?_; intro v' wb hownB hgr; have hxB := hxa.push hoa (Nat.le_refl _) hgr; clear hgr hoa hxa))
            have HOk : Hid (wb.ownsRow W2.heap.size 5 1 v' (Dk ++ PX).length ((Dk ++ PX).map byteC)) := by rw [Hid, List.length_append, List.map_append]; exact hownB
            clear hownB
            go_roundw
            case rel =>
              first
              | exact ⟨k + 1, by omega, by go_num, by rw [HD.out]; exact HOk.out, hxB⟩
              | (refine ⟨_, _, _, _, _, _, _, _, _, _, _, _, _, _, _, _, _, _, _, _, _, _, _, _, _, _, _, _, _, _, _, _, _, _, _, _, _, _, _, _, _, _, ?_, rfl⟩
                 exact ⟨k + 1, by omega, by go_num, by rw [HD.out]; exact HOk.out, hxB⟩)
            case measure => simp [intOf]; omega
          · obtain rfl : k = f.code.length := by omega
            rw [List.take_of_length_le (Nat.le_refl _)] at hownk hle
            have hPl5 : (f.code.flatMap putInstr).length ≤ 22000 := by omega
            generalize hP : f.code.flatMap putInstr = P5 at *
            have HP5 := Lib.hid hP
            clear hP hle
            have hownb5 : wr.ownsRow W2.heap.size 5 1 u3 (D5 ++ P5).length ((D5 ++ P5).map byteC) := hownk
            have hxb5 := hxk
            clear hownk hxk
            go_upto_region 20 with fail
            clear d6
            have hle6 : (D5 ++ P5).length ≤ 22331 := by rw [List.length_append]; omega
            generalize hD : D5 ++ P5 = D6 at *
            have HD6 := Lib.hid hD
            have HO6 := hownb5
            clear hD hownb5 hle5 hPl5
            have d7 := hxb5.has HE7.out
            go_wp2_with fail
            refine (runsref_Put _ _ f.lines _ ((HFI2.out.ext hxb5)).h6 (by omega) HFB.out.v6).mono ?_
            rintro e wa6 ⟨ao, ac, rfl, hcX, hxX, -⟩
            have hPl6 : (putRuns (runsOf f.lines)).length ≤ 40000 := by have := putRuns_le (runsOf f.lines); have := (cntOk f.lines).1; omega
            generalize hP : putRuns (runsOf f.lines) = P6 at *
            have HP6 := Lib.hid hP
            clear hP d7
            have hoa6 := own_ext HO6 hxX
            have hxa6 := hxb5.tr hxX
            clear HO6 hxb5 hxX
            go_upto_region 21 with (at_builtin; (refine wpList_appendAll rfl (.tmp 73) (.tmp 76) 38 rfl W2.heap.size 5 (.int .u8 0) 1 1 Try.underlying38 (by kernel_rfl) rfl (by decide) _ D6.length _ ao P6.length _ (P6.map byteC) rfl hoa6 rfl hcX (by simp) (by intro u hu; simp only [List.mem_map] at hu; obtain ⟨_, _, rfl⟩ := hu; rfl) (by unfold maxLen; omega) (by omega) hxa6.size ?_; intro vb6 wb6 hownb6 hgr; have hxb6 := hxa6.push hoa6 (Nat.le_refl _) hgr; clear hgr hoa6 hxa6))
            have HO7 : wb6.ownsRow W2.heap.size 5 1 vb6 (D6 ++ P6).length ((D6 ++ P6).map byteC) := by rw [List.length_append, List.map_append]; exact hownb6
            have hle7 : (D6 ++ P6).length ≤ 62331 := by rw [List.length_append]; omega
            generalize hD : D6 ++ P6 = D7 at *
            have HD7 := Lib.hid hD
            clear hD hownb6 hle6 hPl6
            skip
            have d0 := hxb6.has HE0.out
            have d1 := hxb6.has HE1.out
            have d2 := hxb6.has HE2.out
            have d3 := hxb6.has HE3.out
            have d4 := hxb6.has HE4.out
            have d5 := hxb6.has HE5.out
            have d6 := hxb6.has HE6.out
            have d7 := hxb6.has HE7.out
            have d8 := hxb6.has HE8.out
            have d9 := hxb6.has HE9.out
            have d10 := hxb6.has HE10.out
            go_wp2_with fail
            refine (HBR.out _).mono ?_
            rintro e wg ⟨rfl, hxg⟩
            have hoG := own_ext HO7 hxg
            have hxG := hxb6.tr hxg
            clear HO7 hxb6 hxg d0 d1 d2 d3 d4 d5 d6 d7 d8 d9 d10
            have HO7 := hoG
            have hxb6 := hxG
            clear hoG hxG
            go_upto_region 22 with fail
            have d8 := hxb6.has HE8.out
            go_wp2_with fail
            refine (treeref_Put _ _ f.nodes _ ((HFI2.out.ext hxb6)).h7 (by omega) HFB.out.v7).mono ?_
            rintro e wa7 ⟨ao, ac, rfl, hcX, hxX, -⟩
            have hPl7 : (putTree f.nodes).length ≤ 8410 := by have := putB_le f.nodes.length; have := flat_le putNode 70 putNode_le f.nodes; rw [putTree, List.length_append]; omega
            generalize hP : putTree f.nodes = P7 at *
            have HP7 := Lib.hid hP
            clear hP d8
            have hoa7 := own_ext HO7 hxX
            have hxa7 := hxb6.tr hxX
            clear HO7 hxb6 hxX
            go_upto_region 23 with (at_builtin; (refine wpList_appendAll rfl (.tmp 81) (.tmp 84) 38 rfl W2.heap.size 5 (.int .u8 0) 1 1 Try.underlying38 (by kernel_rfl) rfl (by decide) _ D7.length _ ao P7.length _ (P7.map byteC) rfl hoa7 rfl hcX (by simp) (by intro u hu; simp only [List.mem_map] at hu; obtain ⟨_, _, rfl⟩ := hu; rfl) (by unfold maxLen; omega) (by omega) hxa7.size ?_; intro vb7 wb7 hownb7 hgr; have hxb7 := hxa7.push hoa7 (Nat.le_refl _) hgr; clear hgr hoa7 hxa7))
            have HO8 : wb7.ownsRow W2.heap.size 5 1 vb7 (D7 ++ P7).length ((D7 ++ P7).map byteC) := by rw [List.length_append, List.map_append]; exact hownb7
            have hle8 : (D7 ++ P7).length ≤ 70741 := by rw [List.length_append]; omega
            generalize hD : D7 ++ P7 = D8 at *
            have HD8 := Lib.hid hD
            clear hD hownb7 hle7 hPl7
            have d9 := hxb7.has HE9.out
            go_wp2_with fail
            refine (runsref_Put _ _ f.ats _ ((HFI2.out.ext hxb7)).h8 (by omega) HFB.out.v8).mono ?_
            rintro e wa8 ⟨ao, ac, rfl, hcX, hxX, -⟩
            have hPl8 : (putRuns (runsOf f.ats)).length ≤ 40000 := by have := putRuns_le (runsOf f.ats); have := (cntOk f.ats).1; omega
            generalize hP : putRuns (runsOf f.ats) = P8 at *
            have HP8 := Lib.hid hP
            clear hP d9
            have hoa8 := own_ext HO8 hxX
            have hxa8 := hxb7.tr hxX
            clear HO8 hxb7 hxX
            go_upto_region 24 with (at_builtin; (refine wpList_appendAll rfl (.tmp 86) (.tmp 89) 38 rfl W2.heap.size 5 (.int .u8 0) 1 1 Try.underlying38 (by kernel_rfl) rfl (by decide) _ D8.length _ ao P8.length _ (P8.map byteC) rfl hoa8 rfl hcX (by simp) (by intro u hu; simp only [List.mem_map] at hu; obtain ⟨_, _, rfl⟩ := hu; rfl) (by unfold maxLen; omega) (by omega) hxa8.size ?_; intro vb8 wb8 hownb8 hgr; have hxb8 := hxa8.push hoa8 (Nat.le_refl _) hgr; clear hgr hoa8 hxa8))
            have HO9 : wb8.ownsRow W2.heap.size 5 1 vb8 (D8 ++ P8).length ((D8 ++ P8).map byteC) := by rw [List.length_append, List.map_append]; exact hownb8
            have hle9 : (D8 ++ P8).length ≤ 110741 := by rw [List.length_append]; omega
            generalize hD : D8 ++ P8 = D9 at *
            have HD9 := Lib.hid hD
            clear hD hownb8 hle8 hPl8
            have d10 := hxb8.has HE10.out
            go_wp2_with fail
            refine (mapsref_Put _ _ f.live _ ((HFI2.out.ext hxb8)).h9 (by omega) HFB.out.v9).mono ?_
            rintro e wa9 ⟨ao, ac, rfl, hcX, hxX, -⟩
            have hPl9 : (putMaps f.live).length ≤ 100000 := by have := putMaps_le f.live; omega
            generalize hP : putMaps f.live = P9 at *
            have HP9 := Lib.hid hP
            clear hP d10
            have hoa9 := own_ext HO9 hxX
            have hxa9 := hxb8.tr hxX
            clear HO9 hxb8 hxX
            go_upto_region 25 with (at_builtin; (refine wpList_appendAll rfl (.tmp 91) (.tmp 94) 38 rfl W2.heap.size 5 (.int .u8 0) 1 1 Try.underlying38 (by kernel_rfl) rfl (by decide) _ D9.length _ ao P9.length _ (P9.map byteC) rfl hoa9 rfl hcX (by simp) (by intro u hu; simp only [List.mem_map] at hu; obtain ⟨_, _, rfl⟩ := hu; rfl) (by unfold maxLen; omega) (by omega) hxa9.size ?_; intro vb9 wb9 hownb9 hgr; have hxb9 := hxa9.push hoa9 (Nat.le_refl _) hgr; clear hgr hoa9 hxa9))
            have HO10 : wb9.ownsRow W2.heap.size 5 1 vb9 (D9 ++ P9).length ((D9 ++ P9).map byteC) := by rw [List.length_append, List.map_append]; exact hownb9
            have hle10 : (D9 ++ P9).length ≤ 210741 := by rw [List.length_append]; omega
            generalize hD : D9 ++ P9 = D10 at *
            have HD10 := Lib.hid hD
            clear hD hownb9 hle9 hPl9
            obtain ⟨ro, rc, hro, hcR, hfR⟩ := own_cells HO10
            subst hro
            clear HO10
            go_wp2_with fail
            go_ret
            have HB : Hid (putF' f = D10) := by rw [Hid, HRB.out, ← HD10.out, ← HD9.out, ← HD8.out, ← HD7.out, ← HD6.out, ← HD5.out, ← HD4.out, ← HD3.out, ← HD2.out, ← HD1.out, ← HP0.out, ← HP1.out, ← HP2.out, ← HP3.out, ← HP4.out, ← HP5.out, ← HP6.out, ← HP7.out, ← HP8.out, ← HP9.out, ← HD0.out]; simp only [List.append_assoc, List.append_nil, List.nil_append]
            exact ⟨ro, rc, by rw [HB.out] <;> rfl, by rw [HB.out]; exact hcR, HX2.out.tr hxb9, fun ad e => Nat.le_trans HX2.out.size (hfR ad e)⟩
end Go.Proofs.Ytofdkhilapmccaa
