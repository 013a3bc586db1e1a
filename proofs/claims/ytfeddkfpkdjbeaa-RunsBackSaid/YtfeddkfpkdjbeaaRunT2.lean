/- The walk of runs.Take. -/
import Derived.Test.YtfeddkfpkdjbeaaRunT
import Derived.Test.YtfeddkfpkdjbeaaRefC
namespace Go.Proofs.Ytfeddkfpkdjbeaa
open Go.RowKit

theorem ret_cell_tmp {fn : Func} {p u : Tmp} {ty : TypeId} (h : fn.results = #[.cell p ty, .tmp u]) {tmps : Array Value} {P : Program} {w : World} {A : Addr} {v : Value} (hp : tmps.getD p undef = .pointer (some A)) (hv : (loadVar ty A).run P w = .ok v w) :
    (results fn tmps).run P w = .ok (.tuple #[v, tmps.getD u undef]) w := by
  rw [results_cell_tmp h, hp]
  simp [asAddr, Result.andThen, hv]
theorem load_run {W : World} {g : Nat} {a b : Value} {t : TypeId} {fz : Nat × Nat} (h : W.heap[g]? = some (.cells #[a, b] t fz)) : (loadVar 33 ⟨g, 0, none⟩).run Try.prog W = .ok (.agg #[a, b]) W := by
  have c0 : W.cell? ⟨g, 0, none⟩ = some a := blk h 0 rfl
  have c1 : W.cell? ⟨g, 1, none⟩ = some b := blk h 1 rfl
  go_simp

theorem CurAt.other {W W' : World} {g s : Nat} {bs : List UInt8} {er : Int} (h : CurAt W g bs er) (hg : W.grownBy W' (some s)) (hs : g < s) : CurAt W' g bs er := by
  obtain ⟨bs0, ao, cap, h1, h2, h3, h4, h5⟩ := h
  exact ⟨bs0, ao, cap, (hg.block g (Array.getElem?_eq_some_iff.1 h1).1 (by simp; omega)).trans h1, h2.grown hg (fun ad e => by have := h3 ad e; omega), h3, h4, h5⟩
theorem CurAt.setF {W : World} {g s : Nat} {bs : List UInt8} {er : Int} (h : CurAt W g bs er) (hs : g < s) (j : Nat) (v : Value) : CurAt (W.setCell ⟨s, j, none⟩ v) g bs er := h.other (grown_set W s j v) hs

/-- What taking a run leaves. -/
def RunGoes (g left : Nat) (bs : List UInt8) (er : Int) (w : World) (e : Ending) (w' : World) : Prop :=
  (∃ a : Int, e = .returned (.tuple #[.agg #[.int .i64 a, .int .i64 (runS left bs er).2.1], .bool ((runS left bs er).2.2.2 == 0)]) ∧ ((runS left bs er).2.2.2 = 0 → a = (runS left bs er).1)) ∧
    CurAt w' g (runS left bs er).2.2.1 (runS left bs er).2.2.2 ∧ w.grownBy w' (some g)

set_option maxHeartbeats 2000000 in
set_option maxRecDepth 20000 in
theorem runs_run (g left : Nat) (bs : List UInt8) (er : Int) (w : World) (hc : CurAt w g bs er) (hl : bs.length ≤ 140737488354328) (hleft : left ≤ 1099511627776) :
    Calls Try.prog 96 #[.pointer (some ⟨g, 0, none⟩), .int .i64 left] w (RunGoes g left bs er w) := by
  unfold RunGoes
  have HO := Lib.hid (bitsS_ok bs er)
  have hgl := hc.lt
  have HB := Lib.hid (fun w' (h : Ext w w') => cur_Bits g bs er w' (hc.ext h) hl)
  have HRF := Lib.hid (runS_form (left := left) (bs := bs) (er := er))
  have HRE := Lib.hid (runS_err (left := left) (bs := bs) (er := er))
  have HRN := Lib.hid (runS_fine (left := left) (bs := bs) (er := er))
  generalize runS left bs er = R at *
  generalize bitsS bs er = U at *
  clear hc
  go_enter Try.func96, Try.ntmps96
  go_wp2_with fail
  refine (HB.out _ ((Ext.rf w).al _)).mono ?_
  rintro e w1 ⟨rfl, hc1, hg1⟩
  have HC1 := Lib.hid hc1
  have HG1 := Lib.hid (((Ext.rf w).al (.cells #[.int .i64 0, .int .i64 0] 33)).grow g |>.trans hg1)
  have D1 := Lib.hid ((hg1.block w.heap.size (by simp) (by simp; omega)).trans (alloc_new w (.cells #[.int .i64 0, .int .i64 0] 33)))
  have hu := HO.out.1
  have hul : U.2.1.length ≤ 140737488354328 := Nat.le_trans HO.out.2.2 hl
  clear hc1 hg1 HB
  go_wp2_with fail
  refine (cur_Err g U.2.1 U.2.2 w1 HC1.out).mono ?_
  rintro e w2 ⟨rfl, rfl⟩
  have hwl : IntKind.u64.wrap (left : Int) = left := by rw [IntKind.wrap_u64]; omega
  by_cases h0 : U.2.2 = 0
  · have t1 : (U.2.2 == 0) = true := by simpa using h0
    by_cases h1 : U.1 = 0 ∨ left < U.1
    · skip
      have HR := Lib.hid (HRF.out h0 h1)
      have HF := Lib.hid (cur_Fail g U.2.1 U.2.2 5 w1 HC1.out)
      rw [show failE U.2.2 5 = 5 by simp [failE, h0]] at HF
      clear HRF HRE HRN
      have hq : U.1 = 0 ∨ (U.1 ≠ 0 ∧ left < U.1) := by omega
      clear h0 h1
      rcases hq with h1 | ⟨h1, h2⟩
      · have t2 : ((U.1 : Int) == 0) = true := by simp; omega
        clear h1
        go_wp2_with fail
        refine HF.out.mono ?_
        rintro e w2 ⟨⟨v2, rfl⟩, hc2, hg2⟩
        have HG2 := Lib.hid (HG1.out.trans hg2)
        have D2 := Lib.hid ((hg2.block w.heap.size (Array.getElem?_eq_some_iff.1 D1.out).1 (by simp; omega)).trans D1.out)
        have HI := Lib.hid (cur_Int g U.2.1 5 w2 hc2 hul)
        rw [bitsS_err (er := 5) (by decide), unfoldI_zero] at HI
        clear hc2 hg2
        go_wp2_with fail
        refine HI.out.mono ?_
        rintro e w3 ⟨rfl, hc3, hg3⟩
        have HC3 := Lib.hid hc3
        have HG3 := Lib.hid (HG2.out.trans hg3)
        have D3 := Lib.hid ((hg3.block w.heap.size (Array.getElem?_eq_some_iff.1 D2.out).1 (by simp; omega)).trans D2.out)
        clear hc3 hg3
        go_wp2_with fail
        refine (cur_Err g _ _ w3 HC3.out).mono ?_
        rintro e w4 ⟨rfl, rfl⟩
        have e0 := blk D3.out 0 rfl
        have e1 := blk D3.out 1 rfl
        have f0 := frozen_blk D3.out 0
        have f1 := frozen_blk D3.out 1
        go_wp2_with fail
        exact bodyPost_ret (ret_cell_tmp (p := 4) (u := 5) rfl rfl (load_run (set2 D3.out _ _))) rfl ⟨⟨_, by rw [HR.out] <;> rfl, fun h => by rw [HR.out] at h; exact absurd h (by show ¬ (5 : Int) = 0; decide)⟩, by rw [HR.out]; exact (HC3.out.setF hgl _ _).setF hgl _ _, ((GrowG.mk HG3.out).setF (Nat.le_refl _) _ _ |>.setF (Nat.le_refl _) _ _).h⟩
      · have t2 : ((U.1 : Int) == 0) = false := by simp; omega
        have t3 : decide ((left : Int) < U.1) = true := decide_eq_true (by omega)
        have t4 : decide (left < U.1) = true := decide_eq_true h2
        clear h1 h2
        go_wp2_with fail
        refine HF.out.mono ?_
        rintro e w2 ⟨⟨v2, rfl⟩, hc2, hg2⟩
        have HG2 := Lib.hid (HG1.out.trans hg2)
        have D2 := Lib.hid ((hg2.block w.heap.size (Array.getElem?_eq_some_iff.1 D1.out).1 (by simp; omega)).trans D1.out)
        have HI := Lib.hid (cur_Int g U.2.1 5 w2 hc2 hul)
        rw [bitsS_err (er := 5) (by decide), unfoldI_zero] at HI
        clear hc2 hg2
        go_wp2_with fail
        refine HI.out.mono ?_
        rintro e w3 ⟨rfl, hc3, hg3⟩
        have HC3 := Lib.hid hc3
        have HG3 := Lib.hid (HG2.out.trans hg3)
        have D3 := Lib.hid ((hg3.block w.heap.size (Array.getElem?_eq_some_iff.1 D2.out).1 (by simp; omega)).trans D2.out)
        clear hc3 hg3
        go_wp2_with fail
        refine (cur_Err g _ _ w3 HC3.out).mono ?_
        rintro e w4 ⟨rfl, rfl⟩
        have e0 := blk D3.out 0 rfl
        have e1 := blk D3.out 1 rfl
        have f0 := frozen_blk D3.out 0
        have f1 := frozen_blk D3.out 1
        go_wp2_with fail
        exact bodyPost_ret (ret_cell_tmp (p := 4) (u := 5) rfl rfl (load_run (set2 D3.out _ _))) rfl ⟨⟨_, by rw [HR.out] <;> rfl, fun h => by rw [HR.out] at h; exact absurd h (by show ¬ (5 : Int) = 0; decide)⟩, by rw [HR.out]; exact (HC3.out.setF hgl _ _).setF hgl _ _, ((GrowG.mk HG3.out).setF (Nat.le_refl _) _ _ |>.setF (Nat.le_refl _) _ _).h⟩
    · have HR := Lib.hid (HRN.out h0 h1)
      have hn : U.1 ≠ 0 ∧ U.1 ≤ left := by omega
      have t2 : ((U.1 : Int) == 0) = false := by simp; omega
      have t3 : decide ((left : Int) < U.1) = false := decide_eq_false (by omega)
      have t4 : decide (left < U.1) = false := decide_eq_false (by omega)
      have HI := Lib.hid (cur_Int g U.2.1 U.2.2 w1 HC1.out hul)
      rw [h0] at HI
      have hwu : wrap64 (U.1 : Int) = U.1 := by unfold wrap64; omega
      generalize bitsS U.2.1 0 = V at *
      generalize unfoldI V.1 = vi at *
      clear HRF HRE HRN h0 h1 hn
      go_wp2_with fail
      refine HI.out.mono ?_
      rintro e w3 ⟨rfl, hc3, hg3⟩
      have HC3 := Lib.hid hc3
      have HG3 := Lib.hid (HG1.out.trans hg3)
      have D3 := Lib.hid ((hg3.block w.heap.size (Array.getElem?_eq_some_iff.1 D1.out).1 (by simp; omega)).trans D1.out)
      clear hc3 hg3
      go_wp2_with fail
      refine (cur_Err g _ _ w3 HC3.out).mono ?_
      rintro e w4 ⟨rfl, rfl⟩
      have e0 := blk D3.out 0 rfl
      have e1 := blk D3.out 1 rfl
      have f0 := frozen_blk D3.out 0
      have f1 := frozen_blk D3.out 1
      go_wp2_with fail
      exact bodyPost_ret (ret_cell_tmp (p := 4) (u := 5) rfl rfl (load_run (set2 D3.out _ _))) rfl ⟨⟨_, by rw [HR.out] <;> rfl, fun _ => by rw [HR.out]⟩, by rw [HR.out]; exact (HC3.out.setF hgl _ _).setF hgl _ _, ((GrowG.mk HG3.out).setF (Nat.le_refl _) _ _ |>.setF (Nat.le_refl _) _ _).h⟩
  · have t1 : (U.2.2 == 0) = false := by simpa using h0
    have HR := Lib.hid (HRE.out h0)
    have HI := Lib.hid (cur_Int g U.2.1 U.2.2 w1 HC1.out hul)
    rw [bitsS_err h0, unfoldI_zero] at HI
    have HN0 := Lib.hid h0
    clear HRF HRE HRN h0
    go_wp2_with fail
    refine HI.out.mono ?_
    rintro e w3 ⟨rfl, hc3, hg3⟩
    have HC3 := Lib.hid hc3
    have HG3 := Lib.hid (HG1.out.trans hg3)
    have D3 := Lib.hid ((hg3.block w.heap.size (Array.getElem?_eq_some_iff.1 D1.out).1 (by simp; omega)).trans D1.out)
    clear hc3 hg3
    go_wp2_with fail
    refine (cur_Err g _ _ w3 HC3.out).mono ?_
    rintro e w4 ⟨rfl, rfl⟩
    have e0 := blk D3.out 0 rfl
    have e1 := blk D3.out 1 rfl
    have f0 := frozen_blk D3.out 0
    have f1 := frozen_blk D3.out 1
    go_wp2_with fail
    exact bodyPost_ret (ret_cell_tmp (p := 4) (u := 5) rfl rfl (load_run (set2 D3.out _ _))) rfl ⟨⟨_, by rw [HR.out]; exact congrArg (fun b => Ending.returned (.tuple #[.agg #[.int .i64 _, .int .i64 0], .bool b])) t1.symm, fun h => by rw [HR.out] at h; exact absurd h HN0.out⟩, by rw [HR.out]; exact (HC3.out.setF hgl _ _).setF hgl _ _, ((GrowG.mk HG3.out).setF (Nat.le_refl _) _ _ |>.setF (Nat.le_refl _) _ _).h⟩
end Go.Proofs.Ytfeddkfpkdjbeaa
