/- SigReads: the walk of the law. -/
import Derived.Test.YtfeddkfpkdjbeaaSigW
namespace Go.Proofs.Ytfeddkfpkdjbeaa
open Go.RowKit

theorem sig_Read_ic (w : World) : Calls Try.prog 17 #[.string ⟨#[105, 99]⟩] w fun e w' =>
    ∃ ao cap, e = .returned (.tuple #[.slice ao 2 cap, .int .i64 0]) ∧ Cells w' ao ([1, 2].map (.int .i64)) ∧ Ext w w' :=
  (sig_Read _ w (by decide)).mono fun e w' ⟨ao, cap, he, hc, hb⟩ => ⟨ao, cap, he, hc, hb⟩

theorem sig_Text_ic (ao : Option Addr) (cap : Nat) (w : World) (hc : Cells w ao ([1, 2].map (.int .i64))) : Calls Try.prog 20 #[.slice ao 2 cap] w fun e w' =>
    e = .returned (.string ⟨#[105, 99]⟩) ∧ Ext w w' := sig_Text ao cap [1, 2] w hc (by decide)

theorem sig_Text_nil (w : World) : Calls Try.prog 20 #[.slice none 0 0] w fun e w' =>
    e = .returned (.string ⟨#[45]⟩) ∧ Ext w w' := sig_Text none 0 [] w (Cells.nil _ _) (by decide)

theorem sig_May (a : Int) (w : World) :
    Calls Try.prog 42 #[.int .i64 a] w fun e w' => e = .returned (.bool (a == 1 || a == 2)) ∧ w = w' := by
  by_cases h1 : a = 1
  · subst h1
    go_enter Try.func42, Try.ntmps42
    go_wp2
    go_ret
    exact ⟨rfl, rfl⟩
  · have t1 : (a == 1) = false := by simpa using h1
    clear h1
    go_enter Try.func42, Try.ntmps42
    go_wp2
    go_ret
    exact ⟨by simp [t1], rfl⟩

set_option maxHeartbeats 1000000 in
set_option maxRecDepth 20000 in
theorem sig_lives (w : World) :
    Calls Try.prog 16 #[] w fun e w' => e = .returned (.bool true) ∧ Ext w w' := by
  go_enter Try.func16, Try.ntmps16
  go_wp2_with fail
  refine (sig_Read_ic w).mono ?_
  rintro e w1 ⟨ao, cap, rfl, hc, hb⟩
  go_wp2_with fail
  refine (sig_Text_ic ao cap w1 hc).mono ?_
  rintro e w2 ⟨rfl, hb2⟩
  go_wp2_with fail
  refine (sig_Text_nil w2).mono ?_
  rintro e w3 ⟨rfl, hb3⟩
  go_wp2_with fail
  refine (sig_May 2 w3).mono ?_
  rintro e w4 ⟨rfl, rfl⟩
  go_wp2_with fail
  go_ret
  exact ⟨rfl, (hb.tr hb2).tr hb3⟩

theorem readE_text (s : List UInt8) (h : readE s = 0) : textB (readL s) = s := by
  unfold readE readL readS at *
  by_cases h45 : s = [45]
  · subst h45; rfl
  · by_cases h2 : s ≠ [] ∧ s.all isIC = true
    · simp only [h45, h2, if_false, if_true, Option.getD_some, ne_eq, not_false_eq_true, and_self]
      exact textB_map s h2.1 h2.2
    · rw [if_neg h45, if_neg h2] at h; simp at h

theorem readL_le (s : List UInt8) : (readL s).length ≤ s.length := by
  unfold readL readS; repeat' split
  all_goals simp

set_option maxHeartbeats 1000000 in
set_option maxRecDepth 20000 in
theorem SigReads_walk (s0 : ByteArray) (w : World) (hs0 : s0.size ≤ maxLen) :
    Calls Try.prog 3 #[.string s0] w fun e w' => e = .returned (.bool true) ∧ Ext w w' := by
  unfold maxLen at hs0
  by_cases h3 : 300 < s0.size
  · go_enter Try.func3, Try.ntmps3
    go_wp2_with fail
    refine (sig_lives _).mono ?_
    rintro e w1 ⟨rfl, hb⟩
    go_wp2_with fail
    go_ret
    exact ⟨rfl, hb⟩
  · have hle : s0.size ≤ 300 := by omega
    clear h3 hs0
    have hll : (readL s0.data.toList).length ≤ 300 := by have := readL_le s0.data.toList; simp at this; omega
    have HT := Lib.hid (readE_text s0.data.toList)
    go_enter Try.func3, Try.ntmps3
    go_wp2_with fail
    refine (sig_Read s0 w (by omega)).mono ?_
    rintro e w1 ⟨ao, cap, rfl, hc, hb⟩
    go_wp2_with fail
    refine (sigref_Read s0 w1 (by omega)).mono ?_
    rintro e w2 ⟨bo, cbp, rfl, hc2, hb2⟩
    have hc1 := hc.ext hb2
    generalize readL s0.data.toList = L at *
    generalize readE s0.data.toList = E at *
    go_wp2_with fail
    refine (sigref_Same ao bo cap cbp L L w2 hc1 hc2 (by omega) (by omega)).mono ?_
    rintro e w3 ⟨rfl, hb3⟩
    have hc3 := hc1.ext hb3
    rw [decide_eq_true rfl]
    by_cases hE : E = 0
    · have hT := HT.out hE
      have ht : ((textS L).toList == s0.toList) = true := by rw [strEq, textS]; simpa using hT
      subst hE
      clear HT hT
      go_wp2_with fail
      refine (sig_Text ao cap L w3 hc3 (by omega)).mono ?_
      rintro e w4 ⟨rfl, hb4⟩
      go_wp2_with fail
      refine (sig_lives _).mono ?_
      rintro e w5 ⟨rfl, hb5⟩
      go_wp2_with fail
      go_ret
      exact ⟨rfl, (((hb.tr hb2).tr hb3).tr hb4).tr hb5⟩
    · have tE : (E == 0) = false := by simpa using hE
      have tE2 : (E != 0) = true := by simpa using hE
      clear hE HT
      go_wp2_with fail
      refine (sig_lives _).mono ?_
      rintro e w5 ⟨rfl, hb5⟩
      go_wp2_with fail
      go_ret
      exact ⟨rfl, ((hb.tr hb2).tr hb3).tr hb5⟩

end Go.Proofs.Ytfeddkfpkdjbeaa
