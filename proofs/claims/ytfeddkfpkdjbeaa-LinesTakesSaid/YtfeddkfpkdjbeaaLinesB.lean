/- The walk of the reference's Of: where a line is. -/
import Derived.Test.YtfeddkfpkdjbeaaLinesA
import Derived.Test.YtfeddkfpkdjbeaaLinesP
namespace Go.Proofs.Ytfeddkfpkdjbeaa
open Go.RowKit

set_option maxHeartbeats 2000000 in
set_option maxRecDepth 20000 in
theorem linesref_Of (ao : Option Addr) (cap : Nat) (l : List Int) (line : Int) (w : World) (hc : Cells w ao (l.map (.int .i64))) (hl : l.length ≤ 4398046511104) :
    Calls Try.prog 36 #[.slice ao l.length cap, .int .i64 line] w (RetSl (linesOf l line).length ((linesOf l line).flatMap pairC) w) := by
  go_enter Try.func36, Try.ntmps36
  go_wp2
  go_loopw [5, 6] (fun v i wr => ∃ k : Nat, k ≤ l.length ∧ i = .int .i64 k ∧ wr.ownsRow w.heap.size 61 2 v (ofUpto l line k).length ((ofUpto l line k).flatMap pairC) ∧ Ext w wr)
    (fun _ i _ => l.length - (intOf i).toNat)
  case atStart => exact ⟨0, Nat.zero_le _, rfl, World.ownsRow_nil _ _ _ _, Ext.rf w⟩
  case round =>
    obtain ⟨k, hk, rfl, hown, hext⟩ := hrel
    by_cases hlt : k < l.length
    · obtain ⟨b, off, rfl, c1⟩ := (hc.ext hext).at (k := k) (by simpa using hlt)
      simp only [List.getElem_map] at c1
      have HS : Hid (ofUpto l line (k + 1) = ofStep line (ofUpto l line k) k l[k]) := by
        show ofStep line (ofUpto l line k) k ((l[k]?).getD 0) = _
        simp [hlt]
      obtain ⟨hn, HC⟩ := ofUpto_ok l line k
      generalize ofUpto l line k = R at *
      by_cases hv : l[k] = line
      · have t0 : (l[k] != line) = false := by simp [hv]
        rw [hv] at HS
        clear hv
        by_cases h0 : 0 < R.length
        · obtain ⟨g, rc, rfl⟩ := own_some hown h0
          have hp1 : R[R.length - 1].2 ≤ k ∧ 0 ≤ R[R.length - 1].1 ∧ 0 ≤ R[R.length - 1].2 := HC _ (List.getElem_mem _)
          obtain ⟨hp1, hp2, hp3⟩ := hp1
          obtain ⟨ao', cap', e1, -, -, hR⟩ := Cells.own hown
          simp only [Value.slice.injEq, true_and] at e1
          obtain ⟨rfl, -⟩ := e1
          obtain ⟨b', off', e2, c2, c3⟩ := hR.pair (k := R.length - 1) (by omega)
          simp only [Option.some.injEq, Addr.mk.injEq, and_true] at e2
          obtain ⟨rfl, rfl⟩ := e2
          simp only [Nat.zero_add] at c2 c3
          have i1 : (0 : Int) ≤ R.length - 1 := by omega
          have t2 : decide ((0 : Int) < R.length) = true := decide_eq_true (by omega)
          have t2n : decide (0 < R.length) = true := decide_eq_true (by omega)
          clear HC hR
          by_cases h1 : R[R.length - 1].2 = k
          · have t1 : (R[R.length - 1].2 == (k : Int)) = true := by simpa using h1
            have fz := hown.frozenAt ((R.length - 1) * 2 + 1)
            have HN : Hid (ofUpto l line (k + 1) = R.set (R.length - 1) (R[R.length - 1].1, (k : Int) + 1)) := by rw [Hid, HS.out, ofStep_hit h0 h1]
            clear h1
            have hst := (hown.stored ((R.length - 1) * 2 + 1) (.int .i64 ((k : Int) + 1))).1
            have hex := hext.stored hown (Nat.le_refl _) rfl ((R.length - 1) * 2 + 1) (.int .i64 ((k : Int) + 1))
            rw [← pairC_set2 R (R.length - 1) (by omega)] at hst
            clear hext hown
            go_wp2
            go_roundw
            case rel => exact ⟨k + 1, by omega, by go_num, by rw [HN.out, List.length_set]; exact hst, hex⟩
            case measure => simp [intOf]; omega
          · have t1 : (R[R.length - 1].2 == (k : Int)) = false := by simpa using h1
            have HN : Hid (ofUpto l line (k + 1) = R ++ [((k : Int), (k : Int) + 1)]) := by rw [Hid, HS.out, ofStep_miss (fun _ => h1)]
            clear h1
            go_wp2_with (at_builtin; (refine wpList_push rfl (.tmp 41) (.tmp 46) 57 rfl w.heap.size 61 61 (.agg #[.int .i64 0, .int .i64 0]) 2 16 Try.underlying57 (by kernel_rfl) rfl (by decide) _ R.length _ [.int .i64 k, .int .i64 ((k : Int) + 1)] rfl hown _ rfl (by simp) rfl (by simp [Value.oneCell']) (by unfold maxLen; omega) (by omega) hext.size ?_; intro v' w1 hown1 hgr; have hext1 := hext.push hown (Nat.le_refl _) hgr; clear hgr hown hext))
            go_roundw
            case rel => exact ⟨k + 1, by omega, by go_num, by rw [HN.out, List.length_append, List.flatMap_append]; exact hown1, hext1⟩
            case measure => simp [intOf]; omega
        · obtain ⟨ro, rc, rfl⟩ := own_form hown
          have HN : Hid (ofUpto l line (k + 1) = R ++ [((k : Int), (k : Int) + 1)]) := by rw [Hid, HS.out, ofStep_miss (fun h => absurd h h0)]
          have t2 : decide ((0 : Int) < R.length) = false := decide_eq_false (by omega)
          have t2n : decide (0 < R.length) = false := decide_eq_false (by omega)
          clear HC
          go_wp2_with (at_builtin; (refine wpList_push rfl (.tmp 41) (.tmp 46) 57 rfl w.heap.size 61 61 (.agg #[.int .i64 0, .int .i64 0]) 2 16 Try.underlying57 (by kernel_rfl) rfl (by decide) _ R.length _ [.int .i64 k, .int .i64 ((k : Int) + 1)] rfl hown _ rfl (by simp) rfl (by simp [Value.oneCell']) (by unfold maxLen; omega) (by omega) hext.size ?_; intro v' w1 hown1 hgr; have hext1 := hext.push hown (Nat.le_refl _) hgr; clear hgr hown hext))
          go_roundw
          case rel => exact ⟨k + 1, by omega, by go_num, by rw [HN.out, List.length_append, List.flatMap_append]; exact hown1, hext1⟩
          case measure => simp [intOf]; omega
      · have t0 : (l[k] != line) = true := by simpa using hv
        have HN : Hid (ofUpto l line (k + 1) = R) := by rw [Hid, HS.out, ofStep_other hv]
        clear hv HC
        go_wp2
        go_roundw
        case rel => exact ⟨k + 1, by omega, by go_num, by rw [HN.out]; exact hown, hext⟩
        case measure => simp [intOf]; omega
    · obtain rfl : k = l.length := by omega
      obtain ⟨ao', cap', rfl, hc', hf'⟩ := own_cells hown
      clear hown hlt
      go_wp2
      go_ret
      exact ⟨ao', cap', rfl, hc', hext, hf'⟩
end Go.Proofs.Ytfeddkfpkdjbeaa
