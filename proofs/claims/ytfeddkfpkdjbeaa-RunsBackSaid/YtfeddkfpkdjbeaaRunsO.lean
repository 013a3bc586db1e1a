/- The walks of runs.Of, of its generic part, and of its reference. -/
import Derived.Test.YtfeddkfpkdjbeaaRunsW
namespace Go.Proofs.Ytfeddkfpkdjbeaa
open Go.RowKit

/-- What a call leaves that hands back a new list of pairs. -/
def RetPairs (xs : List (Int × Int)) (w : World) (e : Ending) (w' : World) : Prop :=
  ∃ ao cap, e = .returned (.slice ao xs.length cap) ∧ Cells w' ao (xs.flatMap pairC) ∧ Ext w w' ∧ Fresh w.heap.size ao

set_option maxHeartbeats 2000000 in
set_option maxRecDepth 20000 in
theorem runs_groups (ao : Option Addr) (cap : Nat) (l : List Int) (w : World) (hc : Cells w ao (l.map (.int .i64))) (hl : l.length ≤ 4398046511104) :
    Calls Try.prog 74 #[.slice ao l.length cap] w (RetPairs (runsOf l) w) := by
  go_enter Try.func74, Try.ntmps74
  go_wp2
  go_loopw [3, 9] (fun v i wr => ∃ k : Nat, k ≤ l.length ∧ i = .int .i64 k ∧ wr.ownsRow w.heap.size 118 2 v (runsOf (l.take k)).length ((runsOf (l.take k)).flatMap pairC) ∧ Ext w wr)
    (fun _ i _ => l.length - (intOf i).toNat)
  case atStart => exact ⟨0, Nat.zero_le _, rfl, World.ownsRow_nil _ _ _ _, Ext.rf w⟩
  case round =>
    obtain ⟨k, hk, rfl, hown, hext⟩ := hrel
    by_cases hlt : k < l.length
    · obtain ⟨b, off, rfl, c1⟩ := (hc.ext hext).at (k := k) (by simpa using hlt)
      simp only [List.getElem_map] at c1
      have HS := Lib.hid (runsOf_take_succ l k hlt)
      obtain ⟨hn, HC⟩ := cntOk (l.take k)
      have hn : (runsOf (l.take k)).length ≤ k := by simp at hn; omega
      have HC : ∀ p ∈ runsOf (l.take k), 1 ≤ p.1 ∧ p.1 ≤ (k : Int) := fun p hp => by have := HC p hp; simp at this; omega
      generalize runsOf (l.take k) = R at *
      by_cases h0 : 0 < R.length
      · obtain ⟨g, rc, rfl⟩ := own_some hown h0
        have hp1 : 1 ≤ R[R.length - 1].1 ∧ R[R.length - 1].1 ≤ k := HC _ (List.getElem_mem _)
        obtain ⟨hp1, hp2⟩ := hp1
        obtain ⟨ao', cap', e1, -, -, hR⟩ := Cells.own hown
        simp only [Value.slice.injEq, true_and] at e1
        obtain ⟨rfl, -⟩ := e1
        obtain ⟨b', off', e2, c2, c3⟩ := hR.pair (k := R.length - 1) (by omega)
        simp only [Option.some.injEq, Addr.mk.injEq, and_true] at e2
        obtain ⟨rfl, rfl⟩ := e2
        simp only [Nat.zero_add] at c2 c3
        have i1 : (0 : Int) ≤ R.length - 1 := by omega
        clear HC hR
        by_cases h1 : R[R.length - 1].2 = l[k]
        · have t1 : (R[R.length - 1].2 == l[k]) = true := by simpa using h1
          have fz := hown.frozenAt ((R.length - 1) * 2)
          have HN : Hid (runsOf (l.take (k + 1)) = R.set (R.length - 1) (R[R.length - 1].1 + 1, R[R.length - 1].2)) := by rw [Hid, HS.out, runStep_hit h0 h1]
          clear h1
          have hst := (hown.stored ((R.length - 1) * 2) (.int .i64 (R[R.length - 1].1 + 1))).1
          have hex := hext.stored hown (Nat.le_refl _) rfl ((R.length - 1) * 2) (.int .i64 (R[R.length - 1].1 + 1))
          rw [← pairC_set R (R.length - 1) (by omega)] at hst
          clear hext hown
          go_wp2
          go_roundw
          case rel => exact ⟨k + 1, by omega, by go_num, by rw [HN.out, List.length_set]; exact hst, hex⟩
          case measure => simp [intOf]; omega
        · have t1 : (R[R.length - 1].2 == l[k]) = false := by simpa using h1
          have HN : Hid (runsOf (l.take (k + 1)) = R ++ [(1, l[k])]) := by rw [Hid, HS.out, runStep_miss h0 h1]
          clear h1
          go_wp2_with (at_builtin; (refine wpList_push rfl (.tmp 35) (.tmp 38) 115 rfl w.heap.size 118 118 (.agg #[.int .i64 0, .int .i64 0]) 2 16 Try.underlying115 (by kernel_rfl) rfl (by decide) _ R.length _ [.int .i64 1, .int .i64 l[k]] rfl hown _ rfl (by simp) rfl (by simp [Value.oneCell']) (by unfold maxLen; omega) (by omega) hext.size ?_; intro v' w1 hown1 hgr; have hext1 := hext.push hown (Nat.le_refl _) hgr; clear hgr hown hext))
          go_roundw
          case rel => exact ⟨k + 1, by omega, by go_num, by rw [HN.out, List.length_append, List.flatMap_append]; exact hown1, hext1⟩
          case measure => simp [intOf]; omega
      · have i2 : R.length ≤ 0 := by omega
        obtain ⟨ro, rc, rfl⟩ := own_form hown
        have HN : Hid (runsOf (l.take (k + 1)) = R ++ [(1, l[k])]) := by
          obtain rfl : R = [] := List.eq_nil_of_length_eq_zero (by omega)
          exact HS.out
        have t1 : decide ((0 : Int) ≤ R.length - 1) = false := by simp; omega
        clear h0 HC
        go_wp2_with (at_builtin; (refine wpList_push rfl (.tmp 35) (.tmp 38) 115 rfl w.heap.size 118 118 (.agg #[.int .i64 0, .int .i64 0]) 2 16 Try.underlying115 (by kernel_rfl) rfl (by decide) _ R.length _ [.int .i64 1, .int .i64 l[k]] rfl hown _ rfl (by simp) rfl (by simp [Value.oneCell']) (by unfold maxLen; omega) (by omega) hext.size ?_; intro v' w1 hown1 hgr; have hext1 := hext.push hown (Nat.le_refl _) hgr; clear hgr hown hext))
        go_roundw
        case rel => exact ⟨k + 1, by omega, by go_num, by rw [HN.out, List.length_append, List.flatMap_append]; exact hown1, hext1⟩
        case measure => simp [intOf]; omega
    · obtain rfl : k = l.length := by omega
      rw [List.take_of_length_le (Nat.le_refl _)] at hown
      obtain ⟨ao', cap', rfl, hc', hf'⟩ := own_cells hown
      clear hown hlt
      go_wp2
      go_ret
      exact ⟨ao', cap', rfl, hc', hext, hf'⟩

set_option maxHeartbeats 2000000 in
set_option maxRecDepth 20000 in
theorem runs_Of (ao : Option Addr) (cap : Nat) (l : List Int) (w : World) (hc : Cells w ao (l.map (.int .i64))) (hl : l.length ≤ 4398046511104) :
    Calls Try.prog 30 #[.slice ao l.length cap] w (RetPairs (runsOf l) w) := by
  have hrl := (cntOk l).1
  go_enter Try.func30, Try.ntmps30
  go_wp2_with fail
  refine (runs_groups ao cap l w hc hl).mono ?_
  rintro e w1 ⟨go, gc, rfl, hg, hb, -⟩
  generalize runsOf l = R at *
  go_wp2_with fail
  go_loopw [3, 9] (fun v i wr => ∃ k : Nat, k ≤ R.length ∧ i = .int .i64 k ∧ wr.ownsRow w1.heap.size 33 2 v k ((R.flatMap pairC).take (k * 2)) ∧ Ext w1 wr)
    (fun _ i _ => R.length - (intOf i).toNat)
  case atStart => exact ⟨0, Nat.zero_le _, rfl, World.ownsRow_nil _ _ _ _, Ext.rf w1⟩
  case round =>
    obtain ⟨k, hk, rfl, hown, hext⟩ := hrel
    by_cases hlt : k < R.length
    · obtain ⟨b, off, rfl, c1, c2⟩ := (hg.ext hext).pair (k := k) hlt
      go_wp2_with (at_builtin; (refine wpList_push rfl (.tmp 13) (.tmp 19) 30 rfl w1.heap.size 33 33 (.agg #[.int .i64 0, .int .i64 0]) 2 16 Try.underlying30 (by kernel_rfl) rfl (by decide) _ k _ [.int .i64 R[k].1, .int .i64 R[k].2] rfl (hown.alloc _) _ rfl (by simp) rfl (by simp [Value.oneCell']) (by unfold maxLen; omega) (by omega) (hext.al _).size ?_; intro v' w2 hown1 hgr; have hext1 := (hext.al _).push (hown.alloc _) (Nat.le_refl _) hgr; clear hgr hown hext))
      go_roundw
      case rel => exact ⟨k + 1, by omega, by go_num, by rw [take_flat2 R k hlt]; exact hown1, hext1⟩
      case measure => simp [intOf]; omega
    · obtain rfl : k = R.length := by omega
      rw [List.take_of_length_le (by rw [length_flat (size := 2) (fun _ => rfl)]; omega)] at hown
      obtain ⟨ao', cap', rfl, hc', hf'⟩ := own_cells hown
      clear hown hlt
      go_wp2
      go_ret
      exact ⟨ao', cap', rfl, hc', hb.tr hext, hf'.mono hb.size⟩
set_option maxHeartbeats 2000000 in
set_option maxRecDepth 20000 in
theorem runsref_Of (ao : Option Addr) (cap : Nat) (l : List Int) (w : World) (hc : Cells w ao (l.map (.int .i64))) (hl : l.length ≤ 4398046511104) :
    Calls Try.prog 31 #[.slice ao l.length cap] w (RetPairs (runsOf l) w) := by
  go_enter Try.func31, Try.ntmps31
  go_wp2
  go_loopw [3, 4] (fun v i wr => ∃ k : Nat, k ≤ l.length ∧ i = .int .i64 k ∧ wr.ownsRow w.heap.size 34 2 v (runsOf (l.take k)).length ((runsOf (l.take k)).flatMap pairC) ∧ Ext w wr)
    (fun _ i _ => l.length - (intOf i).toNat)
  case atStart => exact ⟨0, Nat.zero_le _, rfl, World.ownsRow_nil _ _ _ _, Ext.rf w⟩
  case round =>
    obtain ⟨k, hk, rfl, hown, hext⟩ := hrel
    by_cases hlt : k < l.length
    · obtain ⟨b, off, rfl, c1⟩ := (hc.ext hext).at (k := k) (by simpa using hlt)
      simp only [List.getElem_map] at c1
      have HS := Lib.hid (runsOf_take_succ l k hlt)
      obtain ⟨hn, HC⟩ := cntOk (l.take k)
      have hn : (runsOf (l.take k)).length ≤ k := by simp at hn; omega
      have HC : ∀ p ∈ runsOf (l.take k), 1 ≤ p.1 ∧ p.1 ≤ (k : Int) := fun p hp => by have := HC p hp; simp at this; omega
      generalize runsOf (l.take k) = R at *
      by_cases h0 : 0 < R.length
      · obtain ⟨g, rc, rfl⟩ := own_some hown h0
        have hp1 : 1 ≤ R[R.length - 1].1 ∧ R[R.length - 1].1 ≤ k := HC _ (List.getElem_mem _)
        obtain ⟨hp1, hp2⟩ := hp1
        obtain ⟨ao', cap', e1, -, -, hR⟩ := Cells.own hown
        simp only [Value.slice.injEq, true_and] at e1
        obtain ⟨rfl, -⟩ := e1
        obtain ⟨b', off', e2, c2, c3⟩ := hR.pair (k := R.length - 1) (by omega)
        simp only [Option.some.injEq, Addr.mk.injEq, and_true] at e2
        obtain ⟨rfl, rfl⟩ := e2
        simp only [Nat.zero_add] at c2 c3
        have i1 : (0 : Int) ≤ R.length - 1 := by omega
        have i2 : (R.length : Int) - 1 < R.length := by omega
        have i3 : (0 : Int) ≤ k := by omega
        have i4 : (k : Int) < l.length := by omega
        have t0 : decide ((0 : Int) < R.length) = true := by simp; omega
        have t0n : decide (0 < R.length) = true := by simp; omega
        clear HC hR
        by_cases h1 : R[R.length - 1].2 = l[k]
        · have t1 : (R[R.length - 1].2 == l[k]) = true := by simpa using h1
          have fz := hown.frozenAt ((R.length - 1) * 2)
          have HN : Hid (runsOf (l.take (k + 1)) = R.set (R.length - 1) (R[R.length - 1].1 + 1, R[R.length - 1].2)) := by rw [Hid, HS.out, runStep_hit h0 h1]
          clear h1
          go_wp2
          go_quiet (fail)
          have hown := own_drN hown nq
          have hext := hext.drN nq
          have fz : (wr.drewN nq).frozen? ⟨g, (R.length - 1) * 2, none⟩ = false := fz
          have c2 : (wr.drewN nq).cell? ⟨g, (R.length - 1) * 2, none⟩ = some (.int .i64 R[R.length - 1].1) := c2
          generalize wr.drewN nq = wq at *
          have hst := (hown.stored ((R.length - 1) * 2) (.int .i64 (R[R.length - 1].1 + 1))).1
          have hex := hext.stored hown (Nat.le_refl _) rfl ((R.length - 1) * 2) (.int .i64 (R[R.length - 1].1 + 1))
          rw [← pairC_set R (R.length - 1) (by omega)] at hst
          clear hext hown
          go_wp2
          go_roundw
          case rel => exact ⟨k + 1, by omega, by go_num, by rw [HN.out, List.length_set]; exact hst, hex⟩
          case measure => simp [intOf]; omega
        · have t1 : (R[R.length - 1].2 == l[k]) = false := by simpa using h1
          have HN : Hid (runsOf (l.take (k + 1)) = R ++ [(1, l[k])]) := by rw [Hid, HS.out, runStep_miss h0 h1]
          clear h1
          go_wp2
          go_quiet (fail)
          have hown := own_drN hown nq
          have hext := hext.drN nq
          have c1 : (wr.drewN nq).cell? ⟨b, off + k, none⟩ = some (.int .i64 l[k]) := c1
          generalize wr.drewN nq = wq at *
          go_wp2_with (at_builtin; (refine wpList_push rfl (.tmp 38) (.tmp 44) 31 rfl w.heap.size 34 34 (.agg #[.int .i64 0, .int .i64 0]) 2 16 Try.underlying31 (by kernel_rfl) rfl (by decide) _ R.length _ [.int .i64 1, .int .i64 l[k]] rfl hown _ rfl (by simp) rfl (by simp [Value.oneCell']) (by unfold maxLen; omega) (by omega) hext.size ?_; intro v' w1 hown1 hgr; have hext1 := hext.push hown (Nat.le_refl _) hgr; clear hgr hown hext))
          go_roundw
          case rel => exact ⟨k + 1, by omega, by go_num, by rw [HN.out, List.length_append, List.flatMap_append]; exact hown1, hext1⟩
          case measure => simp [intOf]; omega
      · have i2 : R.length ≤ 0 := by omega
        obtain ⟨ro, rc, rfl⟩ := own_form hown
        have HN : Hid (runsOf (l.take (k + 1)) = R ++ [(1, l[k])]) := by
          obtain rfl : R = [] := List.eq_nil_of_length_eq_zero (by omega)
          exact HS.out
        have t0 : decide ((0 : Int) < R.length) = false := decide_eq_false (by omega)
        have t0n : decide (0 < R.length) = false := decide_eq_false (by omega)
        clear h0 HC i2
        go_wp2
        go_quiet (fail)
        have hown := own_drN hown nq
        have hext := hext.drN nq
        have c1 : (wr.drewN nq).cell? ⟨b, off + k, none⟩ = some (.int .i64 l[k]) := c1
        generalize wr.drewN nq = wq at *
        go_wp2_with (at_builtin; (refine wpList_push rfl (.tmp 38) (.tmp 44) 31 rfl w.heap.size 34 34 (.agg #[.int .i64 0, .int .i64 0]) 2 16 Try.underlying31 (by kernel_rfl) rfl (by decide) _ R.length _ [.int .i64 1, .int .i64 l[k]] rfl hown _ rfl (by simp) rfl (by simp [Value.oneCell']) (by unfold maxLen; omega) (by omega) hext.size ?_; intro v' w1 hown1 hgr; have hext1 := hext.push hown (Nat.le_refl _) hgr; clear hgr hown hext))
        go_roundw
        case rel => exact ⟨k + 1, by omega, by go_num, by rw [HN.out, List.length_append, List.flatMap_append]; exact hown1, hext1⟩
        case measure => simp [intOf]; omega
    · obtain rfl : k = l.length := by omega
      rw [List.take_of_length_le (Nat.le_refl _)] at hown
      obtain ⟨ao', cap', rfl, hc', hf'⟩ := own_cells hown
      clear hown hlt
      go_wp2
      go_ret
      exact ⟨ao', cap', rfl, hc', hext, hf'⟩

end Go.Proofs.Ytfeddkfpkdjbeaa
