/- The walks of package runs, and of its reference. -/
import Derived.Test.YtfeddkfpkdjbeaaBase
import Derived.Test.YtfeddkfpkdjbeaaRunsP
namespace Go.Proofs.Ytfeddkfpkdjbeaa
open Go.RowKit

/-- What a call leaves that hands back a new list of ints. -/
def RetInts (xs : List Int) (w : World) (e : Ending) (w' : World) : Prop :=
  ∃ ao cap, e = .returned (.slice ao xs.length cap) ∧ Cells w' ao (xs.map (.int .i64)) ∧ Ext w w'

set_option maxHeartbeats 1000000 in
set_option maxRecDepth 20000 in
theorem runs_Row (ao : Option Addr) (cap : Nat) (l : List (Int × Int)) (w : World) (hc : Cells w ao (l.flatMap pairC)) (hl : l.length ≤ 17592186044416) :
    Calls Try.prog 23 #[.slice ao l.length cap] w (RetInts (rowOf l) w) := by
  go_enter Try.func23, Try.ntmps23
  go_wp2
  go_loopw [3, 8] (fun v i wr => ∃ k : Nat, k ≤ l.length ∧ i = .int .i64 k ∧ wr.ownsRow w.heap.size 3 1 v (rowOf (l.take k)).length ((rowOf (l.take k)).map (.int .i64)) ∧ Ext w wr)
    (fun _ i _ => l.length - (intOf i).toNat)
  case atStart => exact ⟨0, Nat.zero_le _, rfl, World.ownsRow_nil _ _ _ _, Ext.rf w⟩
  case round =>
    obtain ⟨k, hk, rfl, hown, hext⟩ := hrel
    by_cases hlt : k < l.length
    · obtain ⟨b, off, rfl, c1, c2⟩ := (hc.ext hext).pair (k := k) hlt
      have hle := rowOf_le (l.take k)
      have HS := Lib.hid (rowOf_take_succ l k hlt)
      generalize rowOf (l.take k) = R at *
      obtain ⟨ro, rc, rfl⟩ := own_form hown
      obtain ⟨m, hm, hcase⟩ : ∃ m : Nat, Hid (m = min l[k].1.toNat (2000 - R.length)) ∧ ((m = 0 ∧ l[k].1 ≤ 0) ∨ ((m : Int) = l[k].1 ∧ 0 < l[k].1 ∧ l[k].1 ≤ 2000 - R.length) ∨ ((m : Int) = 2000 - R.length ∧ 0 < l[k].1 ∧ 2000 - R.length < l[k].1)) :=
        ⟨_, Lib.hid rfl, by omega⟩
      have hmle : m + R.length ≤ 2000 := by have := hm.out; omega
      have hq : (m ≤ 0 ∧ l[k].1 ≤ 0) ∨ ((m : Int) ≤ l[k].1 ∧ l[k].1 ≤ m ∧ 0 < l[k].1 ∧ l[k].1 ≤ 2000 - R.length) ∨ ((m : Int) ≤ 2000 - R.length ∧ 2000 - R.length ≤ (m : Int) ∧ 0 < l[k].1 ∧ 2000 - R.length < l[k].1) := by omega
      clear hcase
      rcases hq with ⟨h1, h2⟩ | ⟨h1, h2, h3, h4⟩ | ⟨h1, h2, h3, h4⟩
      all_goals go_wp2
      all_goals
        obtain ⟨wo, rfl⟩ : ∃ wo : World, wo = wr := ⟨_, rfl⟩
        go_loopw [3, 19] (fun v i wr => ∃ j : Nat, j ≤ m ∧ i = .int .i64 j ∧ wr.ownsRow w.heap.size 3 1 v (R.length + j) ((R ++ List.replicate j l[k].2).map (.int .i64)) ∧ Ext w wr ∧
            wr.heap[wo.heap.size]? = some (.cells #[.int .i64 l[k].1, .int .i64 l[k].2] 33 (0, 0)))
          (fun _ i _ => m - (intOf i).toNat)
        case atStart => exact ⟨0, Nat.zero_le _, rfl, by simpa using hown.alloc _, hext.al _, alloc_new _ _⟩
        case round =>
          obtain ⟨j, hj, rfl, hown2, hext2, hx⟩ := hrel
          have cx := cell_of_row wr wo.heap.size 1 _ _ _ hx
          simp only [List.getElem?_toArray, List.getElem?_cons_succ, List.getElem?_cons_zero] at cx
          by_cases hjm : j < m
          · try (exfalso; omega)
            all_goals have hle3 : R.length + j ≤ 2000 := by omega
            all_goals go_wp2_with (at_builtin; (refine wpList_push rfl (.tmp 21) (.tmp 24) 36 rfl w.heap.size 3 3 (.int .i64 0) 1 8 Try.underlying36 (by kernel_rfl) rfl (by decide) _ (R.length + j) _ [.int .i64 l[k].2] rfl hown2 _ rfl (by simp) rfl (by simp [Value.oneCell']) (by unfold maxLen; omega) (by omega) hext2.size ?_; intro v' w1 hown1 hgr; have hext1 := hext2.push hown2 (Nat.le_refl _) hgr; have hx1 := push_keepsT hown2 hgr hx (by decide); clear hgr hown2 hext2 hx cx))
            all_goals
              go_roundw
              case rel => exact ⟨j + 1, by omega, by go_num, by rw [List.replicate_succ', ← List.append_assoc]; simpa [Nat.add_assoc] using hown1, hext1, hx1⟩
              case measure => simp [intOf]; omega
          · obtain rfl : j = m := by omega
            clear cx hx hown c1 c2
            go_wp2
            go_roundw
            case rel => exact ⟨k + 1, by omega, by go_num, by rw [HS.out, rowStep, ← hm.out, List.length_append, List.length_replicate]; exact hown2, hext2⟩
            case measure => simp [intOf]; omega
    · obtain rfl : k = l.length := by omega
      rw [List.take_of_length_le (Nat.le_refl _)] at hown
      obtain ⟨ao', cap', rfl, -, -, hc'⟩ := Cells.own hown
      clear hown hlt
      go_wp2
      go_ret
      exact ⟨ao', cap', rfl, hc', hext⟩

set_option maxHeartbeats 1000000 in
set_option maxRecDepth 20000 in
theorem runsref_Row (ao : Option Addr) (cap : Nat) (l : List (Int × Int)) (w : World) (hc : Cells w ao (l.flatMap pairC)) (hl : l.length ≤ 17592186044416) :
    Calls Try.prog 24 #[.slice ao l.length cap] w (RetInts (rowOf l) w) := by
  go_enter Try.func24, Try.ntmps24
  go_wp2
  go_loopw [3, 4] (fun v i wr => ∃ k : Nat, k ≤ l.length ∧ i = .int .i64 k ∧ wr.ownsRow w.heap.size 3 1 v (rowOf (l.take k)).length ((rowOf (l.take k)).map (.int .i64)) ∧ Ext w wr)
    (fun _ i _ => l.length - (intOf i).toNat)
  case atStart => exact ⟨0, Nat.zero_le _, rfl, World.ownsRow_nil _ _ _ _, Ext.rf w⟩
  case round =>
    obtain ⟨k, hk, rfl, hown, hext⟩ := hrel
    by_cases hlt : k < l.length
    · have hle := rowOf_le (l.take k)
      have HS := Lib.hid (rowOf_take_succ l k hlt)
      generalize rowOf (l.take k) = R at *
      obtain ⟨ro, rc, rfl⟩ := own_form hown
      obtain ⟨m, hm⟩ : ∃ m : Nat, Hid (m = min l[k].1.toNat (2000 - R.length)) := ⟨_, Lib.hid rfl⟩
      have hmle : m + R.length ≤ 2000 ∧ m ≤ l[k].1.toNat ∧ (l[k].1 ≤ m ∨ 2000 ≤ m + R.length) := by have := hm.out; omega
      obtain ⟨m1, m2, m3⟩ := hmle
      go_wp2
      obtain ⟨wo, rfl⟩ : ∃ wo : World, wo = wr := ⟨_, rfl⟩
      go_loopw [3, 5] (fun v i wr => ∃ j : Nat, j ≤ m ∧ i = .int .i64 j ∧ wr.ownsRow w.heap.size 3 1 v (R.length + j) ((R ++ List.replicate j l[k].2).map (.int .i64)) ∧ Ext w wr)
        (fun _ i _ => m - (intOf i).toNat)
      case atStart => exact ⟨0, Nat.zero_le _, rfl, by simpa using hown, hext⟩
      case round =>
        obtain ⟨j, hj, rfl, hown2, hext2⟩ := hrel
        obtain ⟨b, off, rfl, c1, c2⟩ := (hc.ext hext2).pair (k := k) hlt
        obtain ⟨ro2, rc2, rfl⟩ := own_form hown2
        by_cases hjm : j < m
        · have t1 : (j : Int) < l[k].1 := by omega
          have t2 : R.length + j < 2000 := by omega
          clear m3
          go_wp2_with (at_builtin; (refine wpList_push rfl (.tmp 26) (.tmp 32) 36 rfl w.heap.size 3 3 (.int .i64 0) 1 8 Try.underlying36 (by kernel_rfl) rfl (by decide) _ (R.length + j) _ [.int .i64 l[k].2] rfl hown2 _ rfl (by simp) rfl (by simp [Value.oneCell']) (by unfold maxLen; omega) (by omega) hext2.size ?_; intro v' w1 hown1 hgr; have hext1 := hext2.push hown2 (Nat.le_refl _) hgr; clear hgr hown2 hext2))
          go_roundw
          case rel => exact ⟨j + 1, by omega, by go_num, by rw [List.replicate_succ', ← List.append_assoc]; simpa [Nat.add_assoc] using hown1, hext1⟩
          case measure => simp [intOf]; omega
        · obtain rfl : j = m := by omega
          by_cases h1 : l[k].1 ≤ j
          · have t1 : decide ((j : Int) < l[k].1) = false := by simp; omega
            clear h1 m3 hown
            go_wp2
            go_roundw
            case rel => exact ⟨k + 1, by omega, by go_num, by rw [HS.out, rowStep, ← hm.out, List.length_append, List.length_replicate]; exact hown2, hext2⟩
            case measure => simp [intOf]; omega
          · have t1 : (j : Int) < l[k].1 := by omega
            have t2 : 2000 ≤ R.length + j := by omega
            clear h1 m3 hown
            go_wp2
            go_roundw
            case rel => exact ⟨k + 1, by omega, by go_num, by rw [HS.out, rowStep, ← hm.out, List.length_append, List.length_replicate]; exact hown2, hext2⟩
            case measure => simp [intOf]; omega
    · obtain rfl : k = l.length := by omega
      rw [List.take_of_length_le (Nat.le_refl _)] at hown
      obtain ⟨ao', cap', rfl, -, -, hc'⟩ := Cells.own hown
      clear hown hlt
      go_wp2
      go_ret
      exact ⟨ao', cap', rfl, hc', hext⟩

set_option maxHeartbeats 1000000 in
set_option maxRecDepth 20000 in
theorem runsref_Ints (ao bo : Option Addr) (ca cb : Nat) (l m : List Int) (w : World) (hl : Cells w ao (l.map (.int .i64))) (hm : Cells w bo (m.map (.int .i64))) (hlen : l.length ≤ 17592186044416) (hmen : m.length ≤ 17592186044416) :
    Calls Try.prog 22 #[.slice ao l.length ca, .slice bo m.length cb] w fun e w' => e = .returned (.bool (decide (l = m))) ∧ Ext w w' := by
  by_cases hlm : l.length = m.length
  · have HLM := Lib.hid hlm
    have t0 : ((l.length : Int) != (m.length : Int)) = false := by simp [hlm]
    clear hlm
    go_enter Try.func22, Try.ntmps22
    go_wp2
    go_loopw [5] (fun i wr => ∃ k : Nat, k ≤ l.length ∧ i = .int .i64 k ∧ Ext w wr ∧ Hid (∀ j, j < k → l[j]? = m[j]?))
      (fun i _ => l.length - (intOf i).toNat)
    case atStart => exact ⟨0, Nat.zero_le _, rfl, Ext.rf w, Lib.hid (by intro j hj; omega)⟩
    case round =>
      obtain ⟨k, hk, rfl, hext, hsame⟩ := hrel
      by_cases hlt : k < l.length
      · have hlt2 : k < m.length := by rw [← HLM.out]; exact hlt
        obtain ⟨b, off, rfl, hcell⟩ := (hl.ext hext).at (k := k) (by simpa using hlt)
        obtain ⟨b2, off2, rfl, hcell2⟩ := (hm.ext hext).at (k := k) (by simpa using hlt2)
        simp only [List.getElem_map] at hcell hcell2
        have i1 : (0 : Int) ≤ k := by omega
        have i2 : (k : Int) < l.length := by omega
        have i3 : (k : Int) < m.length := by omega
        go_wp2
        go_quiet (fail)
        go_wp2
        · have hne : (l[k] != m[k]) = true := by assumption
          go_ret
          refine ⟨?_, hext.drN _⟩
          have : l ≠ m := by rintro rfl; simp at hne
          simp [this]
        · have hne : (l[k] != m[k]) = false := by assumption
          go_roundw
          case rel => exact ⟨k + 1, by omega, by go_num, hext.drN _, Lib.hid (by
            intro j hj
            rcases Nat.lt_succ_iff_lt_or_eq.1 hj with h | rfl
            · exact hsame.out j h
            · simp only [bne_eq_false_iff_eq] at hne
              simp [hlt, hlt2, hne])⟩
          case measure => simp [intOf]; omega
      · have HR : Hid (l = m) := by
          refine List.ext_getElem? fun j => ?_
          by_cases h : j < k
          · exact hsame.out j h
          · rw [List.getElem?_eq_none (by omega), List.getElem?_eq_none (by have := HLM.out; omega)]
        clear hsame
        go_wp2
        go_ret
        exact ⟨by simp [HR.out], hext⟩
  · have t0 : ((l.length : Int) != (m.length : Int)) = true := by rw [bne_iff_ne]; omega
    have HR : Hid (l ≠ m) := fun e => hlm (by rw [e])
    clear hlm
    go_enter Try.func22, Try.ntmps22
    go_wp2
    go_ret
    exact ⟨by simp [HR.out], Ext.rf _⟩

end Go.Proofs.Ytfeddkfpkdjbeaa
