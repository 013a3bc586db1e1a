/- The walks of runs.Right, and of its reference. -/
import Derived.Test.YtfeddkfpkdjbeaaBase
import Derived.Test.YtfeddkfpkdjbeaaRunsP
namespace Go.Proofs.Ytfeddkfpkdjbeaa
open Go.RowKit

set_option maxHeartbeats 2000000 in
set_option maxRecDepth 20000 in
theorem runs_Right (ao : Option Addr) (cap : Nat) (l : List (Int × Int)) (w : World) (hc : Cells w ao (l.flatMap pairC)) (hl : l.length ≤ 17592186044416) :
    Calls Try.prog 25 #[.slice ao l.length cap] w fun e w' => e = .returned (.bool (rightB l)) ∧ Ext w w' := by
  go_enter Try.func25, Try.ntmps25
  go_wp2
  go_loopw [3, 8] (fun v i wr => ∃ (k : Nat) (left : Int), k ≤ l.length ∧ i = .int .i64 k ∧ v = .int .i64 left ∧ 0 ≤ left ∧ left ≤ 2000 ∧ Hid (rightB l = rightFrom (prevAt l k) left (l.drop k)) ∧ Ext w wr)
    (fun _ i _ => l.length - (intOf i).toNat)
  case atStart => exact ⟨0, 2000, Nat.zero_le _, rfl, rfl, by decide, by decide, Lib.hid rfl, Ext.rf w⟩
  case round =>
    obtain ⟨k, left, hk, rfl, rfl, hl0, hl1, hr, hext⟩ := hrel
    by_cases hlt : k < l.length
    · obtain ⟨b, off, rfl, c1, c2⟩ := (hc.ext hext).pair (k := k) hlt
      have HR := Lib.hid (rightFrom_at hlt (prevAt l k) left)
      have HP := Lib.hid (prevAt_succ l k hlt)
      have i1 : (0 : Int) ≤ k := by omega
      have i2 : (k : Int) < l.length := by omega
      by_cases h1 : l[k].1 < 1
      · have t1 : decide (l[k].1 < 1) = true := by simpa using h1
        go_wp2
        go_quiet (fail)
        go_wp2
        go_ret
        exact ⟨by rw [hr.out, HR.out, if_pos (Or.inl h1)] <;> rfl, (hext.al _).drN _⟩
      · have t1 : decide (l[k].1 < 1) = false := by simpa using h1
        have h1' : 1 ≤ l[k].1 := by omega
        clear h1
        by_cases h2 : left < l[k].1
        · have t2 : decide (left < l[k].1) = true := by simpa using h2
          go_wp2
          go_quiet (fail)
          go_wp2
          go_ret
          exact ⟨by rw [hr.out, HR.out, if_pos (Or.inr (Or.inl h2))] <;> rfl, (hext.al _).drN _⟩
        · have t2 : decide (left < l[k].1) = false := by simpa using h2
          have h2' : l[k].1 ≤ left := by omega
          clear h2
          by_cases h3 : k = 0
          · have t3 : decide ((0 : Int) < k) = false := by simp; omega
            have t3n : decide (0 < k) = false := by simp; omega
            have HN : Hid (rightB l = rightFrom (prevAt l (k + 1)) (left - l[k].1) (l.drop (k + 1))) := by
              rw [Hid, hr.out, HR.out, if_neg (by simp [prevAt, h3]; subst h3; omega), HP.out]
            clear h3
            go_wp2
            go_quiet (fail)
            go_wp2
            go_roundw
            case rel => exact ⟨k + 1, _, by omega, by go_num, rfl, by omega, by omega, HN, (hext.al _).drN _⟩
            case measure => simp [intOf]; omega
          · obtain ⟨b', off', e', c3, c4⟩ := (hc.ext hext).pair (k := k - 1) (by omega)
            simp only [Option.some.injEq, Addr.mk.injEq, and_true] at e'
            obtain ⟨rfl, rfl⟩ := e'
            have t3 : decide ((0 : Int) < k) = true := by simp; omega
            have c5 := fun o => ((Ext.rf wr).al o).has c4
            have i3 : (0 : Int) ≤ k - 1 := by omega
            have i4 : (k : Int) - 1 < l.length := by omega
            have i5 : 0 < k := by omega
            have hpq : Hid (prevAt l k = some l[k - 1].2) := by
              have := prevAt_succ l (k - 1) (by omega)
              rwa [Nat.sub_add_cancel i5] at this
            clear h3
            by_cases h4 : l[k].2 = l[k - 1].2
            · have t4 : (l[k].2 == l[k - 1].2) = true := by simpa using h4
              have HN : Hid (rightB l = false) := by
                rw [Hid, hr.out, HR.out, if_pos (Or.inr (Or.inr (by rw [hpq.out, h4])))]
              clear h4
              go_wp2
              go_quiet (fail)
              go_wp2
              go_ret
              exact ⟨by rw [HN.out] <;> rfl, (hext.al _).drN _⟩
            · have t4 : (l[k].2 == l[k - 1].2) = false := by simpa using h4
              have HN : Hid (rightB l = rightFrom (prevAt l (k + 1)) (left - l[k].1) (l.drop (k + 1))) := by
                rw [Hid, hr.out, HR.out, if_neg (by rw [hpq.out]; simp only [Option.some.injEq]; omega), HP.out]
              clear h4
              go_wp2
              go_quiet (fail)
              go_wp2
              go_roundw
              case rel => exact ⟨k + 1, _, by omega, by go_num, rfl, by omega, by omega, HN, (hext.al _).drN _⟩
              case measure => simp [intOf]; omega
    · have HN : Hid (rightB l = true) := by
        rw [Hid, hr.out, List.drop_eq_nil_of_le (by omega)]; rfl
      go_wp2
      go_ret
      exact ⟨by rw [HN.out] <;> rfl, hext⟩
set_option maxHeartbeats 2000000 in
set_option maxRecDepth 20000 in
theorem runsref_Right (ao : Option Addr) (cap : Nat) (l : List (Int × Int)) (w : World) (hc : Cells w ao (l.flatMap pairC)) (hl : l.length ≤ 17592186044416) :
    Calls Try.prog 26 #[.slice ao l.length cap] w fun e w' => e = .returned (.bool (rightB l)) ∧ Ext w w' := by
  go_enter Try.func26, Try.ntmps26
  go_wp2
  go_loopw [3, 4] (fun v i wr => ∃ (k : Nat) (left : Int), k ≤ l.length ∧ i = .int .i64 k ∧ v = .int .i64 left ∧ 0 ≤ left ∧ left ≤ 2000 ∧ Hid (rightB l = rightFrom (prevAt l k) left (l.drop k)) ∧ Ext w wr)
    (fun _ i _ => l.length - (intOf i).toNat)
  case atStart => exact ⟨0, 2000, Nat.zero_le _, rfl, rfl, by decide, by decide, Lib.hid rfl, Ext.rf w⟩
  case round =>
    obtain ⟨k, left, hk, rfl, rfl, hl0, hl1, hr, hext⟩ := hrel
    by_cases hlt : k < l.length
    · obtain ⟨b, off, rfl, c1, c2⟩ := (hc.ext hext).pair (k := k) hlt
      have HR := Lib.hid (rightFrom_at hlt (prevAt l k) left)
      have HP := Lib.hid (prevAt_succ l k hlt)
      have i1 : (0 : Int) ≤ k := by omega
      have i2 : (k : Int) < l.length := by omega
      by_cases h1 : l[k].1 < 1
      · have t1 : decide (l[k].1 < 1) = true := by simpa using h1
        go_wp2
        go_quiet (fail)
        go_wp2
        go_ret
        exact ⟨by rw [hr.out, HR.out, if_pos (Or.inl h1)] <;> rfl, hext.drN _⟩
      · have t1 : decide (l[k].1 < 1) = false := by simpa using h1
        have h1' : 1 ≤ l[k].1 := by omega
        clear h1
        by_cases h2 : left < l[k].1
        · have t2 : decide (left < l[k].1) = true := by simpa using h2
          go_wp2
          go_quiet (fail)
          go_wp2
          go_ret
          exact ⟨by rw [hr.out, HR.out, if_pos (Or.inr (Or.inl h2))] <;> rfl, hext.drN _⟩
        · have t2 : decide (left < l[k].1) = false := by simpa using h2
          have h2' : l[k].1 ≤ left := by omega
          clear h2
          by_cases h3 : k = 0
          · have t3 : decide ((0 : Int) < k) = false := by simp; omega
            have t3n : decide (0 < k) = false := by simp; omega
            have HN : Hid (rightB l = rightFrom (prevAt l (k + 1)) (left - l[k].1) (l.drop (k + 1))) := by
              rw [Hid, hr.out, HR.out, if_neg (by simp [prevAt, h3]; subst h3; omega), HP.out]
            clear h3
            go_wp2
            go_quiet (fail)
            go_wp2
            go_roundw
            case rel => exact ⟨k + 1, _, by omega, by go_num, rfl, by omega, by omega, HN, hext.drN _⟩
            case measure => simp [intOf]; omega
          · obtain ⟨b', off', e', c3, c4⟩ := (hc.ext hext).pair (k := k - 1) (by omega)
            simp only [Option.some.injEq, Addr.mk.injEq, and_true] at e'
            obtain ⟨rfl, rfl⟩ := e'
            have t3 : decide ((0 : Int) < k) = true := by simp; omega
            have i3 : (0 : Int) ≤ k - 1 := by omega
            have i4 : (k : Int) - 1 < l.length := by omega
            have i5 : 0 < k := by omega
            have hpq : Hid (prevAt l k = some l[k - 1].2) := by
              have := prevAt_succ l (k - 1) (by omega)
              rwa [Nat.sub_add_cancel i5] at this
            clear h3
            by_cases h4 : l[k].2 = l[k - 1].2
            · have t4 : (l[k].2 == l[k - 1].2) = true := by simpa using h4
              have HN : Hid (rightB l = false) := by
                rw [Hid, hr.out, HR.out, if_pos (Or.inr (Or.inr (by rw [hpq.out, h4])))]
              clear h4
              go_wp2
              go_quiet (fail)
              go_wp2
              go_ret
              exact ⟨by rw [HN.out] <;> rfl, hext.drN _⟩
            · have t4 : (l[k].2 == l[k - 1].2) = false := by simpa using h4
              have HN : Hid (rightB l = rightFrom (prevAt l (k + 1)) (left - l[k].1) (l.drop (k + 1))) := by
                rw [Hid, hr.out, HR.out, if_neg (by rw [hpq.out]; simp only [Option.some.injEq]; omega), HP.out]
              clear h4
              go_wp2
              go_quiet (fail)
              go_wp2
              go_roundw
              case rel => exact ⟨k + 1, _, by omega, by go_num, rfl, by omega, by omega, HN, hext.drN _⟩
              case measure => simp [intOf]; omega
    · have HN : Hid (rightB l = true) := by
        rw [Hid, hr.out, List.drop_eq_nil_of_le (by omega)]; rfl
      go_wp2
      go_ret
      exact ⟨by rw [HN.out] <;> rfl, hext⟩
end Go.Proofs.Ytfeddkfpkdjbeaa
