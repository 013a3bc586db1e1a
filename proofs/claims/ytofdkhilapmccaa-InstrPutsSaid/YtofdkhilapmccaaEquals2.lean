/- Whether two slices of ints are the same: slices.Equal and the references' loops. -/
import Derived.Test.YtofdkhilapmccaaData
namespace Go.Proofs.Ytofdkhilapmccaa
open Go.RowKit


set_option maxHeartbeats 1000000 in
set_option maxRecDepth 20000 in
theorem int_Equal (ao bo : Option Addr) (ca cb : Nat) (l m : List Int) (w : World) (hl : Cells w ao (l.map (.int .i64))) (hm : Cells w bo (m.map (.int .i64))) (hlen : l.length ≤ 17592186044416) (hmen : m.length ≤ 17592186044416) :
    Calls Try.prog 71 #[.slice ao l.length ca, .slice bo m.length cb] w fun e w' => e = .returned (.bool (decide (l = m))) ∧ Ext w w' := by
  by_cases hlm : l.length = m.length
  · have HLM := Lib.hid hlm
    have t0 : ((l.length : Int) != (m.length : Int)) = false := by simp [hlm]
    clear hlm
    go_enter Try.func71, Try.ntmps71
    go_wp2
    go_loopw [13] (fun i wr => ∃ k : Nat, k ≤ l.length ∧ i = .int .i64 k ∧ Ext w wr ∧ Hid (∀ j < k, l[j]? = m[j]?))
      (fun i _ => l.length - (intOf i).toNat)
    case atStart => exact ⟨0, Nat.zero_le _, rfl, Ext.rf w, Lib.hid (by intro j hj; omega)⟩
    case round =>
      obtain ⟨k, hk, rfl, hext, hsame⟩ := hrel
      by_cases hlt : k < l.length
      · have hlt2 : k < m.length := by rw [← HLM.out]; exact hlt
        obtain ⟨b, off, rfl, c1⟩ := (hl.ext hext).at (k := k) (by simpa using hlt)
        obtain ⟨b', off', rfl, c2⟩ := (hm.ext hext).at (k := k) (by simpa using hlt2)
        simp only [List.getElem_map] at c1 c2
        have i1 : (0 : Int) ≤ k := by omega
        have i2 : (k : Int) < l.length := by omega
        have i3 : (k : Int) < m.length := by omega
        go_wp2
        go_quiet (fail)
        go_wp2
        · have hne : (l[k] != m[k]) = true := by assumption
          go_ret
          refine ⟨?_, hext.drN _⟩
          have : l ≠ m := by rintro rfl; simp at hne
          simp [this]
        · have hne : (l[k] != m[k]) = false := by assumption
          go_roundw
          case rel => exact ⟨k + 1, by omega, by go_num, hext.drN _, Lib.hid (by
            intro j hj
            rcases Nat.lt_succ_iff_lt_or_eq.1 hj with h | rfl
            · exact hsame.out j h
            · simp only [bne_eq_false_iff_eq] at hne
              simp [hlt, hlt2, hne])⟩
          case measure => simp [intOf]; omega
      · have HR : Hid (l = m) := by
          refine List.ext_getElem? fun j => ?_
          by_cases h : j < k
          · exact hsame.out j h
          · rw [List.getElem?_eq_none (by omega), List.getElem?_eq_none (by have := HLM.out; omega)]
        clear hsame
        go_wp2
        go_ret
        exact ⟨by simp [HR.out], hext⟩
  · have t0 : ((l.length : Int) != (m.length : Int)) = true := by rw [bne_iff_ne]; omega
    have HR : Hid (l ≠ m) := fun e => hlm (by rw [e])
    clear hlm
    go_enter Try.func71, Try.ntmps71
    go_wp2
    go_ret
    exact ⟨by simp [HR.out], Ext.rf _⟩


set_option maxHeartbeats 1000000 in
set_option maxRecDepth 20000 in
theorem intref_Ints (ao bo : Option Addr) (ca cb : Nat) (l m : List Int) (w : World) (hl : Cells w ao (l.map (.int .i64))) (hm : Cells w bo (m.map (.int .i64))) (hlen : l.length ≤ 17592186044416) (hmen : m.length ≤ 17592186044416) :
    Calls Try.prog 37 #[.slice ao l.length ca, .slice bo m.length cb] w fun e w' => e = .returned (.bool (decide (l = m))) ∧ Ext w w' := by
  by_cases hlm : l.length = m.length
  · have HLM := Lib.hid hlm
    have t0 : ((l.length : Int) != (m.length : Int)) = false := by simp [hlm]
    clear hlm
    go_enter Try.func37, Try.ntmps37
    go_wp2
    go_loopw [5] (fun i wr => ∃ k : Nat, k ≤ l.length ∧ i = .int .i64 k ∧ Ext w wr ∧ Hid (∀ j < k, l[j]? = m[j]?))
      (fun i _ => l.length - (intOf i).toNat)
    case atStart => exact ⟨0, Nat.zero_le _, rfl, Ext.rf w, Lib.hid (by intro j hj; omega)⟩
    case round =>
      obtain ⟨k, hk, rfl, hext, hsame⟩ := hrel
      by_cases hlt : k < l.length
      · have hlt2 : k < m.length := by rw [← HLM.out]; exact hlt
        obtain ⟨b, off, rfl, c1⟩ := (hl.ext hext).at (k := k) (by simpa using hlt)
        obtain ⟨b', off', rfl, c2⟩ := (hm.ext hext).at (k := k) (by simpa using hlt2)
        simp only [List.getElem_map] at c1 c2
        have i1 : (0 : Int) ≤ k := by omega
        have i2 : (k : Int) < l.length := by omega
        have i3 : (k : Int) < m.length := by omega
        go_wp2
        go_quiet (fail)
        go_wp2
        · have hne : (l[k] != m[k]) = true := by assumption
          go_ret
          refine ⟨?_, hext.drN _⟩
          have : l ≠ m := by rintro rfl; simp at hne
          simp [this]
        · have hne : (l[k] != m[k]) = false := by assumption
          go_roundw
          case rel => exact ⟨k + 1, by omega, by go_num, hext.drN _, Lib.hid (by
            intro j hj
            rcases Nat.lt_succ_iff_lt_or_eq.1 hj with h | rfl
            · exact hsame.out j h
            · simp only [bne_eq_false_iff_eq] at hne
              simp [hlt, hlt2, hne])⟩
          case measure => simp [intOf]; omega
      · have HR : Hid (l = m) := by
          refine List.ext_getElem? fun j => ?_
          by_cases h : j < k
          · exact hsame.out j h
          · rw [List.getElem?_eq_none (by omega), List.getElem?_eq_none (by have := HLM.out; omega)]
        clear hsame
        go_wp2
        go_ret
        exact ⟨by simp [HR.out], hext⟩
  · have t0 : ((l.length : Int) != (m.length : Int)) = true := by rw [bne_iff_ne]; omega
    have HR : Hid (l ≠ m) := fun e => hlm (by rw [e])
    clear hlm
    go_enter Try.func37, Try.ntmps37
    go_wp2
    go_ret
    exact ⟨by simp [HR.out], Ext.rf _⟩


set_option maxHeartbeats 1000000 in
set_option maxRecDepth 20000 in
theorem sigref_Same (ao bo : Option Addr) (ca cb : Nat) (l m : List Int) (w : World) (hl : Cells w ao (l.map (.int .i64))) (hm : Cells w bo (m.map (.int .i64))) (hlen : l.length ≤ 17592186044416) (hmen : m.length ≤ 17592186044416) :
    Calls Try.prog 74 #[.slice ao l.length ca, .slice bo m.length cb] w fun e w' => e = .returned (.bool (decide (l = m))) ∧ Ext w w' := by
  by_cases hlm : l.length = m.length
  · have HLM := Lib.hid hlm
    have t0 : ((l.length : Int) != (m.length : Int)) = false := by simp [hlm]
    clear hlm
    go_enter Try.func74, Try.ntmps74
    go_wp2
    go_loopw [5] (fun i wr => ∃ k : Nat, k ≤ l.length ∧ i = .int .i64 k ∧ Ext w wr ∧ Hid (∀ j < k, l[j]? = m[j]?))
      (fun i _ => l.length - (intOf i).toNat)
    case atStart => exact ⟨0, Nat.zero_le _, rfl, Ext.rf w, Lib.hid (by intro j hj; omega)⟩
    case round =>
      obtain ⟨k, hk, rfl, hext, hsame⟩ := hrel
      by_cases hlt : k < l.length
      · have hlt2 : k < m.length := by rw [← HLM.out]; exact hlt
        obtain ⟨b, off, rfl, c1⟩ := (hl.ext hext).at (k := k) (by simpa using hlt)
        obtain ⟨b', off', rfl, c2⟩ := (hm.ext hext).at (k := k) (by simpa using hlt2)
        simp only [List.getElem_map] at c1 c2
        have i1 : (0 : Int) ≤ k := by omega
        have i2 : (k : Int) < l.length := by omega
        have i3 : (k : Int) < m.length := by omega
        go_wp2
        go_quiet (fail)
        go_wp2
        · have hne : (l[k] != m[k]) = true := by assumption
          go_ret
          refine ⟨?_, hext.drN _⟩
          have : l ≠ m := by rintro rfl; simp at hne
          simp [this]
        · have hne : (l[k] != m[k]) = false := by assumption
          go_roundw
          case rel => exact ⟨k + 1, by omega, by go_num, hext.drN _, Lib.hid (by
            intro j hj
            rcases Nat.lt_succ_iff_lt_or_eq.1 hj with h | rfl
            · exact hsame.out j h
            · simp only [bne_eq_false_iff_eq] at hne
              simp [hlt, hlt2, hne])⟩
          case measure => simp [intOf]; omega
      · have HR : Hid (l = m) := by
          refine List.ext_getElem? fun j => ?_
          by_cases h : j < k
          · exact hsame.out j h
          · rw [List.getElem?_eq_none (by omega), List.getElem?_eq_none (by have := HLM.out; omega)]
        clear hsame
        go_wp2
        go_ret
        exact ⟨by simp [HR.out], hext⟩
  · have t0 : ((l.length : Int) != (m.length : Int)) = true := by rw [bne_iff_ne]; omega
    have HR : Hid (l ≠ m) := fun e => hlm (by rw [e])
    clear hlm
    go_enter Try.func74, Try.ntmps74
    go_wp2
    go_ret
    exact ⟨by simp [HR.out], Ext.rf _⟩

end Go.Proofs.Ytofdkhilapmccaa
