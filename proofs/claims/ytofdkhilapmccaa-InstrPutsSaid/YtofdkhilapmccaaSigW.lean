/- The walks of package sig's small functions, and of its reference's. -/
import Derived.Test.YtofdkhilapmccaaBase
import Derived.Test.YtofdkhilapmccaaSigP
namespace Go.Proofs.Ytofdkhilapmccaa
open Go.RowKit

theorem sig_letter (a : Int) (w : World) :
    Calls Try.prog 175 #[.int .i64 a] w fun e w' => e = .returned (.int .i32 (letterI a)) ∧ w = w' := by
  go_enter Try.func175, Try.ntmps175
  go_wp2
  all_goals go_ret
  all_goals (refine ⟨?_, rfl⟩; simp_all [letterI])

set_option maxHeartbeats 400000 in
theorem sig_Text (ao : Option Addr) (cap : Nat) (l : List Int) (w : World) (hc : Cells w ao (l.map (.int .i64))) (hl : l.length ≤ 17592186044416) :
    Calls Try.prog 135 #[.slice ao l.length cap] w fun e w' => e = .returned (.string (textS l)) ∧ Ext w w' := by
  by_cases h0 : l = []
  · subst h0
    go_enter Try.func135, Try.ntmps135
    go_wp2
    go_ret
    exact ⟨rfl, Ext.rf _⟩
  · have hpos : 0 < l.length := by cases l with | nil => exact absurd rfl h0 | cons => simp
    have hz : ((l.length : Int) == 0) = false := by simp; omega
    go_enter Try.func135, Try.ntmps135
    go_wp2
    go_loopw [3, 11] (fun v i wr => ∃ k : Nat, k ≤ l.length ∧ i = .int .i64 k ∧ wr.ownsRow w.heap.size 21 1 v k ((l.map fun x => .int .i32 (letterI x)).take k) ∧ Ext w wr)
      (fun _ i _ => l.length - (intOf i).toNat)
    case atStart => exact ⟨0, Nat.zero_le _, rfl, World.ownsRow_nil _ _ _ _, Ext.rf _⟩
    case round =>
      obtain ⟨k, hk, rfl, hown, hext⟩ := hrel
      by_cases hlt : k < l.length
      · obtain ⟨b, off, rfl, hcell⟩ := (hc.ext hext).at (k := k) (by simpa using hlt)
        simp only [List.getElem_map] at hcell
        go_wp2_with (first
          | (go_at_call 175; refine (sig_letter _ _).mono ?_; rintro e w1 ⟨rfl, rfl⟩)
          | (at_builtin; refine wpList_push rfl (.tmp 15) (.tmp 18) 194 rfl w.heap.size 21 21 (.int .i32 0) 1 4 Try.underlying194 (by kernel_rfl) rfl (by decide) _ k _ [.int .i32 (letterI l[k])] rfl hown _ rfl (by simp) rfl (by simp [Value.oneCell']) (by unfold maxLen; omega) (by omega) hext.size ?_))
        intro v' w1 hown1 hg
        have hext1 := hext.push hown (Nat.le_refl _) hg
        clear hg hcell hext hown
        go_wp2
        go_roundw
        case rel => exact ⟨k + 1, by omega, by go_num, by rw [List.take_add_one]; simpa [hlt] using hown1, hext1⟩
        case measure => simp [intOf]; omega
      · obtain rfl : k = l.length := by omega
        rw [List.take_of_length_le (by simp)] at hown
        obtain ⟨ao', cap', rfl, -, -, hc'⟩ := Cells.own hown
        have hconv := run_runes_string (P := Try.prog) (src := 194) (dst := 9) (e := 21) (cap := cap') (zs := l.map letterI) l.length (by simp) Try.underlying194 Try.underlying21 Try.underlying9 (by simpa [Function.comp_def] using hc')
        rw [runesBytes_letters] at hconv
        clear hown hc' hlt
        go_wp2
        go_ret
        exact ⟨by simp [textS, textB, h0], hext⟩
/-- What a call that hands back a new list leaves. -/
def RetList (k : IntKind) (xs : List Int) (err : Int) (w : World) (e : Ending) (w' : World) : Prop :=
  ∃ ao cap, e = .returned (.tuple #[.slice ao xs.length cap, .int .i64 err]) ∧ Cells w' ao (xs.map (.int k)) ∧ Ext w w'

set_option maxHeartbeats 1000000 in
set_option maxRecDepth 20000 in
theorem sigref_Same (ao bo : Option Addr) (ca cb : Nat) (l m : List Int) (w : World) (hl : Cells w ao (l.map (.int .i64))) (hm : Cells w bo (m.map (.int .i64))) (hlen : l.length ≤ 17592186044416) (hmen : m.length ≤ 17592186044416) :
    Calls Try.prog 74 #[.slice ao l.length ca, .slice bo m.length cb] w fun e w' => e = .returned (.bool (decide (l = m))) ∧ Ext w w' := by
  by_cases hlm : l.length = m.length
  · have HLM := Lib.hid hlm
    have t0 : ((l.length : Int) != (m.length : Int)) = false := by simp [hlm]
    clear hlm
    go_enter Try.func74, Try.ntmps74
    go_wp2
    go_loopw [5] (fun i wr => ∃ k : Nat, k ≤ l.length ∧ i = .int .i64 k ∧ Ext w wr ∧ Hid (∀ j, j < k → l[j]? = m[j]?))
      (fun i _ => l.length - (intOf i).toNat)
    case atStart => exact ⟨0, Nat.zero_le _, rfl, Ext.rf w, Lib.hid (by intro j hj; omega)⟩
    case round =>
      obtain ⟨k, hk, rfl, hext, hsame⟩ := hrel
      by_cases hlt : k < l.length
      · have hlt2 : k < m.length := by rw [← HLM.out]; exact hlt
        obtain ⟨b, off, rfl, hcell⟩ := (hl.ext hext).at (k := k) (by simpa using hlt)
        obtain ⟨b2, off2, rfl, hcell2⟩ := (hm.ext hext).at (k := k) (by simpa using hlt2)
        simp only [List.getElem_map] at hcell hcell2
        have i1 : (0 : Int) ≤ k := by omega
        have i2 : (k : Int) < l.length := by omega
        have i3 : (k : Int) < m.length := by omega
        go_wp2
        go_quiet (fail)
        go_wp2
        · have hne : (l[k] != m[k]) = true := by assumption
          go_ret
          refine ⟨?_, hext.drN _⟩
          have : l ≠ m := by rintro rfl; simp at hne
          simp [this]
        · have hne : (l[k] != m[k]) = false := by assumption
          go_roundw
          case rel => exact ⟨k + 1, by omega, by go_num, hext.drN _, Lib.hid (by
            intro j hj
            rcases Nat.lt_succ_iff_lt_or_eq.1 hj with h | rfl
            · exact hsame.out j h
            · simp only [bne_eq_false_iff_eq] at hne
              simp [hlt, hlt2, hne])⟩
          case measure => simp [intOf]; omega
      · have HR : Hid (l = m) := by
          refine List.ext_getElem? fun j => ?_
          by_cases h : j < k
          · exact hsame.out j h
          · rw [List.getElem?_eq_none (by omega), List.getElem?_eq_none (by have := HLM.out; omega)]
        clear hsame
        go_wp2
        go_ret
        exact ⟨by simp [HR.out], hext⟩
  · have t0 : ((l.length : Int) != (m.length : Int)) = true := by rw [bne_iff_ne]; omega
    have HR : Hid (l ≠ m) := fun e => hlm (by rw [e])
    clear hlm
    go_enter Try.func74, Try.ntmps74
    go_wp2
    go_ret
    exact ⟨by simp [HR.out], Ext.rf _⟩

end Go.Proofs.Ytofdkhilapmccaa
