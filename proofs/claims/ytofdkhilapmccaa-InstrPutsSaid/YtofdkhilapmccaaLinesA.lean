/- Tables of lines: the walks of lines.Right, lines.At, and of their references. -/
import Derived.Test.YtofdkhilapmccaaBase
namespace Go.Proofs.Ytofdkhilapmccaa
open Go.RowKit

/-- An index, or none: it is none just where nothing fits. -/
def SomeIdx (b : Bool) (w : World) (e : Ending) (w' : World) : Prop := ∃ r : Int, e = .returned (.int .i64 r) ∧ (b = decide (0 ≤ r)) ∧ Ext w w'

def badLine (n : Int) : Bool := decide (n < 0) || decide (65535 < n)

theorem lines_bad (n : Int) (w : World) (h1 : -9223372036854775808 ≤ n) (h2 : n ≤ 9223372036854775807) :
    Calls Try.prog 157 #[.int .i64 n] w fun e w' => e = .returned (.bool (badLine n)) ∧ w = w' := by
  by_cases h : n < 0
  · have t1 : decide (n < 0) = true := decide_eq_true h
    go_enter Try.func157, Try.ntmps157
    go_wp2
    go_ret
    exact ⟨by simp [badLine, h] <;> omega, rfl⟩
  · have t1 : decide (n < 0) = false := decide_eq_false h
    go_enter Try.func157, Try.ntmps157
    go_wp2
    go_ret
    exact ⟨by simp [badLine, h] <;> omega, rfl⟩


set_option maxHeartbeats 1000000 in
set_option maxRecDepth 20000 in
theorem lines_Index (ao : Option Addr) (cap : Nat) (l : List Int) (w : World) (hc : Cells w ao (l.map (.int .i64))) (hl : l.length ≤ 17592186044416) (hb : ∀ n ∈ l, -9223372036854775808 ≤ n ∧ n ≤ 9223372036854775807) :
    Calls Try.prog 187 #[.slice ao l.length cap, .func (.func 157) #[] #[]] w fun e w' => SomeIdx (l.any badLine) w e w' := by
  have HB := Lib.hid hb
  clear hb
  go_enter Try.func187, Try.ntmps187
  go_wp2
  go_loopw [8] (fun i wr => ∃ k : Nat, k ≤ l.length ∧ i = .int .i64 k ∧ Ext w wr ∧ Hid ((l.take k).any badLine = false))
    (fun i _ => l.length - (intOf i).toNat)
  case atStart => exact ⟨0, Nat.zero_le _, rfl, Ext.rf w, Lib.hid (by simp)⟩
  case round =>
    obtain ⟨k, hk, rfl, hext, hno⟩ := hrel
    by_cases hlt : k < l.length
    · obtain ⟨b, off, rfl, c1⟩ := (hc.ext hext).at (k := k) (by simpa using hlt)
      simp only [List.getElem_map] at c1
      have hbk := HB.out l[k] (List.getElem_mem _)
      obtain ⟨hb1, hb2⟩ := hbk
      have HS : Hid ((l.take (k + 1)).any badLine = ((l.take k).any badLine || badLine l[k])) := by rw [Hid, List.take_succ_eq_append_getElem hlt, List.any_append]; simp only [List.any_cons, List.any_nil, Bool.or_false]
      have HM : Hid (badLine l[k] = true → l.any badLine = true) := fun h => List.any_eq_true.2 ⟨_, List.getElem_mem hlt, h⟩
      go_wp2_with fail
      refine (lines_bad l[k] _ hb1 hb2).mono ?_
      rintro e w1 ⟨rfl, rfl⟩
      cases hp : badLine l[k] with
      | true =>
        have hT := Lib.hid (HM.out hp)
        clear hp
        go_wp2_with fail
        go_ret
        exact ⟨k, rfl, by rw [hT.out]; simp, hext⟩
      | false =>
        have hF : Hid ((l.take (k + 1)).any badLine = false) := by rw [Hid, HS.out, hno.out, hp]; rfl
        clear hp
        go_wp2_with fail
        go_roundw
        case rel => exact ⟨k + 1, by omega, by go_num, hext, hF⟩
        case measure => simp [intOf]; omega
    · obtain rfl : k = l.length := by omega
      rw [List.take_of_length_le (Nat.le_refl _)] at hno
      go_wp2
      go_ret
      exact ⟨-1, rfl, by rw [hno.out]; simp, hext⟩

set_option maxRecDepth 20000 in
theorem lines_Contains (ao : Option Addr) (cap : Nat) (l : List Int) (w : World) (hc : Cells w ao (l.map (.int .i64))) (hl : l.length ≤ 17592186044416) (hb : ∀ n ∈ l, -9223372036854775808 ≤ n ∧ n ≤ 9223372036854775807) :
    Calls Try.prog 158 #[.slice ao l.length cap, .func (.func 157) #[] #[]] w fun e w' => e = .returned (.bool (l.any badLine)) ∧ Ext w w' := by
  go_enter Try.func158, Try.ntmps158
  go_wp2_with fail
  refine (lines_Index ao cap l w hc hl hb).mono ?_
  rintro e w1 ⟨r, rfl, hr, hx⟩
  have HR : Hid (decide (0 ≤ r) = l.any badLine) := hr.symm
  clear hr
  go_wp2_with fail
  go_ret
  exact ⟨by rw [← HR.out] <;> rfl, hx⟩


def rightLines (l : List Int) : Bool := decide (l.length ≤ 2000) && !(l.any badLine)

set_option maxRecDepth 20000 in
theorem lines_Right (ao : Option Addr) (cap : Nat) (l : List Int) (w : World) (hc : Cells w ao (l.map (.int .i64))) (hl : l.length ≤ 17592186044416) (hb : ∀ n ∈ l, -9223372036854775808 ≤ n ∧ n ≤ 9223372036854775807) :
    Calls Try.prog 105 #[.slice ao l.length cap] w fun e w' => e = .returned (.bool (rightLines l)) ∧ Ext w w' := by
  by_cases h : l.length ≤ 2000
  · have t1 : decide (l.length ≤ 2000) = true := decide_eq_true h
    have t2 : decide ((l.length : Int) ≤ 2000) = true := decide_eq_true (by omega)
    have HB := Lib.hid hb
    clear hb
    go_enter Try.func105, Try.ntmps105
    go_wp2_with fail
    refine (lines_Contains ao cap l w hc hl HB.out).mono ?_
    rintro e w1 ⟨rfl, hx⟩
    go_wp2_with fail
    go_ret
    exact ⟨by simp [rightLines, h], hx⟩
  · have t2 : decide ((l.length : Int) ≤ 2000) = false := decide_eq_false (by omega)
    clear hb
    go_enter Try.func105, Try.ntmps105
    go_wp2_with fail
    go_ret
    exact ⟨by simp [rightLines, h], Ext.rf _⟩

/-- The line of an instruction. -/
def atLine (l : List Int) (pc : Int) : Int := if 0 ≤ pc then (l[pc.toNat]?).getD 0 else 0

set_option maxHeartbeats 1000000 in
set_option maxRecDepth 20000 in
theorem linesref_Right (ao : Option Addr) (cap : Nat) (l : List Int) (w : World) (hc : Cells w ao (l.map (.int .i64))) (hl : l.length ≤ 17592186044416) :
    Calls Try.prog 109 #[.slice ao l.length cap] w fun e w' => e = .returned (.bool (rightLines l)) ∧ Ext w w' := by
  go_enter Try.func109, Try.ntmps109
  go_wp2
  go_loopw [3] (fun i wr => ∃ k : Nat, k ≤ l.length ∧ i = .int .i64 k ∧ Ext w wr ∧ Hid ((l.take k).any badLine = false))
    (fun i _ => l.length - (intOf i).toNat)
  case atStart => exact ⟨0, Nat.zero_le _, rfl, Ext.rf w, Lib.hid (by simp)⟩
  case round =>
    obtain ⟨k, hk, rfl, hext, hno⟩ := hrel
    by_cases hlt : k < l.length
    · obtain ⟨b, off, rfl, c1⟩ := (hc.ext hext).at (k := k) (by simpa using hlt)
      simp only [List.getElem_map] at c1
      have i1 : (0 : Int) ≤ k := by omega
      have i2 : (k : Int) < l.length := by omega
      have HS : Hid ((l.take (k + 1)).any badLine = ((l.take k).any badLine || badLine l[k])) := by rw [Hid, List.take_succ_eq_append_getElem hlt, List.any_append]; simp only [List.any_cons, List.any_nil, Bool.or_false]
      have HM : Hid (badLine l[k] = true → rightLines l = false) := fun h => by
        have : l.any badLine = true := List.any_eq_true.2 ⟨_, List.getElem_mem hlt, h⟩
        simp [rightLines, this]
      by_cases h1 : l[k] < 0
      · have t1 : decide (l[k] < 0) = true := decide_eq_true h1
        have HR := Lib.hid (HM.out (by simp [badLine, h1]))
        clear h1
        go_wp2
        go_ret
        exact ⟨by rw [HR.out] <;> rfl, hext⟩
      · have t1 : decide (l[k] < 0) = false := decide_eq_false h1
        by_cases h2 : 65535 < l[k]
        · have t2 : decide (65535 < l[k]) = true := decide_eq_true h2
          have HR := Lib.hid (HM.out (by simp [badLine, h2]))
          clear h1 h2
          go_wp2
          go_ret
          exact ⟨by rw [HR.out] <;> rfl, hext⟩
        · have t2 : decide (65535 < l[k]) = false := decide_eq_false h2
          have HF : Hid ((l.take (k + 1)).any badLine = false) := by rw [Hid, HS.out, hno.out, badLine, t1, t2]; rfl
          clear h1 h2
          go_wp2
          go_roundw
          case rel => exact ⟨k + 1, by omega, by go_num, hext, HF⟩
          case measure => simp [intOf]; omega
    · obtain rfl : k = l.length := by omega
      rw [List.take_of_length_le (Nat.le_refl _)] at hno
      go_wp2
      go_ret
      exact ⟨by simp [rightLines, hno.out] <;> omega, hext⟩


set_option maxRecDepth 20000 in
theorem lines_At (ao : Option Addr) (cap : Nat) (l : List Int) (pc : Int) (w : World) (hc : Cells w ao (l.map (.int .i64))) (hl : l.length ≤ 17592186044416) (h1 : -9223372036854775808 ≤ pc) (h2 : pc ≤ 9223372036854775807) :
    Calls Try.prog 138 #[.slice ao l.length cap, .int .i64 pc] w fun e w' => e = .returned (.int .i64 (atLine l pc)) ∧ Ext w w' := by
  by_cases h : pc < 0
  · have t1 : decide (pc < 0) = true := decide_eq_true h
    go_enter Try.func138, Try.ntmps138
    go_wp2
    go_ret
    exact ⟨by unfold atLine; rw [if_neg (by omega)] <;> rfl, Ext.rf _⟩
  · obtain ⟨k, rfl⟩ := Int.eq_ofNat_of_zero_le (show 0 ≤ pc by omega)
    have t1 : decide ((k : Int) < 0) = false := decide_eq_false h
    clear h h1
    by_cases h3 : k < l.length
    · obtain ⟨b, off, rfl, c1⟩ := hc.at (k := k) (by simpa using h3)
      simp only [List.getElem_map] at c1
      have t2 : decide (l.length ≤ k) = false := decide_eq_false (by omega)
      have t3 : decide ((l.length : Int) ≤ k) = false := decide_eq_false (by omega)
      have HA : Hid (atLine l k = l[k]) := by rw [Hid]; unfold atLine; rw [if_pos (by omega), Int.toNat_natCast]; simp [h3]
      go_enter Try.func138, Try.ntmps138
      go_wp2
      go_ret
      exact ⟨by rw [HA.out] <;> rfl, Ext.rf _⟩
    · have t2 : decide (l.length ≤ k) = true := decide_eq_true (by omega)
      have t3 : decide ((l.length : Int) ≤ k) = true := decide_eq_true (by omega)
      have HA : Hid (atLine l k = 0) := by rw [Hid]; unfold atLine; rw [if_pos (by omega), Int.toNat_natCast, List.getElem?_eq_none (by omega)]; rfl
      clear hc
      go_enter Try.func138, Try.ntmps138
      go_wp2
      go_ret
      exact ⟨by rw [HA.out] <;> rfl, Ext.rf _⟩


set_option maxRecDepth 20000 in
theorem linesref_At (ao : Option Addr) (cap : Nat) (l : List Int) (pc : Int) (w : World) (hc : Cells w ao (l.map (.int .i64))) (hl : l.length ≤ 17592186044416) (h1 : -9223372036854775808 ≤ pc) (h2 : pc ≤ 9223372036854775807) :
    Calls Try.prog 140 #[.slice ao l.length cap, .int .i64 pc] w fun e w' => e = .returned (.int .i64 (atLine l pc)) ∧ Ext w w' := by
  by_cases h : pc < 0
  · have t1 : decide (pc < 0) = true := decide_eq_true h
    go_enter Try.func140, Try.ntmps140
    go_wp2
    go_ret
    exact ⟨by unfold atLine; rw [if_neg (by omega)] <;> rfl, Ext.rf _⟩
  · obtain ⟨k, rfl⟩ := Int.eq_ofNat_of_zero_le (show 0 ≤ pc by omega)
    have t1 : decide ((k : Int) < 0) = false := decide_eq_false h
    clear h h1
    by_cases h3 : k < l.length
    · obtain ⟨b, off, rfl, c1⟩ := hc.at (k := k) (by simpa using h3)
      simp only [List.getElem_map] at c1
      have t2 : decide (l.length ≤ k) = false := decide_eq_false (by omega)
      have t3 : decide ((l.length : Int) ≤ k) = false := decide_eq_false (by omega)
      have HA : Hid (atLine l k = l[k]) := by rw [Hid]; unfold atLine; rw [if_pos (by omega), Int.toNat_natCast]; simp [h3]
      go_enter Try.func140, Try.ntmps140
      go_wp2
      go_ret
      exact ⟨by rw [HA.out] <;> rfl, Ext.rf _⟩
    · have t2 : decide (l.length ≤ k) = true := decide_eq_true (by omega)
      have t3 : decide ((l.length : Int) ≤ k) = true := decide_eq_true (by omega)
      have HA : Hid (atLine l k = 0) := by rw [Hid]; unfold atLine; rw [if_pos (by omega), Int.toNat_natCast, List.getElem?_eq_none (by omega)]; rfl
      clear hc
      go_enter Try.func140, Try.ntmps140
      go_wp2
      go_ret
      exact ⟨by rw [HA.out] <;> rfl, Ext.rf _⟩

end Go.Proofs.Ytofdkhilapmccaa
