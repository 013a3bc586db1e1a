/- Inline trees: whether a node stands under another one; how deep it stands; whose parent one is. -/
import Derived.Test.YtofdkhilapmccaaTreeU
import Derived.Test.YtofdkhilapmccaaLinesA
namespace Go.Proofs.Ytofdkhilapmccaa
open Go.RowKit

set_option maxHeartbeats 1000000 in
set_option maxRecDepth 20000 in
theorem int_Index (ao : Option Addr) (cap : Nat) (l : List Int) (x : Int) (w : World) (hc : Cells w ao (l.map (.int .i64))) (hl : l.length ≤ 17592186044416) :
    Calls Try.prog 144 #[.slice ao l.length cap, .int .i64 x] w fun e w' => SomeIdx (l.any (x == ·)) w e w' := by
  go_enter Try.func144, Try.ntmps144
  go_wp2
  go_loopw [8] (fun i wr => ∃ k : Nat, k ≤ l.length ∧ i = .int .i64 k ∧ Ext w wr ∧ Hid ((l.take k).any (x == ·) = false))
    (fun i _ => l.length - (intOf i).toNat)
  case atStart => exact ⟨0, Nat.zero_le _, rfl, Ext.rf w, Lib.hid (by simp)⟩
  case round =>
    obtain ⟨k, hk, rfl, hext, hno⟩ := hrel
    by_cases hlt : k < l.length
    · obtain ⟨b, off, rfl, c1⟩ := (hc.ext hext).at (k := k) (by simpa using hlt)
      simp only [List.getElem_map] at c1
      have HS : Hid ((l.take (k + 1)).any (x == ·) = ((l.take k).any (x == ·) || (x == l[k]))) := by rw [Hid, List.take_succ_eq_append_getElem hlt, List.any_append]; simp only [List.any_cons, List.any_nil, Bool.or_false]
      have HM : Hid ((x == l[k]) = true → l.any (x == ·) = true) := fun h => List.any_eq_true.2 ⟨_, List.getElem_mem hlt, h⟩
      have i1 : (0 : Int) ≤ k := by omega
      have i2 : (k : Int) < l.length := by omega
      generalize l[k] = y at *
      cases hp : x == y with
      | true =>
        have hT := Lib.hid (HM.out hp)
        go_wp2_with fail
        go_ret
        exact ⟨k, rfl, by rw [hT.out]; simp, hext⟩
      | false =>
        have hF : Hid ((l.take (k + 1)).any (x == ·) = false) := by rw [Hid, HS.out, hno.out, hp]; rfl
        go_wp2_with fail
        go_roundw
        case rel => exact ⟨k + 1, by omega, by go_num, hext, hF⟩
        case measure => simp [intOf]; omega
    · obtain rfl : k = l.length := by omega
      rw [List.take_of_length_le (Nat.le_refl _)] at hno
      go_wp2
      go_ret
      exact ⟨-1, rfl, by rw [hno.out]; simp, hext⟩

set_option maxRecDepth 20000 in
theorem int_Contains (ao : Option Addr) (cap : Nat) (l : List Int) (x : Int) (w : World) (hc : Cells w ao (l.map (.int .i64))) (hl : l.length ≤ 17592186044416) :
    Calls Try.prog 89 #[.slice ao l.length cap, .int .i64 x] w fun e w' => e = .returned (.bool (l.any (x == ·))) ∧ Ext w w' := by
  go_enter Try.func89, Try.ntmps89
  go_wp2_with fail
  refine (int_Index ao cap l x w hc hl).mono ?_
  rintro e w1 ⟨r, rfl, hr, hx⟩
  have HR : Hid (decide (0 ≤ r) = l.any (x == ·)) := hr.symm
  clear hr
  go_wp2_with fail
  go_ret
  exact ⟨by rw [← HR.out] <;> rfl, hx⟩

def depthN (l : List NodeT) (n : Int) : Nat := (upF l l.length n).length
def insideB (l : List NodeT) (n under : Int) : Bool := (upF l l.length n).any (under == ·)

set_option maxRecDepth 20000 in
theorem tree_Inside (ao : Option Addr) (cap : Nat) (l : List NodeT) (n m : Int) (w : World) (hc : Cells w ao (l.flatMap nodeC)) (hl : l.length ≤ 17592186044416) :
    Calls Try.prog 28 #[.slice ao l.length cap, .int .i64 n, .int .i64 m] w fun e w' => e = .returned (.bool (insideB l n m)) ∧ Ext w w' := by
  have hle := upF_len l l.length n
  have HI : Hid (insideB l n m = (upF l l.length n).any (m == ·)) := rfl
  go_enter Try.func28, Try.ntmps28
  go_wp2_with fail
  refine (tree_Up ao cap l n w hc hl).mono ?_
  rintro e w1 ⟨a, c, rfl, hc1, hx1, -⟩
  generalize upF l l.length n = U at *
  go_wp2_with fail
  refine (int_Contains a c U m _ hc1 (by omega)).mono ?_
  rintro e w2 ⟨rfl, hx2⟩
  go_wp2_with fail
  go_ret
  exact ⟨by rw [HI.out] <;> rfl, hx1.tr hx2⟩

set_option maxRecDepth 20000 in
theorem tree_Depth (ao : Option Addr) (cap : Nat) (l : List NodeT) (n : Int) (w : World) (hc : Cells w ao (l.flatMap nodeC)) (hl : l.length ≤ 17592186044416) :
    Calls Try.prog 43 #[.slice ao l.length cap, .int .i64 n] w fun e w' => e = .returned (.int .i64 (depthN l n)) ∧ Ext w w' := by
  have hle := upF_len l l.length n
  have HD : Hid (depthN l n = (upF l l.length n).length) := rfl
  go_enter Try.func43, Try.ntmps43
  go_wp2_with fail
  refine (tree_Up ao cap l n w hc hl).mono ?_
  rintro e w1 ⟨a, c, rfl, hc1, hx1, -⟩
  generalize upF l l.length n = U at *
  go_wp2_with fail
  go_ret
  exact ⟨by rw [HD.out] <;> rfl, hx1⟩

set_option maxHeartbeats 1000000 in
set_option maxRecDepth 20000 in
theorem treeref_Inside (ao : Option Addr) (cap : Nat) (l : List NodeT) (n m : Int) (w : World) (hc : Cells w ao (l.flatMap nodeC)) (hl : l.length < 17592186044416) (hr : rightTree l = true) :
    Calls Try.prog 42 #[.slice ao l.length cap, .int .i64 n, .int .i64 m] w fun e w' => e = .returned (.bool (insideB l n m)) ∧ Ext w w' := by
  have hle := upF_len l l.length n
  have HI : Hid (insideB l n m = (upF l l.length n).any (m == ·)) := rfl
  have HU := Lib.hid (upF_len1 hr n)
  clear hr
  go_enter Try.func42, Try.ntmps42
  go_wp2_with fail
  refine (treeref_Up ao cap l n w hc hl).mono ?_
  rw [HU.out]
  rintro e w1 ⟨a, c, rfl, hc1, hx1, -⟩
  generalize upF l l.length n = U at *
  go_wp2_with fail
  go_loopw [8] (fun i wr => ∃ k : Nat, k ≤ U.length ∧ i = .int .i64 k ∧ Ext w1 wr ∧ Hid ((U.take k).any (m == ·) = false))
    (fun i _ => U.length - (intOf i).toNat)
  case atStart => exact ⟨0, Nat.zero_le _, rfl, Ext.rf _, Lib.hid (by simp)⟩
  case round =>
    obtain ⟨k, hk, rfl, hext, hno⟩ := hrel
    by_cases hlt : k < U.length
    · obtain ⟨b, off, rfl, c1⟩ := (hc1.ext hext).at (k := k) (by simpa using hlt)
      simp only [List.getElem_map] at c1
      have HS : Hid ((U.take (k + 1)).any (m == ·) = ((U.take k).any (m == ·) || (m == U[k]))) := by rw [Hid, List.take_succ_eq_append_getElem hlt, List.any_append]; simp only [List.any_cons, List.any_nil, Bool.or_false]
      have HM : Hid ((m == U[k]) = true → U.any (m == ·) = true) := fun h => List.any_eq_true.2 ⟨_, List.getElem_mem hlt, h⟩
      have i1 : (0 : Int) ≤ k := by omega
      have i2 : (k : Int) < U.length := by omega
      generalize U[k] = y at *
      cases hp : y == m with
      | true =>
        have hT := Lib.hid (HM.out (by rw [Bool.beq_comm]; exact hp))
        go_wp2_with fail
        go_ret
        exact ⟨by rw [HI.out, hT.out] <;> rfl, hx1.tr hext⟩
      | false =>
        have hF : Hid ((U.take (k + 1)).any (m == ·) = false) := by rw [Hid, HS.out, hno.out, Bool.beq_comm, hp]; rfl
        go_wp2_with fail
        go_roundw
        case rel => exact ⟨k + 1, by omega, by go_num, hext, hF⟩
        case measure => simp [intOf]; omega
    · obtain rfl : k = U.length := by omega
      rw [List.take_of_length_le (Nat.le_refl _)] at hno
      go_wp2_with fail
      go_ret
      exact ⟨by rw [HI.out, hno.out] <;> rfl, hx1.tr hext⟩
end Go.Proofs.Ytofdkhilapmccaa
