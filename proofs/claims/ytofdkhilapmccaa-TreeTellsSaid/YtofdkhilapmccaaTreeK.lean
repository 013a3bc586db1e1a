/- The nodes whose parent one is. -/
import Derived.Test.YtofdkhilapmccaaTreeU
namespace Go.Proofs.Ytofdkhilapmccaa
open Go.RowKit

def kidB (l : List NodeT) (n : Int) (i : Nat) : Bool := decide (0 ≤ n) && (parOf l i == n)
def kidsL (l : List NodeT) (n : Int) (k : Nat) : List Int := ((List.range k).filter (kidB l n)).map fun (i : Nat) => (i : Int)
theorem kidsL_succ (l : List NodeT) (n : Int) (k : Nat) : kidsL l n (k + 1) = kidsL l n k ++ (if kidB l n k then [(k : Int)] else []) := by
  rw [kidsL, List.range_succ, List.filter_append, List.map_append, ← kidsL]
  cases h : kidB l n k <;> simp [h]
theorem kidsL_len (l : List NodeT) (n : Int) (k : Nat) : (kidsL l n k).length ≤ k := by
  rw [kidsL, List.length_map]
  have := List.length_filter_le (kidB l n) (List.range k)
  simpa using this


set_option maxHeartbeats 1000000 in
set_option maxRecDepth 20000 in
theorem tree_Kids (ao : Option Addr) (cap : Nat) (l : List NodeT) (n : Int) (w : World) (hc : Cells w ao (l.flatMap nodeC)) (hl : l.length ≤ 17592186044416) :
    Calls Try.prog 40 #[.slice ao l.length cap, .int .i64 n] w (RetSl (kidsL l n l.length).length ((kidsL l n l.length).map (.int .i64)) w) := by
  go_enter Try.func40, Try.ntmps40
  go_wp2_with fail
  go_loopw [5, 9] (fun u i wr => ∃ k : Nat, k ≤ l.length ∧ i = .int .i64 k ∧ wr.ownsRow w.heap.size 3 1 u (kidsL l n k).length ((kidsL l n k).map (.int .i64)) ∧ Ext w wr)
    (fun _ i _ => l.length - (intOf i).toNat)
  case atStart => exact ⟨0, Nat.zero_le _, rfl, World.ownsRow_nil _ _ _ _, Ext.rf w⟩
  case round =>
    obtain ⟨k, hk, rfl, hown, hext⟩ := hrel
    by_cases hlt : k < l.length
    · have hkl := kidsL_len l n k
      cases t0 : decide (0 ≤ n) with
      | false =>
        have HS : Hid (kidsL l n (k + 1) = kidsL l n k) := by rw [Hid, kidsL_succ, kidB, t0]; simp
        go_wp2_with fail
        go_roundw
        case rel => exact ⟨k + 1, by omega, by go_num, by rw [HS.out]; exact hown, hext⟩
        case measure => simp [intOf]; omega
      | true =>
        obtain ⟨b, off, rfl, hcl⟩ := (hc.ext hext).flat (enc := nodeC) (size := 7) (fun _ => rfl) hlt (by decide)
        have HP := Lib.hid (parOf_nat hlt)
        have i1 : (0 : Int) ≤ k := by omega
        have i2 : (k : Int) < l.length := by omega
        generalize l[k] = x at *
        have e0 : wr.cell? ⟨b, off + k * 7, none⟩ = some (.int .i64 x.par) := by exact hcl 0 _ rfl
        clear hcl
        cases t1 : x.par == n with
        | false =>
          have HS : Hid (kidsL l n (k + 1) = kidsL l n k) := by rw [Hid, kidsL_succ, kidB, t0, HP.out, t1]; simp
          go_wp2_with fail
          go_roundw
          case rel => exact ⟨k + 1, by omega, by go_num, by rw [HS.out]; exact hown, hext⟩
          case measure => simp [intOf]; omega
        | true =>
          have HS : Hid (kidsL l n (k + 1) = kidsL l n k ++ [(k : Int)]) := by rw [Hid, kidsL_succ, kidB, t0, HP.out, t1]; simp
          go_wp2_with (at_builtin; (refine wpList_push rfl (.tmp 23) (.tmp 25) 24 rfl w.heap.size 3 3 (.int .i64 0) 1 8 Try.underlying24 (by kernel_rfl) rfl (by decide) _ (kidsL l n k).length _ [.int .i64 k] rfl hown _ rfl (by simp) rfl (by simp [Value.oneCell']) (by unfold maxLen; omega) (by omega) hext.size ?_; intro v' w1 hown1 hgr; have hext1 := hext.push hown (Nat.le_refl _) hgr; clear hgr hown hext))
          go_roundw
          case rel => exact ⟨k + 1, by omega, by go_num, by rw [HS.out, List.length_append, List.map_append]; exact hown1, hext1⟩
          case measure => simp [intOf]; omega
    · obtain rfl : k = l.length := by omega
      obtain ⟨ro, rc, rfl, hc', hf'⟩ := own_cells hown
      have HC := Lib.hid hc'
      clear hown hc'
      go_wp2_with fail
      go_ret
      exact ⟨ro, rc, rfl, HC.out, hext, hf'⟩



set_option maxHeartbeats 1000000 in
set_option maxRecDepth 20000 in
theorem treeref_Kids (ao : Option Addr) (cap : Nat) (l : List NodeT) (n : Int) (w : World) (hc : Cells w ao (l.flatMap nodeC)) (hl : l.length ≤ 17592186044416) :
    Calls Try.prog 41 #[.slice ao l.length cap, .int .i64 n] w (RetSl (kidsL l n l.length).length ((kidsL l n l.length).map (.int .i64)) w) := by
  go_enter Try.func41, Try.ntmps41
  go_wp2_with fail
  go_loopw [5, 6] (fun u i wr => ∃ k : Nat, k ≤ l.length ∧ i = .int .i64 k ∧ wr.ownsRow w.heap.size 3 1 u (kidsL l n k).length ((kidsL l n k).map (.int .i64)) ∧ Ext w wr)
    (fun _ i _ => l.length - (intOf i).toNat)
  case atStart => exact ⟨0, Nat.zero_le _, rfl, World.ownsRow_nil _ _ _ _, Ext.rf w⟩
  case round =>
    obtain ⟨k, hk, rfl, hown, hext⟩ := hrel
    by_cases hlt : k < l.length
    · have hkl := kidsL_len l n k
      cases t0 : decide (0 ≤ n) with
      | false =>
        have HS : Hid (kidsL l n (k + 1) = kidsL l n k) := by rw [Hid, kidsL_succ, kidB, t0]; simp
        go_wp2_with fail
        go_roundw
        case rel => exact ⟨k + 1, by omega, by go_num, by rw [HS.out]; exact hown, hext⟩
        case measure => simp [intOf]; omega
      | true =>
        obtain ⟨b, off, rfl, hcl⟩ := (hc.ext hext).flat (enc := nodeC) (size := 7) (fun _ => rfl) hlt (by decide)
        have HP := Lib.hid (parOf_nat hlt)
        have i1 : (0 : Int) ≤ k := by omega
        have i2 : (k : Int) < l.length := by omega
        generalize l[k] = x at *
        have e0 : wr.cell? ⟨b, off + k * 7, none⟩ = some (.int .i64 x.par) := by exact hcl 0 _ rfl
        clear hcl
        cases t1 : x.par == n with
        | false =>
          have HS : Hid (kidsL l n (k + 1) = kidsL l n k) := by rw [Hid, kidsL_succ, kidB, t0, HP.out, t1]; simp
          go_wp2_with fail
          go_roundw
          case rel => exact ⟨k + 1, by omega, by go_num, by rw [HS.out]; exact hown, hext⟩
          case measure => simp [intOf]; omega
        | true =>
          have HS : Hid (kidsL l n (k + 1) = kidsL l n k ++ [(k : Int)]) := by rw [Hid, kidsL_succ, kidB, t0, HP.out, t1]; simp
          go_wp2_with (at_builtin; (refine wpList_push rfl (.tmp 24) (.tmp 26) 24 rfl w.heap.size 3 3 (.int .i64 0) 1 8 Try.underlying24 (by kernel_rfl) rfl (by decide) _ (kidsL l n k).length _ [.int .i64 k] rfl hown _ rfl (by simp) rfl (by simp [Value.oneCell']) (by unfold maxLen; omega) (by omega) hext.size ?_; intro v' w1 hown1 hgr; have hext1 := hext.push hown (Nat.le_refl _) hgr; clear hgr hown hext))
          go_roundw
          case rel => exact ⟨k + 1, by omega, by go_num, by rw [HS.out, List.length_append, List.map_append]; exact hown1, hext1⟩
          case measure => simp [intOf]; omega
    · obtain rfl : k = l.length := by omega
      obtain ⟨ro, rc, rfl, hc', hf'⟩ := own_cells hown
      have HC := Lib.hid hc'
      clear hown hc'
      go_wp2_with fail
      go_ret
      exact ⟨ro, rc, rfl, HC.out, hext, hf'⟩

end Go.Proofs.Ytofdkhilapmccaa
