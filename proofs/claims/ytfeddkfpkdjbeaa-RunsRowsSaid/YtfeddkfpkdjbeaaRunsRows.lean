/- RunsRows: the walk of the law. -/
import Derived.Test.YtfeddkfpkdjbeaaRunsL
import Derived.Test.YtfeddkfpkdjbeaaOpen
namespace Go.Proofs.Ytfeddkfpkdjbeaa
open Go.RowKit

set_option maxHeartbeats 2000000 in
set_option maxRecDepth 20000 in
theorem RunsRows_walk (ao0 : Option Addr) (cap0 : Nat) (l0 : List (Int × Int)) (w : World) (hl0 : Cells w ao0 (l0.flatMap pairC)) :
    Calls Try.prog 4 #[.slice ao0 l0.length cap0] w fun e w' => e = .returned (.bool true) ∧ Ext w w' := by
  by_cases h3 : 100 < l0.length
  · go_enter Try.func4, Try.ntmps4
    go_wp2_with fail
    refine (runs_lives _).mono ?_
    rintro e w1 ⟨rfl, hb⟩
    go_wp2_with fail
    go_ret
    exact ⟨rfl, hb⟩
  · have hle : l0.length ≤ 100 := by omega
    clear h3
    go_enter Try.func4, Try.ntmps4
    go_wp2_with fail
    go_loopw [3, 4] (fun v i wr => ∃ k : Nat, k ≤ l0.length ∧ i = .int .i64 k ∧ wr.ownsRow w.heap.size 34 2 v k ((l0.flatMap pairC).take (k * 2)) ∧ Ext w wr)
      (fun _ i _ => l0.length - (intOf i).toNat)
    case atStart => exact ⟨0, Nat.zero_le _, rfl, World.ownsRow_nil _ _ _ _, Ext.rf w⟩
    case round =>
      obtain ⟨k, hk, rfl, hown, hext⟩ := hrel
      by_cases hlt : k < l0.length
      · obtain ⟨b, off, rfl, c1, c2⟩ := hl0.pair (k := k) hlt
        have i1 : (0 : Int) ≤ k := by omega
        have i2 : (k : Int) < l0.length := by omega
        have d1 := hext.has c1
        have d2 := hext.has c2
        have hown0 := hown.drew
        have hext0 := hext.dr
        go_wp2_with fail
        go_region_held3 (fun w' => w'.cell? ⟨b, off + k * 2, none⟩ = some (.int .i64 l0[k].1) ∧ w'.cell? ⟨b, off + k * 2 + 1, none⟩ = some (.int .i64 l0[k].2)) (first | (exact ⟨d1, d2⟩) | (exact ⟨hext1.has c1, hext1.has c2⟩) | (exact ⟨(hext0.al _).has c1, (hext0.al _).has c2⟩))
          (first | (refine step_push rfl (.tmp 15) (.tmp 27) 31 rfl w.heap.size 34 34 (.agg #[.int .i64 0, .int .i64 0]) 2 16 Try.underlying31 (by kernel_rfl) rfl (by decide) _ k _ [.int .i64 l0[k].1, .int .i64 l0[k].2] rfl hown0 _ rfl (by simp) rfl (by simp [Value.oneCell']) (by unfold maxLen; omega) (by omega) hext0.size ?_; intro v' w1 hown1 hgr; have hext1 := hext0.push hown0 (Nat.le_refl _) hgr))
        go_wp2
        go_roundw
        case rel => exact ⟨k + 1, by omega, by go_num, by rw [take_flat2 l0 k hlt]; exact hown1, hext1⟩
        case measure => simp [intOf]; omega
      · obtain rfl : k = l0.length := by omega
        rw [List.take_of_length_le (by rw [length_flat (size := 2) (fun _ => rfl)]; omega)] at hown
        obtain ⟨bo, bc, rfl, -, -, hr⟩ := Cells.own hown
        have ha := hl0.ext hext
        clear hown hlt
        go_wp2_with fail
        refine (runs_Row ao0 cap0 l0 wr ha (by omega)).mono ?_
        rintro e w1 ⟨a1, k1, rfl, hc1, hb1⟩
        have hr1 := hr.ext hb1
        go_wp2_with fail
        refine (runsref_Row bo bc l0 w1 hr1 (by omega)).mono ?_
        rintro e w2 ⟨a2, k2, rfl, hc2, hb2⟩
        have hle2 := rowOf_le l0
        go_wp2_with fail
        refine (runsref_Ints a1 a2 k1 k2 (rowOf l0) (rowOf l0) w2 (hc1.ext hb2) hc2 (by omega) (by omega)).mono ?_
        rintro e w3 ⟨rfl, hb3⟩
        rw [decide_eq_true rfl]
        clear hle2
        go_wp2_with fail
        refine (runs_Right ao0 cap0 l0 w3 (((ha.ext hb1).ext hb2).ext hb3) (by omega)).mono ?_
        rintro e w4 ⟨rfl, hb4⟩
        go_wp2_with fail
        refine (runsref_Right bo bc l0 w4 (((hr1.ext hb2).ext hb3).ext hb4) (by omega)).mono ?_
        rintro e w5 ⟨rfl, hb5⟩
        go_wp2_with fail
        refine (runs_lives _).mono ?_
        rintro e w6 ⟨rfl, hb6⟩
        go_wp2_with fail
        go_ret
        exact ⟨rfl, (((((hext.tr hb1).tr hb2).tr hb3).tr hb4).tr hb5).tr hb6⟩

theorem RunsRows_open {H : Type} {enc : TypeId × Value → H} {w : World} {spare : Nat → Bool} {held : Bool} {a : Option Addr} {len cap : Nat} {d : DataW H} {p : List MemPlace}
    (h : DataW.Trod enc Try.prog w 0 spare held 30 (.slice a len cap) d p) : ∃ z : List (Int × Int), len = z.length ∧ Cells w a (z.flatMap pairC) :=
  open_flat (size := 2) (opens_slice Try.underlying30 (by kernel_rfl) (opens_pair Try.underlying33 (by kernel_rfl) ⟨rfl, rfl⟩ ⟨rfl, rfl⟩ Try.underlying3 Try.underlying3 (by kernel_rfl) (by kernel_rfl))) h
end Go.Proofs.Ytfeddkfpkdjbeaa
