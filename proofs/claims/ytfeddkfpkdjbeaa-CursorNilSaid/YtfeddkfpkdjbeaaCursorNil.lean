/- A cursor that no call made tells nothing. -/
import Derived.Test.YtfeddkfpkdjbeaaCurL
import Derived.Test.YtfeddkfpkdjbeaaOpen
namespace Go.Proofs.Ytfeddkfpkdjbeaa
open Go.RowKit

/-- v is no cursor that a call made. -/
def Unmade (v : Value) (w : World) : Prop := Calls Try.prog 58 #[v] w fun e w' => e = .returned (.int .i64 1) ∧ w = w'

theorem unmade_nil (w : World) : Unmade (.pointer none) w := by
  unfold Unmade
  go_enter Try.func58, Try.ntmps58
  go_wp2
  go_ret
  exact ⟨rfl, rfl⟩

theorem unmade_zero (g : Nat) (w : World) (h : w.cell? ⟨g, 1, none⟩ = some (.bool false)) : Unmade (.pointer (some ⟨g, 0, none⟩)) w := by
  unfold Unmade
  go_enter Try.func58, Try.ntmps58
  go_wp2
  go_ret
  exact ⟨rfl, rfl⟩

theorem unmade_Fail (v : Value) (n : Int) (w : World) (h : Unmade v w) : Calls Try.prog 62 #[v, .int .i64 n] w fun e w' => (∃ u, e = .returned u) ∧ w = w' := by
  go_enter Try.func62, Try.ntmps62
  go_wp2_with fail
  refine Calls.mono h ?_
  rintro e w1 ⟨rfl, rfl⟩
  clear h
  go_wp2_with fail
  go_end0
  exact ⟨⟨_, rfl⟩, rfl⟩
theorem unmade_Bits (v : Value) (w : World) (h : Unmade v w) : Calls Try.prog 65 #[v] w fun e w' => e = .returned (.int .u64 0) ∧ w = w' := by
  go_enter Try.func65, Try.ntmps65
  go_wp2_with fail
  refine Calls.mono h ?_
  rintro e w1 ⟨rfl, rfl⟩
  clear h
  go_wp2_with fail
  go_ret
  exact ⟨rfl, rfl⟩
theorem unmade_Byte (v : Value) (w : World) (h : Unmade v w) : Calls Try.prog 64 #[v] w fun e w' => e = .returned (.int .u8 0) ∧ w = w' := by
  go_enter Try.func64, Try.ntmps64
  go_wp2_with fail
  refine Calls.mono h ?_
  rintro e w1 ⟨rfl, rfl⟩
  clear h
  go_wp2_with fail
  go_ret
  exact ⟨rfl, rfl⟩
theorem unmade_Left (v : Value) (w : World) (h : Unmade v w) : Calls Try.prog 59 #[v] w fun e w' => e = .returned (.int .i64 0) ∧ w = w' := by
  go_enter Try.func59, Try.ntmps59
  go_wp2_with fail
  refine Calls.mono h ?_
  rintro e w1 ⟨rfl, rfl⟩
  clear h
  go_wp2_with fail
  go_ret
  exact ⟨rfl, rfl⟩
theorem unmade_Num (v : Value) (n : Int) (w : World) (h : Unmade v w) : Calls Try.prog 63 #[v, .int .i64 n] w fun e w' => e = .returned (.int .i64 0) ∧ w = w' := by
  have HB := unmade_Bits v w h
  go_enter Try.func63, Try.ntmps63
  go_wp2_with fail
  refine HB.mono ?_
  rintro e w1 ⟨rfl, rfl⟩
  clear HB
  go_wp2_with fail
  refine Calls.mono h ?_
  rintro e w1 ⟨rfl, rfl⟩
  clear h
  go_wp2_with fail
  go_ret
  exact ⟨rfl, rfl⟩
theorem unmade_Text (v : Value) (n : Int) (w : World) (h : Unmade v w) : Calls Try.prog 55 #[v, .int .i64 n] w fun e w' => e = .returned (.string ByteArray.empty) ∧ w = w' := by
  have HB := unmade_Num v n w h
  go_enter Try.func55, Try.ntmps55
  go_wp2_with fail
  refine HB.mono ?_
  rintro e w1 ⟨rfl, rfl⟩
  clear HB
  go_wp2_with fail
  refine Calls.mono h ?_
  rintro e w1 ⟨rfl, rfl⟩
  clear h
  go_wp2_with fail
  go_ret
  exact ⟨rfl, rfl⟩
theorem unmade_Int (v : Value) (w : World) (h : Unmade v w) : Calls Try.prog 54 #[v] w fun e w' => e = .returned (.int .i64 0) ∧ w = w' := by
  have HB := unmade_Bits v w h
  go_enter Try.func54, Try.ntmps54
  go_wp2_with fail
  refine HB.mono ?_
  rintro e w1 ⟨rfl, rfl⟩
  clear HB h
  go_wp2_with fail
  refine Calls.mono (uvar_Unfold 0 _ (by decide)) ?_
  rintro e w1 ⟨rfl, rfl⟩
  go_wp2_with fail
  go_ret
  exact ⟨rfl, rfl⟩
theorem unmade_End (v : Value) (w : World) (h : Unmade v w) : Calls Try.prog 56 #[v] w fun e w' => e = .returned (.int .i64 1) ∧ w = w' := by
  have HB := unmade_Left v w h
  go_enter Try.func56, Try.ntmps56
  go_wp2_with fail
  refine HB.mono ?_
  rintro e w1 ⟨rfl, rfl⟩
  clear HB
  go_wp2_with fail
  refine Calls.mono h ?_
  rintro e w1 ⟨rfl, rfl⟩
  clear h
  go_wp2_with fail
  go_ret
  exact ⟨rfl, rfl⟩

set_option maxHeartbeats 1000000 in
set_option maxRecDepth 20000 in
theorem CursorNil_walk (x0 : Int) (w : World) (hx0 : (Lit.int .i64 x0).wf = true) :
    Calls Try.prog 11 #[.int .i64 x0] w fun e w' => e = .returned (.bool true) ∧ Ext w w' := by
  clear hx0
  have hx := (Ext.rf w).al (.cells #[.slice none 0 0, .bool false, .int .i64 0] 94)
  have UN := Lib.hid (unmade_nil (w.alloc (.cells #[.slice none 0 0, .bool false, .int .i64 0] 94)))
  have UZ := Lib.hid (unmade_zero w.heap.size (w.alloc (.cells #[.slice none 0 0, .bool false, .int .i64 0] 94)) (blk (alloc_new w _) 1 rfl))
  go_enter Try.func11, Try.ntmps11
  go_wp2_with fail
  refine Calls.mono (unmade_Fail _ 2 _ UN.out) ?_
  rintro e w1 ⟨⟨u, rfl⟩, rfl⟩
  go_wp2_with fail
  refine Calls.mono (unmade_Fail _ 2 _ UZ.out) ?_
  rintro e w1 ⟨⟨u, rfl⟩, rfl⟩
  go_wp2_with fail
  refine Calls.mono (unmade_Num _ x0 _ UN.out) ?_
  rintro e w1 ⟨rfl, rfl⟩
  go_wp2_with fail
  refine Calls.mono (unmade_Text _ x0 _ UN.out) ?_
  rintro e w1 ⟨rfl, rfl⟩
  go_wp2_with fail
  refine Calls.mono (UN.out) ?_
  rintro e w1 ⟨rfl, rfl⟩
  go_wp2_with fail
  refine Calls.mono (unmade_Byte _ _ UZ.out) ?_
  rintro e w1 ⟨rfl, rfl⟩
  go_wp2_with fail
  refine Calls.mono (unmade_Int _ _ UZ.out) ?_
  rintro e w1 ⟨rfl, rfl⟩
  go_wp2_with fail
  refine Calls.mono (unmade_End _ _ UZ.out) ?_
  rintro e w1 ⟨rfl, rfl⟩
  go_wp2_with fail
  refine Calls.mono (unmade_Left _ _ UN.out) ?_
  rintro e w1 ⟨rfl, rfl⟩
  go_wp2_with fail
  refine Calls.mono (unmade_Bits _ _ UZ.out) ?_
  rintro e w1 ⟨rfl, rfl⟩
  go_wp2_with fail
  refine (cur_lives _).mono ?_
  rintro e w1 ⟨rfl, hx1⟩
  go_wp2_with fail
  go_ret
  exact ⟨rfl, hx.tr hx1⟩
end Go.Proofs.Ytfeddkfpkdjbeaa
