/- The walk of layer 4's example. -/
import Derived.Test.YtfeddkfpkdjbeaaRunsO
import Derived.Test.YtfeddkfpkdjbeaaRunsR
namespace Go.Proofs.Ytfeddkfpkdjbeaa
open Go.RowKit

theorem runs_Of_779 (g : Nat) (w : World) (hc : Cells w (some ⟨g, 0, none⟩) ([7, 7, 9].map (.int .i64))) : Calls Try.prog 30 #[.slice (some ⟨g, 0, none⟩) 3 3] w fun e w' =>
    ∃ ao cap, e = .returned (.slice ao 2 cap) ∧ Cells w' ao ([(2, 7), (1, 9)].flatMap pairC) ∧ Ext w w' :=
  (runs_Of _ _ [7, 7, 9] w hc (by decide)).mono fun e w' ⟨ao, cap, h1, h2, h3, _⟩ => ⟨ao, cap, h1, h2, h3⟩
theorem runs_Row_779 (ao : Option Addr) (cap : Nat) (w : World) (hc : Cells w ao ([(2, 7), (1, 9)].flatMap pairC)) : Calls Try.prog 23 #[.slice ao 2 cap] w fun e w' =>
    ∃ ao cap, e = .returned (.slice ao 3 cap) ∧ Ext w w' :=
  (runs_Row ao cap [(2, 7), (1, 9)] w hc (by decide)).mono fun e w' ⟨ao, cap, h1, _, h2⟩ => ⟨ao, cap, h1, h2⟩
theorem runs_Right_779 (ao : Option Addr) (cap : Nat) (w : World) (hc : Cells w ao ([(2, 7), (1, 9)].flatMap pairC)) : Calls Try.prog 25 #[.slice ao 2 cap] w fun e w' =>
    e = .returned (.bool true) ∧ Ext w w' :=
  runs_Right ao cap [(2, 7), (1, 9)] w hc (by decide)

set_option maxHeartbeats 1000000 in
set_option maxRecDepth 20000 in
theorem runs_lives (w : World) : Calls Try.prog 21 #[] w fun e w' => e = .returned (.bool true) ∧ Ext w w' := by
  go_enter Try.func21, Try.ntmps21
  go_wp2_with fail
  refine (runs_Of_779 _ _ ⟨fun _ => ⟨_, _, rfl⟩, fun b off e j u hu => ?_⟩).mono ?_
  · simp only [Option.some.injEq, Addr.mk.injEq, and_true] at e
    obtain ⟨rfl, rfl⟩ := e
    rw [Nat.zero_add, World.cell?_alloc_mark]
    simpa using hu
  rintro e w1 ⟨ao, cap, rfl, hc, hb⟩
  obtain ⟨b, off, rfl, c1, c2⟩ := hc.pair (k := 0) (by decide)
  obtain ⟨b', off', e', c3, c4⟩ := hc.pair (k := 1) (by decide)
  simp only [Option.some.injEq, Addr.mk.injEq, and_true] at e'
  obtain ⟨rfl, rfl⟩ := e'
  simp only [Nat.zero_mul, Nat.add_zero, Nat.one_mul, List.getElem_cons_zero, List.getElem_cons_succ] at c1 c2 c3 c4
  have hb0 := ((Ext.rf w).al _).tr hb
  clear hb
  go_wp2_with fail
  refine (runs_Row_779 _ _ _ hc).mono ?_
  rintro e w2 ⟨ao2, cap2, rfl, hb2⟩
  have hc2 := hc.ext hb2
  go_wp2_with fail
  refine (runs_Right_779 _ _ _ hc2).mono ?_
  rintro e w3 ⟨rfl, hb3⟩
  go_wp2_with fail
  go_ret
  exact ⟨rfl, (hb0.tr hb2).tr hb3⟩
end Go.Proofs.Ytfeddkfpkdjbeaa
