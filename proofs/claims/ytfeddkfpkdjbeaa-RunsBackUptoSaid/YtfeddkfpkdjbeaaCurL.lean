/- The walk of layer 2's example. -/
import Derived.Test.YtfeddkfpkdjbeaaCurX
namespace Go.Proofs.Ytfeddkfpkdjbeaa
open Go.RowKit

theorem CurAt.ext {w w' : World} {g : Nat} {bs : List UInt8} {er : Int} (h : CurAt w g bs er) (hx : Ext w w') : CurAt w' g bs er := by
  obtain ⟨bs0, ao, cap, h1, h2, h3, h4, h5⟩ := h
  exact ⟨bs0, ao, cap, hx.blk h1, h2.ext hx, h3, h4, h5⟩

/-- What a method of a new cursor leaves, seen from below the cursor. -/
theorem ext_grown {w0 w w' : World} {g : Nat} (h : Ext w0 w) (hg : w.grownBy w' (some g)) (hb : w0.heap.size ≤ g) : Ext w0 w' :=
  Below.grown h.b hg h.size fun k e => by cases e; exact hb

theorem numS_1 : numS [172, 2] 0 300 = (300, [], 0) := by decide +kernel
theorem numS_2 : numS [] 0 0 = (0, [], 3) := by decide +kernel

set_option maxHeartbeats 1000000 in
set_option maxRecDepth 20000 in
theorem cur_lives (w : World) : Calls Try.prog 50 #[] w fun e w' => e = .returned (.bool true) ∧ Ext w w' := by
  go_enter Try.func50, Try.ntmps50
  go_wp2_with fail
  refine (cur_New _ 2 [172, 2] _ (cells_new w _ _ _ rfl) (by decide)).mono ?_
  rintro e w1 ⟨g, rfl, hg, hc, hx⟩
  have hgw : w.heap.size ≤ g := by simp at hg; omega
  have hx1 := ((Ext.rf w).al _).tr hx
  have HN := Lib.hid (cur_Num g _ 0 300 w1 hc (by decide) (by decide) (by decide))
  rw [numS_1] at HN
  clear hc hx hg
  go_wp2_with fail
  refine HN.out.mono ?_
  rintro e w2 ⟨rfl, hc2, hg2⟩
  have hx2 := ext_grown hx1 hg2 hgw
  have HE := Lib.hid (cur_End g _ _ w2 hc2)
  have HC2 := Lib.hid hc2
  clear hg2 hx1 HN hc2
  go_wp2_with fail
  refine HE.out.mono ?_
  rintro e w3 ⟨rfl, rfl⟩
  have HN2 := Lib.hid (cur_Num g _ _ 0 w2 HC2.out (by decide) (by decide) (by decide))
  rw [numS_2] at HN2
  clear HE
  go_wp2_with fail
  refine HN2.out.mono ?_
  rintro e w4 ⟨rfl, hc4, hg4⟩
  have hx4 := ext_grown hx2 hg4 hgw
  have HR := Lib.hid (cur_Err g _ _ w4 hc4)
  clear hc4 hg4 HN2
  go_wp2_with fail
  refine HR.out.mono ?_
  rintro e w5 ⟨rfl, rfl⟩
  go_wp2_with fail
  go_ret
  exact ⟨rfl, hx4⟩
end Go.Proofs.Ytfeddkfpkdjbeaa
