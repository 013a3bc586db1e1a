/- The law's own example: three nodes, each in the one ahead. -/
import Derived.Test.YtofdkhilapmccaaTreeX
namespace Go.Proofs.Ytofdkhilapmccaa
open Go.RowKit

theorem Cells.left {w : World} {ao : Option Addr} {a b : List Value} (h : Cells w ao (a ++ b)) (hne : a = [] → False) : Cells w ao a :=
  ⟨fun _ => h.addr (by intro e; exact hne (List.append_eq_nil_iff.1 e).1), fun bl off e j u hu => h.cell bl off e j u (by
    rw [List.getElem?_append_left (List.getElem?_eq_some_iff.1 hu).1]; exact hu)⟩

def L3 : List NodeT := [⟨-1, 0, 0, 0, 0, 2, 0⟩, ⟨0, 1, 0, 2, 0, 3, 5⟩, ⟨1, 2, 0, 3, 0, 3, 4⟩]
def L1 : List NodeT := [⟨-1, 0, 0, 0, 0, 2, 0⟩]
theorem L1_text : strB (treeText L1 1) = ⟨#[48, 32, 48, 32, 48, 10]⟩ := by
  have h0 : decB 0 = [48] := by rw [decB_nn (by decide)]; show digN 0 = _; rw [digN_lt (by decide)]; rfl
  have : treeText L1 1 = [48, 32, 48, 32, 48, 10] := by
    show [0].flatMap (treeLine L1) = _
    simp only [List.flatMap_cons, List.flatMap_nil, List.append_nil, treeLine, lineOf]
    show List.replicate (2 * (1 - 1)) 32 ++ (decB 0 ++ (32 :: (decB 0 ++ (32 :: (decB 0 ++ [10]))))) = _
    rw [h0]; rfl
  rw [this]; rfl
theorem L3_in (w : World) : Cells (w.alloc (.cells (L3.flatMap nodeC).toArray 87)) (some ⟨w.heap.size, 0, none⟩) (L3.flatMap nodeC) := cells_new w _ _ _ rfl
theorem L3_up (g : Nat) (w : World) (h : Cells w (some ⟨g, 0, none⟩) (L3.flatMap nodeC)) : Calls Try.prog 38 #[.slice (some ⟨g, 0, none⟩) 3 3, .int .i64 2] w fun e w' => ∃ b off c, e = .returned (.slice (some ⟨b, off, none⟩) 3 c) ∧ w'.cell? ⟨b, off + 1, none⟩ = some (.int .i64 1) ∧ Ext w w' :=
  (tree_Up _ 3 L3 2 w h (by decide)).mono fun e w' ⟨ao, c, h1, h2, h3, _⟩ => by
    obtain ⟨b, off, e1⟩ := h2.addr (by decide)
    subst e1
    exact ⟨b, off, c, h1, h2.cell b off rfl 1 _ rfl, h3⟩
theorem L3_right (g : Nat) (w : World) (h : Cells w (some ⟨g, 0, none⟩) (L3.flatMap nodeC)) : Calls Try.prog 22 #[.slice (some ⟨g, 0, none⟩) 3 3] w fun e w' => e = .returned (.bool true) ∧ Ext w w' :=
  tree_Right _ 3 L3 w h (by decide)
theorem L3_inside (g : Nat) (w : World) (h : Cells w (some ⟨g, 0, none⟩) (L3.flatMap nodeC)) : Calls Try.prog 28 #[.slice (some ⟨g, 0, none⟩) 3 3, .int .i64 2, .int .i64 0] w fun e w' => e = .returned (.bool true) ∧ Ext w w' :=
  tree_Inside _ 3 L3 2 0 w h (by decide)
theorem L3_depth (g : Nat) (w : World) (h : Cells w (some ⟨g, 0, none⟩) (L3.flatMap nodeC)) : Calls Try.prog 43 #[.slice (some ⟨g, 0, none⟩) 3 3, .int .i64 1] w fun e w' => e = .returned (.int .i64 2) ∧ Ext w w' :=
  tree_Depth _ 3 L3 1 w h (by decide)
theorem L1_txt (g c : Nat) (w : World) (h : Cells w (some ⟨g, 0, none⟩) (L3.flatMap nodeC)) : Calls Try.prog 45 #[.slice (some ⟨g, 0, none⟩) 1 c] w fun e w' => e = .returned (.string ⟨#[48, 32, 48, 32, 48, 10]⟩) ∧ Ext w w' := by
  rw [← L1_text]
  refine tree_Text _ c L1 w (Cells.left (b := (L3.drop 1).flatMap nodeC) h (by decide)) (by decide) ?_
  intro n hn
  simp only [L1, List.mem_singleton] at hn
  subst hn
  simp [Node64, I64]

set_option maxHeartbeats 1000000 in
set_option maxRecDepth 20000 in
theorem tree_lives (w : World) : Calls Try.prog 21 #[] w fun e w' => e = .returned (.bool true) ∧ Ext w w' := by
  have hc0 := L3_in w
  have hx0 := (Ext.rf w).al (.cells (L3.flatMap nodeC).toArray 87)
  generalize hW : w.alloc (.cells (L3.flatMap nodeC).toArray 87) = W at *
  simp only [L3, List.flatMap_cons, List.flatMap_nil, nodeC, List.cons_append, List.nil_append] at hW
  have HC := Lib.hid hc0
  have HX := Lib.hid hx0
  have HW := Lib.hid hW
  clear hc0 hx0 hW
  go_enter Try.func21, Try.ntmps21
  go_upto_region 2 with fail
  rw [HW.out]
  go_wp2_with fail
  refine (L3_up _ _ HC.out).mono ?_
  rintro e w1 ⟨b, off, c, rfl, hu, hx1⟩
  have HX1 := Lib.hid (HX.out.tr hx1)
  have HC1 := Lib.hid (HC.out.ext hx1)
  have HU := Lib.hid hu
  clear hx1 hu
  go_wp2_with fail
  refine (L3_right _ _ HC1.out).mono ?_
  rintro e w2 ⟨rfl, hx2⟩
  have HX2 := Lib.hid (HX1.out.tr hx2)
  have HC2 := Lib.hid (HC1.out.ext hx2)
  have hu := hx2.has HU.out
  clear hx2
  go_wp2_with fail
  refine (L3_inside _ _ HC2.out).mono ?_
  rintro e w3 ⟨rfl, hx3⟩
  have HX3 := Lib.hid (HX2.out.tr hx3)
  have HC3 := Lib.hid (HC2.out.ext hx3)
  clear hx3 hu
  go_wp2_with fail
  refine (L3_depth _ _ HC3.out).mono ?_
  rintro e w4 ⟨rfl, hx4⟩
  have HX4 := Lib.hid (HX3.out.tr hx4)
  have HC4 := Lib.hid (HC3.out.ext hx4)
  clear hx4
  go_wp2_with fail
  refine (L1_txt _ _ _ HC4.out).mono ?_
  rintro e w5 ⟨rfl, hx5⟩
  go_wp2_with fail
  go_ret
  exact ⟨rfl, HX4.out.tr hx5⟩
end Go.Proofs.Ytofdkhilapmccaa
