/- FncSame: the law's walk. -/
import Derived.Test.YtofdkhilapmccaaFncSmall
import Derived.Test.YtofdkhilapmccaaFncRefSame
import Derived.Test.YtofdkhilapmccaaOpenF
namespace Go.Proofs.Ytofdkhilapmccaa
open Go.RowKit

set_option maxHeartbeats 4000000 in
set_option maxRecDepth 20000 in
theorem FncSame_walk (x0 x1 : FuncA × FuncT) (w : World) (hx0 : FuncIn w x0.1 x0.2 ∧ FuncB x0.2) (hx1 : FuncIn w x1.1 x1.2 ∧ FuncB x1.2) :
    Calls Try.prog 3 #[.agg #[.string x0.2.name, .bool x0.2.inner, .slice x0.1.o1 x0.2.outer.length x0.1.c1, .slice x0.1.o2 x0.2.params.length x0.1.c2, .slice x0.1.o3 x0.2.results.length x0.1.c3, .slice x0.1.o4 x0.2.locs.length x0.1.c4, .slice x0.1.o5 x0.2.code.length x0.1.c5, .slice x0.1.o6 x0.2.lines.length x0.1.c6, .slice x0.1.o7 x0.2.nodes.length x0.1.c7, .slice x0.1.o8 x0.2.ats.length x0.1.c8, .slice x0.1.o9 x0.2.live.length x0.1.c9], .agg #[.string x1.2.name, .bool x1.2.inner, .slice x1.1.o1 x1.2.outer.length x1.1.c1, .slice x1.1.o2 x1.2.params.length x1.1.c2, .slice x1.1.o3 x1.2.results.length x1.1.c3, .slice x1.1.o4 x1.2.locs.length x1.1.c4, .slice x1.1.o5 x1.2.code.length x1.1.c5, .slice x1.1.o6 x1.2.lines.length x1.1.c6, .slice x1.1.o7 x1.2.nodes.length x1.1.c7, .slice x1.1.o8 x1.2.ats.length x1.1.c8, .slice x1.1.o9 x1.2.live.length x1.1.c9]] w fun e w' => e = .returned (.bool true) ∧ Ext w w' := by
  obtain ⟨A, f⟩ := x0
  obtain ⟨B, g⟩ := x1
  obtain ⟨hf, bf⟩ := hx0
  obtain ⟨hg, bg⟩ := hx1
  simp only at hf bf hg bg ⊢
  have HFB := Lib.hid bf
  have HGB := Lib.hid bg
  have HFI := Lib.hid hf
  have HGI := Lib.hid hg
  clear bf bg hf hg
  go_enter Try.func3, Try.ntmps3
  go_upto_region 1 with fail
  obtain ⟨hx0, hz0, hcA, hcB⟩ := two_boxes w [.string f.name, .bool f.inner, .slice A.o1 f.outer.length A.c1, .slice A.o2 f.params.length A.c2, .slice A.o3 f.results.length A.c3, .slice A.o4 f.locs.length A.c4, .slice A.o5 f.code.length A.c5, .slice A.o6 f.lines.length A.c6, .slice A.o7 f.nodes.length A.c7, .slice A.o8 f.ats.length A.c8, .slice A.o9 f.live.length A.c9] [.string g.name, .bool g.inner, .slice B.o1 g.outer.length B.c1, .slice B.o2 g.params.length B.c2, .slice B.o3 g.results.length B.c3, .slice B.o4 g.locs.length B.c4, .slice B.o5 g.code.length B.c5, .slice B.o6 g.lines.length B.c6, .slice B.o7 g.nodes.length B.c7, .slice B.o8 g.ats.length B.c8, .slice B.o9 g.live.length B.c9] 28 28
  generalize hW2 : (w.alloc (.cells ([.string f.name, .bool f.inner, .slice A.o1 f.outer.length A.c1, .slice A.o2 f.params.length A.c2, .slice A.o3 f.results.length A.c3, .slice A.o4 f.locs.length A.c4, .slice A.o5 f.code.length A.c5, .slice A.o6 f.lines.length A.c6, .slice A.o7 f.nodes.length A.c7, .slice A.o8 f.ats.length A.c8, .slice A.o9 f.live.length A.c9] : List Value).toArray 28)).alloc (.cells ([.string g.name, .bool g.inner, .slice B.o1 g.outer.length B.c1, .slice B.o2 g.params.length B.c2, .slice B.o3 g.results.length B.c3, .slice B.o4 g.locs.length B.c4, .slice B.o5 g.code.length B.c5, .slice B.o6 g.lines.length B.c6, .slice B.o7 g.nodes.length B.c7, .slice B.o8 g.ats.length B.c8, .slice B.o9 g.live.length B.c9] : List Value).toArray 28) = W2 at *
  clear hW2
  have c0 : W2.cell? ⟨w.heap.size, 0, none⟩ = some (.string f.name) := by have := hcA.cell _ _ rfl 0 _ rfl; rwa [Nat.zero_add] at this
  have c1 : W2.cell? ⟨w.heap.size, 1, none⟩ = some (.bool f.inner) := by have := hcA.cell _ _ rfl 1 _ rfl; rwa [Nat.zero_add] at this
  have c2 : W2.cell? ⟨w.heap.size, 2, none⟩ = some (.slice A.o1 f.outer.length A.c1) := by have := hcA.cell _ _ rfl 2 _ rfl; rwa [Nat.zero_add] at this
  have c3 : W2.cell? ⟨w.heap.size, 3, none⟩ = some (.slice A.o2 f.params.length A.c2) := by have := hcA.cell _ _ rfl 3 _ rfl; rwa [Nat.zero_add] at this
  have c4 : W2.cell? ⟨w.heap.size, 4, none⟩ = some (.slice A.o3 f.results.length A.c3) := by have := hcA.cell _ _ rfl 4 _ rfl; rwa [Nat.zero_add] at this
  have c5 : W2.cell? ⟨w.heap.size, 5, none⟩ = some (.slice A.o4 f.locs.length A.c4) := by have := hcA.cell _ _ rfl 5 _ rfl; rwa [Nat.zero_add] at this
  have c6 : W2.cell? ⟨w.heap.size, 6, none⟩ = some (.slice A.o5 f.code.length A.c5) := by have := hcA.cell _ _ rfl 6 _ rfl; rwa [Nat.zero_add] at this
  have c7 : W2.cell? ⟨w.heap.size, 7, none⟩ = some (.slice A.o6 f.lines.length A.c6) := by have := hcA.cell _ _ rfl 7 _ rfl; rwa [Nat.zero_add] at this
  have c8 : W2.cell? ⟨w.heap.size, 8, none⟩ = some (.slice A.o7 f.nodes.length A.c7) := by have := hcA.cell _ _ rfl 8 _ rfl; rwa [Nat.zero_add] at this
  have c9 : W2.cell? ⟨w.heap.size, 9, none⟩ = some (.slice A.o8 f.ats.length A.c8) := by have := hcA.cell _ _ rfl 9 _ rfl; rwa [Nat.zero_add] at this
  have c10 : W2.cell? ⟨w.heap.size, 10, none⟩ = some (.slice A.o9 f.live.length A.c9) := by have := hcA.cell _ _ rfl 10 _ rfl; rwa [Nat.zero_add] at this
  have d0 : W2.cell? ⟨w.heap.size + 1, 0, none⟩ = some (.string g.name) := by have := hcB.cell _ _ rfl 0 _ rfl; rwa [Nat.zero_add] at this
  have d1 : W2.cell? ⟨w.heap.size + 1, 1, none⟩ = some (.bool g.inner) := by have := hcB.cell _ _ rfl 1 _ rfl; rwa [Nat.zero_add] at this
  have d2 : W2.cell? ⟨w.heap.size + 1, 2, none⟩ = some (.slice B.o1 g.outer.length B.c1) := by have := hcB.cell _ _ rfl 2 _ rfl; rwa [Nat.zero_add] at this
  have d3 : W2.cell? ⟨w.heap.size + 1, 3, none⟩ = some (.slice B.o2 g.params.length B.c2) := by have := hcB.cell _ _ rfl 3 _ rfl; rwa [Nat.zero_add] at this
  have d4 : W2.cell? ⟨w.heap.size + 1, 4, none⟩ = some (.slice B.o3 g.results.length B.c3) := by have := hcB.cell _ _ rfl 4 _ rfl; rwa [Nat.zero_add] at this
  have d5 : W2.cell? ⟨w.heap.size + 1, 5, none⟩ = some (.slice B.o4 g.locs.length B.c4) := by have := hcB.cell _ _ rfl 5 _ rfl; rwa [Nat.zero_add] at this
  have d6 : W2.cell? ⟨w.heap.size + 1, 6, none⟩ = some (.slice B.o5 g.code.length B.c5) := by have := hcB.cell _ _ rfl 6 _ rfl; rwa [Nat.zero_add] at this
  have d7 : W2.cell? ⟨w.heap.size + 1, 7, none⟩ = some (.slice B.o6 g.lines.length B.c6) := by have := hcB.cell _ _ rfl 7 _ rfl; rwa [Nat.zero_add] at this
  have d8 : W2.cell? ⟨w.heap.size + 1, 8, none⟩ = some (.slice B.o7 g.nodes.length B.c7) := by have := hcB.cell _ _ rfl 8 _ rfl; rwa [Nat.zero_add] at this
  have d9 : W2.cell? ⟨w.heap.size + 1, 9, none⟩ = some (.slice B.o8 g.ats.length B.c8) := by have := hcB.cell _ _ rfl 9 _ rfl; rwa [Nat.zero_add] at this
  have d10 : W2.cell? ⟨w.heap.size + 1, 10, none⟩ = some (.slice B.o9 g.live.length B.c9) := by have := hcB.cell _ _ rfl 10 _ rfl; rwa [Nat.zero_add] at this
  clear hcA hcB
  have hz1 : w.heap.size < W2.heap.size := by omega
  have HX0 := Lib.hid hx0
  clear hx0
  have hE0 := Ext.rf W2
  have hb0 := bcell hE0
  have HE0 := Lib.hid hE0
  clear hE0
  go_wp2_with fail
  refine (fnc_Small A f _ HFB.out).mono ?_
  rintro e w1 ⟨rfl, hy1⟩
  clear hb0
  cases hd0 : smallF f with
  | true =>
    clear hd0
    have hE1 := (Ext.tr HE0.out hy1)
    have hb1 := bcell hE1
    have HE1 := Lib.hid hE1
    clear hE1
    go_wp2_with fail
    refine (fnc_Small B g _ HGB.out).mono ?_
    rintro e w2 ⟨rfl, hy2⟩
    clear hb1
    cases hd1 : smallF g with
    | true =>
      clear hd1
      have hE := (Ext.tr HE1.out hy2)
      have HFJ := Lib.hid ((HFI.out.ext HX0.out).ext hE)
      have HGJ := Lib.hid ((HGI.out.ext HX0.out).ext hE)
      have HXJ := Lib.hid (HX0.out.tr hE)
      replace c0 := hE.has c0
      replace c1 := hE.has c1
      replace c2 := hE.has c2
      replace c3 := hE.has c3
      replace c4 := hE.has c4
      replace c5 := hE.has c5
      replace c6 := hE.has c6
      replace c7 := hE.has c7
      replace c8 := hE.has c8
      replace c9 := hE.has c9
      replace c10 := hE.has c10
      replace d0 := hE.has d0
      replace d1 := hE.has d1
      replace d2 := hE.has d2
      replace d3 := hE.has d3
      replace d4 := hE.has d4
      replace d5 := hE.has d5
      replace d6 := hE.has d6
      replace d7 := hE.has d7
      replace d8 := hE.has d8
      replace d9 := hE.has d9
      replace d10 := hE.has d10
      clear hE
      go_wp2_with fail
      refine wp_region_ext (fun W => Ext w2 W) (by kernel_rfl) ((Ext.rf _).dr) (fun hS0 => ?_)
      refine take_op 0 (v := ?_) rfl (by kernel_rfl) (by kernel_rfl) (by kernel_rfl) (Or.inl ⟨by rfl, ?_⟩) (by assumption) ?_
      rotate_left 1
      · (intro W hS; have c0 := hS.has c0; have c1 := hS.has c1; have c2 := hS.has c2; have c3 := hS.has c3; have c4 := hS.has c4; have c5 := hS.has c5; have c6 := hS.has c6; have c7 := hS.has c7; have c8 := hS.has c8; have c9 := hS.has c9; have c10 := hS.has c10; have d0 := hS.has d0; have d1 := hS.has d1; have d2 := hS.has d2; have d3 := hS.has d3; have d4 := hS.has d4; have d5 := hS.has d5; have d6 := hS.has d6; have d7 := hS.has d7; have d8 := hS.has d8; have d9 := hS.has d9; have d10 := hS.has d10; go_simp; try with_reducible rfl)
      (try simp only [Act.put, List.setIfInBounds_toArray, List.set_cons_zero, List.set_cons_succ])
      refine take_op 1 (v := ?_) rfl (by kernel_rfl) (by kernel_rfl) (by kernel_rfl) (Or.inl ⟨by rfl, ?_⟩) (by assumption) ?_
      rotate_left 1
      · (intro W hS; have c0 := hS.has c0; have c1 := hS.has c1; have c2 := hS.has c2; have c3 := hS.has c3; have c4 := hS.has c4; have c5 := hS.has c5; have c6 := hS.has c6; have c7 := hS.has c7; have c8 := hS.has c8; have c9 := hS.has c9; have c10 := hS.has c10; have d0 := hS.has d0; have d1 := hS.has d1; have d2 := hS.has d2; have d3 := hS.has d3; have d4 := hS.has d4; have d5 := hS.has d5; have d6 := hS.has d6; have d7 := hS.has d7; have d8 := hS.has d8; have d9 := hS.has d9; have d10 := hS.has d10; go_simp; try with_reducible rfl)
      (try simp only [Act.put, List.setIfInBounds_toArray, List.set_cons_zero, List.set_cons_succ])
      refine take_op 3 (v := ?_) rfl (by kernel_rfl) (by kernel_rfl) (by kernel_rfl) (Or.inl ⟨by rfl, ?_⟩) (by assumption) ?_
      rotate_left 1
      · (intro W hS; have c0 := hS.has c0; have c1 := hS.has c1; have c2 := hS.has c2; have c3 := hS.has c3; have c4 := hS.has c4; have c5 := hS.has c5; have c6 := hS.has c6; have c7 := hS.has c7; have c8 := hS.has c8; have c9 := hS.has c9; have c10 := hS.has c10; have d0 := hS.has d0; have d1 := hS.has d1; have d2 := hS.has d2; have d3 := hS.has d3; have d4 := hS.has d4; have d5 := hS.has d5; have d6 := hS.has d6; have d7 := hS.has d7; have d8 := hS.has d8; have d9 := hS.has d9; have d10 := hS.has d10; go_simp; try with_reducible rfl)
      (try simp only [Act.put, List.setIfInBounds_toArray, List.set_cons_zero, List.set_cons_succ])
      refine take_op 4 (v := ?_) rfl (by kernel_rfl) (by kernel_rfl) (by kernel_rfl) (Or.inl ⟨by rfl, ?_⟩) (by assumption) ?_
      rotate_left 1
      · (intro W hS; have c0 := hS.has c0; have c1 := hS.has c1; have c2 := hS.has c2; have c3 := hS.has c3; have c4 := hS.has c4; have c5 := hS.has c5; have c6 := hS.has c6; have c7 := hS.has c7; have c8 := hS.has c8; have c9 := hS.has c9; have c10 := hS.has c10; have d0 := hS.has d0; have d1 := hS.has d1; have d2 := hS.has d2; have d3 := hS.has d3; have d4 := hS.has d4; have d5 := hS.has d5; have d6 := hS.has d6; have d7 := hS.has d7; have d8 := hS.has d8; have d9 := hS.has d9; have d10 := hS.has d10; go_simp; try with_reducible rfl)
      (try simp only [Act.put, List.setIfInBounds_toArray, List.set_cons_zero, List.set_cons_succ])
      refine do_op 2 rfl (by kernel_rfl) (fun K hK => ?_)
      go_simp; (with_reducible refine (fnc_Same A B f g _ (HFJ.out.ext (Ext.rf w2).dr) (HGJ.out.ext (Ext.rf w2).dr) HFB.out HGB.out).mono ?_); rintro e w3 ⟨rfl, hx3⟩; have hy3 := (Ext.rf w2).dr.tr hx3
      refine hK.out _ _ hy3 (fun hS => ?_)
      clear hK K
      (try simp only [Act.put, List.setIfInBounds_toArray, List.set_cons_zero, List.set_cons_succ])
      refine do_op 5 rfl (by kernel_rfl) (fun K hK => ?_)
      go_simp; (with_reducible refine (fncref_Same A B f g _ (HFJ.out.ext hy3) (HGJ.out.ext hy3) HFB.out HGB.out).mono ?_); rintro e w4 ⟨rfl, hx4⟩; have hy4 := hy3.tr hx4; have hq : (decide (f = g) == decide (f = g)) = true := by simp
      refine hK.out _ _ hy4 (fun hS => ?_)
      clear hK K
      (try simp only [Act.put, List.setIfInBounds_toArray, List.set_cons_zero, List.set_cons_succ])
      refine take_op 6 (v := ?_) rfl (by kernel_rfl) (by kernel_rfl) (by kernel_rfl) (Or.inl ⟨by rfl, ?_⟩) (by assumption) ?_
      rotate_left 1
      · (intro W hS; go_simp; try with_reducible rfl)
      (try simp only [Act.put, List.setIfInBounds_toArray, List.set_cons_zero, List.set_cons_succ])
      refine take_op 7 (v := ?_) rfl (by kernel_rfl) (by kernel_rfl) (by kernel_rfl) (Or.inl ⟨by rfl, ?_⟩) (by assumption) ?_
      rotate_left 1
      · (intro W hS; go_simp; try with_reducible rfl)
      (try simp only [Act.put, List.setIfInBounds_toArray, List.set_cons_zero, List.set_cons_succ])
      refine take_op 8 (v := ?_) rfl (by kernel_rfl) (by kernel_rfl) (by kernel_rfl) (Or.inl ⟨by rfl, ?_⟩) (by assumption) ?_
      rotate_left 1
      · (intro W hS; have c0 := hS.has c0; have c1 := hS.has c1; have c2 := hS.has c2; have c3 := hS.has c3; have c4 := hS.has c4; have c5 := hS.has c5; have c6 := hS.has c6; have c7 := hS.has c7; have c8 := hS.has c8; have c9 := hS.has c9; have c10 := hS.has c10; have d0 := hS.has d0; have d1 := hS.has d1; have d2 := hS.has d2; have d3 := hS.has d3; have d4 := hS.has d4; have d5 := hS.has d5; have d6 := hS.has d6; have d7 := hS.has d7; have d8 := hS.has d8; have d9 := hS.has d9; have d10 := hS.has d10; go_simp; try with_reducible rfl)
      (try simp only [Act.put, List.setIfInBounds_toArray, List.set_cons_zero, List.set_cons_succ])
      refine take_op 9 (v := ?_) rfl (by kernel_rfl) (by kernel_rfl) (by kernel_rfl) (Or.inl ⟨by rfl, ?_⟩) (by assumption) ?_
      rotate_left 1
      · (intro W hS; have c0 := hS.has c0; have c1 := hS.has c1; have c2 := hS.has c2; have c3 := hS.has c3; have c4 := hS.has c4; have c5 := hS.has c5; have c6 := hS.has c6; have c7 := hS.has c7; have c8 := hS.has c8; have c9 := hS.has c9; have c10 := hS.has c10; have d0 := hS.has d0; have d1 := hS.has d1; have d2 := hS.has d2; have d3 := hS.has d3; have d4 := hS.has d4; have d5 := hS.has d5; have d6 := hS.has d6; have d7 := hS.has d7; have d8 := hS.has d8; have d9 := hS.has d9; have d10 := hS.has d10; go_simp; try with_reducible rfl)
      (try simp only [Act.put, List.setIfInBounds_toArray, List.set_cons_zero, List.set_cons_succ])
      refine do_op 10 rfl (by kernel_rfl) (fun K hK => ?_)
      go_simp; (with_reducible refine (fnc_Same A A f f _ (HFJ.out.ext hy4) (HFJ.out.ext hy4) HFB.out HFB.out).mono ?_); rintro e w5 ⟨rfl, hx5⟩; have hy5 := hy4.tr hx5; have hq2 : decide (f = f) = true := by simp
      refine hK.out _ _ hy5 (fun hS => ?_)
      clear hK K
      (try simp only [Act.put, List.setIfInBounds_toArray, List.set_cons_zero, List.set_cons_succ])
      refine take_op 11 (v := ?_) rfl (by kernel_rfl) (by kernel_rfl) (by kernel_rfl) (Or.inl ⟨by rfl, ?_⟩) (by assumption) ?_
      rotate_left 1
      · (intro W hS; go_simp; try with_reducible rfl)
      (try simp only [Act.put, List.setIfInBounds_toArray, List.set_cons_zero, List.set_cons_succ])
      refine take_op 12 (v := ?_) rfl (by kernel_rfl) (by kernel_rfl) (by kernel_rfl) (Or.inl ⟨by rfl, ?_⟩) (by assumption) ?_
      rotate_left 1
      · (intro W hS; go_simp; try with_reducible rfl)
      (try simp only [Act.put, List.setIfInBounds_toArray, List.set_cons_zero, List.set_cons_succ])
      refine do_op 13 rfl (by kernel_rfl) (fun K hK => ?_)
      go_simp; (with_reducible refine (fnc_lives _).mono ?_); rintro e w6 ⟨rfl, hx6⟩; have hy6 := hy5.tr hx6
      refine hK.out _ _ hy6 (fun hS => ?_)
      clear hK K
      (try simp only [Act.put, List.setIfInBounds_toArray, List.set_cons_zero, List.set_cons_succ])
      refine take_op 14 (v := ?_) rfl (by kernel_rfl) (by kernel_rfl) (by kernel_rfl) (Or.inl ⟨by rfl, ?_⟩) (by assumption) ?_
      rotate_left 1
      · (intro W hS; go_simp; try with_reducible rfl)
      (try simp only [Act.put, List.setIfInBounds_toArray, List.set_cons_zero, List.set_cons_succ])
      refine take_op 15 (v := ?_) rfl (by kernel_rfl) (by kernel_rfl) (by kernel_rfl) (Or.inl ⟨by rfl, ?_⟩) (by assumption) ?_
      rotate_left 1
      · (intro W hS; go_simp; try with_reducible rfl)
      (try simp only [Act.put, List.setIfInBounds_toArray, List.set_cons_zero, List.set_cons_succ])
      refine wpAnyH_done (by kernel_rfl) ?_ _
      refine NoPanic.normal ?_
      go_wp2_with fail
      go_ret
      exact ⟨rfl, HXJ.out.tr hy6⟩
    | false =>
      clear hd1
      have HE := Lib.hid ((Ext.tr HE1.out hy2))
      go_wp2_with fail
      refine (fnc_lives _).mono ?_
      rintro e w9 ⟨rfl, hy9⟩
      go_wp2_with fail
      go_ret
      exact ⟨rfl, HX0.out.tr (HE.out.tr hy9)⟩
  | false =>
    clear hd0
    have HE := Lib.hid ((Ext.tr HE0.out hy1))
    go_wp2_with fail
    refine (fnc_lives _).mono ?_
    rintro e w9 ⟨rfl, hy9⟩
    go_wp2_with fail
    go_ret
    exact ⟨rfl, HX0.out.tr (HE.out.tr hy9)⟩
end Go.Proofs.Ytofdkhilapmccaa
