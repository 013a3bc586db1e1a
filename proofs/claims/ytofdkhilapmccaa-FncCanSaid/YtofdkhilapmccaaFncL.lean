/- The law's own example: a function that returns. -/
import Derived.Test.YtofdkhilapmccaaFncC
import Derived.Test.YtofdkhilapmccaaFncSame
namespace Go.Proofs.Ytofdkhilapmccaa
open Go.RowKit

/-- A function that returns, and none. -/
def retF : FuncT := ⟨⟨#[102]⟩, false, [], [], [], [], [(25, 0)], [1], [], [], []⟩
def noF : FuncT := ⟨⟨#[]⟩, false, [], [], [], [], [], [], [], [], []⟩
def retA (g : Nat) : FuncA := ⟨none, 0, none, 0, none, 0, none, 0, some ⟨g, 0, none⟩, 1, some ⟨g + 1, 0, none⟩, 1, none, 0, none, 0, none, 0⟩
def noA : FuncA := ⟨none, 0, none, 0, none, 0, none, 0, none, 0, none, 0, none, 0, none, 0, none, 0⟩
theorem noF_in (w : World) : FuncIn w noA noF := ⟨Cells.nil _ _, Cells.nil _ _, Cells.nil _ _, Cells.nil _ _, Cells.nil _ _, Cells.nil _ _, Cells.nil _ _, Cells.nil _ _, Cells.nil _ _⟩
theorem retF_in (w : World) (g : Nat) (h1 : Cells w (some ⟨g, 0, none⟩) [.int .i64 25, .int .i64 0]) (h2 : Cells w (some ⟨g + 1, 0, none⟩) [.int .i64 1]) : FuncIn w (retA g) retF :=
  ⟨Cells.nil _ _, Cells.nil _ _, Cells.nil _ _, Cells.nil _ _, h1, h2, Cells.nil _ _, Cells.nil _ _, Cells.nil _ _⟩
theorem noF_b : FuncB noF := by constructor <;> simp [noF] <;> decide
theorem retF_b : FuncB retF := by constructor <;> simp [retF, I64] <;> decide

def tablesBare (f : FuncT) : Prop := bareF f = true
set_option maxRecDepth 20000 in
theorem fnc_tables_bare (A : FuncA) (f : FuncT) (w : World) (bf : FuncB f) (hb : bareF f = true) :
    Calls Try.prog 106 #[.agg #[.string f.name, .bool f.inner, .slice A.o1 f.outer.length A.c1, .slice A.o2 f.params.length A.c2, .slice A.o3 f.results.length A.c3, .slice A.o4 f.locs.length A.c4, .slice A.o5 f.code.length A.c5, .slice A.o6 f.lines.length A.c6, .slice A.o7 f.nodes.length A.c7, .slice A.o8 f.ats.length A.c8, .slice A.o9 f.live.length A.c9]] w fun e w' => e = .returned (.bool true) ∧ Ext w w' := by
  have HFB := Lib.hid bf
  have HB := Lib.hid hb
  clear bf hb
  go_enter Try.func106, Try.ntmps106
  go_upto_region 1 with fail
  obtain ⟨hx0, hz0, hcA⟩ := one_box w [.string f.name, .bool f.inner, .slice A.o1 f.outer.length A.c1, .slice A.o2 f.params.length A.c2, .slice A.o3 f.results.length A.c3, .slice A.o4 f.locs.length A.c4, .slice A.o5 f.code.length A.c5, .slice A.o6 f.lines.length A.c6, .slice A.o7 f.nodes.length A.c7, .slice A.o8 f.ats.length A.c8, .slice A.o9 f.live.length A.c9] 28
  generalize hW1 : w.alloc (.cells ([.string f.name, .bool f.inner, .slice A.o1 f.outer.length A.c1, .slice A.o2 f.params.length A.c2, .slice A.o3 f.results.length A.c3, .slice A.o4 f.locs.length A.c4, .slice A.o5 f.code.length A.c5, .slice A.o6 f.lines.length A.c6, .slice A.o7 f.nodes.length A.c7, .slice A.o8 f.ats.length A.c8, .slice A.o9 f.live.length A.c9] : List Value).toArray 28) = W1 at *
  clear hW1
  have c0 : W1.cell? ⟨w.heap.size, 0, none⟩ = some (.string f.name) := by have := hcA.cell _ _ rfl 0 _ rfl; rwa [Nat.zero_add] at this
  have c1 : W1.cell? ⟨w.heap.size, 1, none⟩ = some (.bool f.inner) := by have := hcA.cell _ _ rfl 1 _ rfl; rwa [Nat.zero_add] at this
  have c2 : W1.cell? ⟨w.heap.size, 2, none⟩ = some (.slice A.o1 f.outer.length A.c1) := by have := hcA.cell _ _ rfl 2 _ rfl; rwa [Nat.zero_add] at this
  have c3 : W1.cell? ⟨w.heap.size, 3, none⟩ = some (.slice A.o2 f.params.length A.c2) := by have := hcA.cell _ _ rfl 3 _ rfl; rwa [Nat.zero_add] at this
  have c4 : W1.cell? ⟨w.heap.size, 4, none⟩ = some (.slice A.o3 f.results.length A.c3) := by have := hcA.cell _ _ rfl 4 _ rfl; rwa [Nat.zero_add] at this
  have c5 : W1.cell? ⟨w.heap.size, 5, none⟩ = some (.slice A.o4 f.locs.length A.c4) := by have := hcA.cell _ _ rfl 5 _ rfl; rwa [Nat.zero_add] at this
  have c6 : W1.cell? ⟨w.heap.size, 6, none⟩ = some (.slice A.o5 f.code.length A.c5) := by have := hcA.cell _ _ rfl 6 _ rfl; rwa [Nat.zero_add] at this
  have c7 : W1.cell? ⟨w.heap.size, 7, none⟩ = some (.slice A.o6 f.lines.length A.c6) := by have := hcA.cell _ _ rfl 7 _ rfl; rwa [Nat.zero_add] at this
  have c8 : W1.cell? ⟨w.heap.size, 8, none⟩ = some (.slice A.o7 f.nodes.length A.c7) := by have := hcA.cell _ _ rfl 8 _ rfl; rwa [Nat.zero_add] at this
  have c9 : W1.cell? ⟨w.heap.size, 9, none⟩ = some (.slice A.o8 f.ats.length A.c8) := by have := hcA.cell _ _ rfl 9 _ rfl; rwa [Nat.zero_add] at this
  have c10 : W1.cell? ⟨w.heap.size, 10, none⟩ = some (.slice A.o9 f.live.length A.c9) := by have := hcA.cell _ _ rfl 10 _ rfl; rwa [Nat.zero_add] at this
  clear hcA
  have HX0 := Lib.hid hx0
  clear hx0
  go_wp2_with fail
  refine (fnc_Bare A f _ HFB.out).mono ?_
  rw [HB.out]
  rintro e w1 ⟨rfl, hx1⟩
  go_wp2_with fail
  go_ret
  exact ⟨rfl, HX0.out.tr hx1⟩

def noV : Value := .agg #[.string noF.name, .bool noF.inner, .slice noA.o1 noF.outer.length noA.c1, .slice noA.o2 noF.params.length noA.c2, .slice noA.o3 noF.results.length noA.c3, .slice noA.o4 noF.locs.length noA.c4, .slice noA.o5 noF.code.length noA.c5, .slice noA.o6 noF.lines.length noA.c6, .slice noA.o7 noF.nodes.length noA.c7, .slice noA.o8 noF.ats.length noA.c8, .slice noA.o9 noF.live.length noA.c9]
theorem can_noF (w : World) : Calls Try.prog 47 #[.agg #[.string ⟨#[]⟩, .bool false, .slice none 0 0, .slice none 0 0, .slice none 0 0, .slice none 0 0, .slice none 0 0, .slice none 0 0, .slice none 0 0, .slice none 0 0, .slice none 0 0]] w fun e w' => e = .returned (.int .i64 7) ∧ Ext w w' :=
  fnc_CanT noA noF w (noF_in w) noF_b true (fun W _ => fnc_tables_bare noA noF W noF_b rfl)
theorem can_retF (w : World) (g g' : Nat) (hg : g' = g + 1) (h1 : Cells w (some ⟨g, 0, none⟩) [.int .i64 25, .int .i64 0]) (h2 : Cells w (some ⟨g', 0, none⟩) [.int .i64 1]) : Calls Try.prog 47 #[.agg #[.string ⟨#[102]⟩, .bool false, .slice none 0 0, .slice none 0 0, .slice none 0 0, .slice none 0 0, .slice (some ⟨g, 0, none⟩) 1 1, .slice (some ⟨g', 0, none⟩) 1 1, .slice none 0 0, .slice none 0 0, .slice none 0 0]] w fun e w' => e = .returned (.int .i64 0) ∧ Ext w w' := by
  subst hg
  exact fnc_CanT (retA g) retF w (retF_in w g h1 h2) retF_b true (fun W _ => fnc_tables_bare (retA g) retF W retF_b rfl)
theorem bare_retF (w : World) (g g' : Nat) (hg : g' = g + 1) : Calls Try.prog 49 #[.agg #[.string ⟨#[102]⟩, .bool false, .slice none 0 0, .slice none 0 0, .slice none 0 0, .slice none 0 0, .slice (some ⟨g, 0, none⟩) 1 1, .slice (some ⟨g', 0, none⟩) 1 1, .slice none 0 0, .slice none 0 0, .slice none 0 0]] w fun e w' => e = .returned (.bool true) ∧ Ext w w' := by
  subst hg
  exact fnc_Bare (retA g) retF w retF_b
theorem same_retF (w : World) (g g' : Nat) (hg : g' = g + 1) (h1 : Cells w (some ⟨g, 0, none⟩) [.int .i64 25, .int .i64 0]) (h2 : Cells w (some ⟨g', 0, none⟩) [.int .i64 1]) :
    Calls Try.prog 15 #[.agg #[.string ⟨#[102]⟩, .bool false, .slice none 0 0, .slice none 0 0, .slice none 0 0, .slice none 0 0, .slice (some ⟨g, 0, none⟩) 1 1, .slice (some ⟨g', 0, none⟩) 1 1, .slice none 0 0, .slice none 0 0, .slice none 0 0], .agg #[.string ⟨#[102]⟩, .bool false, .slice none 0 0, .slice none 0 0, .slice none 0 0, .slice none 0 0, .slice (some ⟨g, 0, none⟩) 1 1, .slice (some ⟨g', 0, none⟩) 1 1, .slice none 0 0, .slice none 0 0, .slice none 0 0]] w fun e w' => e = .returned (.bool true) ∧ Ext w w' := by
  subst hg
  exact (fnc_Same (retA g) (retA g) retF retF w (retF_in w g h1 h2) (retF_in w g h1 h2) retF_b retF_b).mono fun e w' h => ⟨by rw [h.1]; simp, h.2⟩
theorem same_noF (w : World) (g g' : Nat) (hg : g' = g + 1) (h1 : Cells w (some ⟨g, 0, none⟩) [.int .i64 25, .int .i64 0]) (h2 : Cells w (some ⟨g', 0, none⟩) [.int .i64 1]) :
    Calls Try.prog 15 #[.agg #[.string ⟨#[102]⟩, .bool false, .slice none 0 0, .slice none 0 0, .slice none 0 0, .slice none 0 0, .slice (some ⟨g, 0, none⟩) 1 1, .slice (some ⟨g', 0, none⟩) 1 1, .slice none 0 0, .slice none 0 0, .slice none 0 0], .agg #[.string ⟨#[]⟩, .bool false, .slice none 0 0, .slice none 0 0, .slice none 0 0, .slice none 0 0, .slice none 0 0, .slice none 0 0, .slice none 0 0, .slice none 0 0, .slice none 0 0]] w fun e w' => e = .returned (.bool false) ∧ Ext w w' := by
  subst hg
  exact (fnc_Same (retA g) noA retF noF w (retF_in w g h1 h2) (noF_in w) retF_b noF_b).mono fun e w' h => ⟨by rw [h.1]; rfl, h.2⟩

set_option maxHeartbeats 1000000 in
set_option maxRecDepth 20000 in
theorem fnc_lives (w : World) : Calls Try.prog 14 #[] w fun e w' => e = .returned (.bool true) ∧ Ext w w' := by
  go_enter Try.func14, Try.ntmps14
  go_upto_region 2 with fail
  have hA0 : Cells (w.alloc (.cells ([.int .i64 25, .int .i64 0] : List Value).toArray 49)) (some ⟨w.heap.size, 0, none⟩) [.int .i64 25, .int .i64 0] := cells_new w _ _ _ rfl
  have hB0 : Cells ((w.alloc (.cells ([.int .i64 25, .int .i64 0] : List Value).toArray 49)).alloc (.cells ([.int .i64 1] : List Value).toArray 3)) (some ⟨w.heap.size + 1, 0, none⟩) [.int .i64 1] := cells_new _ _ _ _ (by simp)
  have hE0 : Ext w ((w.alloc (.cells ([.int .i64 25, .int .i64 0] : List Value).toArray 49)).alloc (.cells ([.int .i64 1] : List Value).toArray 3)) := ((Ext.rf w).al _).al _
  have hz0 : ((w.alloc (.cells ([.int .i64 25, .int .i64 0] : List Value).toArray 49)).alloc (.cells ([.int .i64 1] : List Value).toArray 3)).heap.size = w.heap.size + 1 + 1 := by simp
  have hA1 := hA0.ext ((Ext.rf _).al (.cells ([.int .i64 1] : List Value).toArray 3))
  generalize (w.alloc (.cells ([.int .i64 25, .int .i64 0] : List Value).toArray 49)).alloc (.cells ([.int .i64 1] : List Value).toArray 3) = Wa at *
  obtain ⟨hx0, hz1, hcA⟩ := one_box Wa ([.string ⟨#[102]⟩, .bool false, .slice none 0 0, .slice none 0 0, .slice none 0 0, .slice none 0 0, .slice (some ⟨w.heap.size, 0, none⟩) 1 1, .slice (some ⟨w.heap.size + 1, 0, none⟩) 1 1, .slice none 0 0, .slice none 0 0, .slice none 0 0] : List Value) 28
  generalize Wa.alloc (.cells ([.string ⟨#[102]⟩, .bool false, .slice none 0 0, .slice none 0 0, .slice none 0 0, .slice none 0 0, .slice (some ⟨w.heap.size, 0, none⟩) 1 1, .slice (some ⟨w.heap.size + 1, 0, none⟩) 1 1, .slice none 0 0, .slice none 0 0, .slice none 0 0] : List Value).toArray 28) = W1 at *
  rw [hz0] at hcA hz1
  have hA := Lib.hid (hA1.ext hx0)
  have hB := Lib.hid (hB0.ext hx0)
  have HX0 := Lib.hid (hE0.tr hx0)
  clear hA0 hA1 hB0 hE0 hx0 hz0
  have c0 : W1.cell? ⟨w.heap.size + 1 + 1, 0, none⟩ = some (.string ⟨#[102]⟩) := by have := hcA.cell _ _ rfl 0 _ rfl; rwa [Nat.zero_add] at this
  have c1 : W1.cell? ⟨w.heap.size + 1 + 1, 1, none⟩ = some (.bool false) := by have := hcA.cell _ _ rfl 1 _ rfl; rwa [Nat.zero_add] at this
  have c2 : W1.cell? ⟨w.heap.size + 1 + 1, 2, none⟩ = some (.slice none 0 0) := by have := hcA.cell _ _ rfl 2 _ rfl; rwa [Nat.zero_add] at this
  have c3 : W1.cell? ⟨w.heap.size + 1 + 1, 3, none⟩ = some (.slice none 0 0) := by have := hcA.cell _ _ rfl 3 _ rfl; rwa [Nat.zero_add] at this
  have c4 : W1.cell? ⟨w.heap.size + 1 + 1, 4, none⟩ = some (.slice none 0 0) := by have := hcA.cell _ _ rfl 4 _ rfl; rwa [Nat.zero_add] at this
  have c5 : W1.cell? ⟨w.heap.size + 1 + 1, 5, none⟩ = some (.slice none 0 0) := by have := hcA.cell _ _ rfl 5 _ rfl; rwa [Nat.zero_add] at this
  have c6 : W1.cell? ⟨w.heap.size + 1 + 1, 6, none⟩ = some (.slice (some ⟨w.heap.size, 0, none⟩) 1 1) := by have := hcA.cell _ _ rfl 6 _ rfl; rwa [Nat.zero_add] at this
  have c7 : W1.cell? ⟨w.heap.size + 1 + 1, 7, none⟩ = some (.slice (some ⟨w.heap.size + 1, 0, none⟩) 1 1) := by have := hcA.cell _ _ rfl 7 _ rfl; rwa [Nat.zero_add] at this
  have c8 : W1.cell? ⟨w.heap.size + 1 + 1, 8, none⟩ = some (.slice none 0 0) := by have := hcA.cell _ _ rfl 8 _ rfl; rwa [Nat.zero_add] at this
  have c9 : W1.cell? ⟨w.heap.size + 1 + 1, 9, none⟩ = some (.slice none 0 0) := by have := hcA.cell _ _ rfl 9 _ rfl; rwa [Nat.zero_add] at this
  have c10 : W1.cell? ⟨w.heap.size + 1 + 1, 10, none⟩ = some (.slice none 0 0) := by have := hcA.cell _ _ rfl 10 _ rfl; rwa [Nat.zero_add] at this
  clear hcA
  have hb0 := bcell (Ext.rf W1)
  go_wp2_with fail
  refine (can_retF _ _ _ rfl (hA.out.ext (Ext.rf W1)) (hB.out.ext (Ext.rf W1))).mono ?_
  rintro e w1 ⟨rfl, hy1⟩
  clear hb0
  have HE1 := Lib.hid (Ext.tr (Ext.rf W1) hy1)
  clear hy1
  have hb1 := bcell HE1.out
  go_wp2_with fail
  refine (can_noF _).mono ?_
  rintro e w2 ⟨rfl, hy2⟩
  clear hb1
  have HE2 := Lib.hid (Ext.tr HE1.out hy2)
  clear hy2
  have hb2 := bcell HE2.out
  go_wp2_with fail
  refine (bare_retF _ _ _ rfl).mono ?_
  rintro e w3 ⟨rfl, hy3⟩
  clear hb2
  have HE3 := Lib.hid (Ext.tr HE2.out hy3)
  clear hy3
  have hb3 := bcell HE3.out
  go_wp2_with fail
  refine (same_retF _ _ _ rfl (hA.out.ext HE3.out) (hB.out.ext HE3.out)).mono ?_
  rintro e w4 ⟨rfl, hy4⟩
  clear hb3
  have HE4 := Lib.hid (Ext.tr HE3.out hy4)
  clear hy4
  have hb4 := bcell HE4.out
  go_wp2_with fail
  refine (same_noF _ _ _ rfl (hA.out.ext HE4.out) (hB.out.ext HE4.out)).mono ?_
  rintro e w5 ⟨rfl, hy5⟩
  clear hb4
  have HE5 := Lib.hid (Ext.tr HE4.out hy5)
  clear hy5
  go_wp2_with fail
  go_ret
  exact ⟨rfl, HX0.out.tr HE5.out⟩
end Go.Proofs.Ytofdkhilapmccaa
