/- Whether a function has few of everything. -/
import Derived.Test.YtofdkhilapmccaaFncL
namespace Go.Proofs.Ytofdkhilapmccaa
open Go.RowKit

def smallF (f : FuncT) : Bool := decide ((f.code.length : Int) ≤ 150) && (decide ((f.lines.length : Int) ≤ 150) && (decide ((f.nodes.length : Int) ≤ 20) && (decide ((f.ats.length : Int) ≤ 150) && (decide ((f.live.length : Int) ≤ 150) && decide ((f.params.length : Int) + f.results.length + f.locs.length + f.outer.length ≤ 300)))))
structure SmallF (f : FuncT) : Prop where
  code : f.code.length ≤ 150
  lines : f.lines.length ≤ 150
  nodes : f.nodes.length ≤ 20
  ats : f.ats.length ≤ 150
  live : f.live.length ≤ 150
  types : f.params.length + f.results.length + f.locs.length + f.outer.length ≤ 300
theorem smallF_of {f : FuncT} (h : smallF f = true) : SmallF f := by
  simp only [smallF, Bool.and_eq_true, decide_eq_true_eq] at h
  obtain ⟨h1, h2, h3, h4, h5, h6⟩ := h
  exact ⟨by omega, by omega, by omega, by omega, by omega, by omega⟩

set_option maxHeartbeats 1000000 in
set_option maxRecDepth 20000 in
theorem fnc_Small (A : FuncA) (f : FuncT) (w : World) (bf : FuncB f) :
    Calls Try.prog 13 #[.agg #[.string f.name, .bool f.inner, .slice A.o1 f.outer.length A.c1, .slice A.o2 f.params.length A.c2, .slice A.o3 f.results.length A.c3, .slice A.o4 f.locs.length A.c4, .slice A.o5 f.code.length A.c5, .slice A.o6 f.lines.length A.c6, .slice A.o7 f.nodes.length A.c7, .slice A.o8 f.ats.length A.c8, .slice A.o9 f.live.length A.c9]] w fun e w' => e = .returned (.bool (smallF f)) ∧ Ext w w' := by
  have i1 := bf.n1
  have i2 := bf.n2
  have i3 := bf.n3
  have i4 := bf.n4
  clear bf
  go_enter Try.func13, Try.ntmps13
  go_upto_region 1 with fail
  obtain ⟨hx0, hz0, hcA⟩ := one_box w [.string f.name, .bool f.inner, .slice A.o1 f.outer.length A.c1, .slice A.o2 f.params.length A.c2, .slice A.o3 f.results.length A.c3, .slice A.o4 f.locs.length A.c4, .slice A.o5 f.code.length A.c5, .slice A.o6 f.lines.length A.c6, .slice A.o7 f.nodes.length A.c7, .slice A.o8 f.ats.length A.c8, .slice A.o9 f.live.length A.c9] 28
  generalize hW1 : w.alloc (.cells ([.string f.name, .bool f.inner, .slice A.o1 f.outer.length A.c1, .slice A.o2 f.params.length A.c2, .slice A.o3 f.results.length A.c3, .slice A.o4 f.locs.length A.c4, .slice A.o5 f.code.length A.c5, .slice A.o6 f.lines.length A.c6, .slice A.o7 f.nodes.length A.c7, .slice A.o8 f.ats.length A.c8, .slice A.o9 f.live.length A.c9] : List Value).toArray 28) = W1 at *
  clear hW1
  have c0 : W1.cell? ⟨w.heap.size, 0, none⟩ = some (.string f.name) := by have := hcA.cell _ _ rfl 0 _ rfl; rwa [Nat.zero_add] at this
  have c1 : W1.cell? ⟨w.heap.size, 1, none⟩ = some (.bool f.inner) := by have := hcA.cell _ _ rfl 1 _ rfl; rwa [Nat.zero_add] at this
  have c2 : W1.cell? ⟨w.heap.size, 2, none⟩ = some (.slice A.o1 f.outer.length A.c1) := by have := hcA.cell _ _ rfl 2 _ rfl; rwa [Nat.zero_add] at this
  have c3 : W1.cell? ⟨w.heap.size, 3, none⟩ = some (.slice A.o2 f.params.length A.c2) := by have := hcA.cell _ _ rfl 3 _ rfl; rwa [Nat.zero_add] at this
  have c4 : W1.cell? ⟨w.heap.size, 4, none⟩ = some (.slice A.o3 f.results.length A.c3) := by have := hcA.cell _ _ rfl 4 _ rfl; rwa [Nat.zero_add] at this
  have c5 : W1.cell? ⟨w.heap.size, 5, none⟩ = some (.slice A.o4 f.locs.length A.c4) := by have := hcA.cell _ _ rfl 5 _ rfl; rwa [Nat.zero_add] at this
  have c6 : W1.cell? ⟨w.heap.size, 6, none⟩ = some (.slice A.o5 f.code.length A.c5) := by have := hcA.cell _ _ rfl 6 _ rfl; rwa [Nat.zero_add] at this
  have c7 : W1.cell? ⟨w.heap.size, 7, none⟩ = some (.slice A.o6 f.lines.length A.c6) := by have := hcA.cell _ _ rfl 7 _ rfl; rwa [Nat.zero_add] at this
  have c8 : W1.cell? ⟨w.heap.size, 8, none⟩ = some (.slice A.o7 f.nodes.length A.c7) := by have := hcA.cell _ _ rfl 8 _ rfl; rwa [Nat.zero_add] at this
  have c9 : W1.cell? ⟨w.heap.size, 9, none⟩ = some (.slice A.o8 f.ats.length A.c8) := by have := hcA.cell _ _ rfl 9 _ rfl; rwa [Nat.zero_add] at this
  have c10 : W1.cell? ⟨w.heap.size, 10, none⟩ = some (.slice A.o9 f.live.length A.c9) := by have := hcA.cell _ _ rfl 10 _ rfl; rwa [Nat.zero_add] at this
  clear hcA
  have HX0 := Lib.hid hx0
  clear hx0
  have HR : Hid (smallF f = (decide ((f.code.length : Int) ≤ 150) && (decide ((f.lines.length : Int) ≤ 150) && (decide ((f.nodes.length : Int) ≤ 20) && (decide ((f.ats.length : Int) ≤ 150) && (decide ((f.live.length : Int) ≤ 150) && decide ((f.params.length : Int) + f.results.length + f.locs.length + f.outer.length ≤ 300))))))) := rfl
  have hb0 := bcell ((Ext.rf W1))
  rcases Bool.eq_false_or_eq_true (decide ((f.code.length : Int) ≤ 150)) with hd0 | hd0
  · skip
    replace HR := Lib.hid (HR.out.trans (by rw [hd0, Bool.true_and]))
    rcases Bool.eq_false_or_eq_true (decide ((f.lines.length : Int) ≤ 150)) with hd1 | hd1
    · skip
      replace HR := Lib.hid (HR.out.trans (by rw [hd1, Bool.true_and]))
      rcases Bool.eq_false_or_eq_true (decide ((f.nodes.length : Int) ≤ 20)) with hd2 | hd2
      · skip
        replace HR := Lib.hid (HR.out.trans (by rw [hd2, Bool.true_and]))
        rcases Bool.eq_false_or_eq_true (decide ((f.ats.length : Int) ≤ 150)) with hd3 | hd3
        · skip
          replace HR := Lib.hid (HR.out.trans (by rw [hd3, Bool.true_and]))
          rcases Bool.eq_false_or_eq_true (decide ((f.live.length : Int) ≤ 150)) with hd4 | hd4
          · skip
            replace HR := Lib.hid (HR.out.trans (by rw [hd4, Bool.true_and]))
            rcases Bool.eq_false_or_eq_true (decide ((f.params.length : Int) + f.results.length + f.locs.length + f.outer.length ≤ 300)) with hd5 | hd5
            · skip
              replace HR := Lib.hid (HR.out.trans (by rw [hd5]))
              go_wp2_with fail
              go_ret
              exact ⟨by rw [HR.out] <;> rfl, HX0.out.tr (Ext.rf W1)⟩
            · skip
              replace HR := Lib.hid (HR.out.trans (by rw [hd5]))
              go_wp2_with fail
              go_ret
              exact ⟨by rw [HR.out] <;> rfl, HX0.out.tr (Ext.rf W1)⟩
          · skip
            replace HR := Lib.hid (HR.out.trans (by rw [hd4, Bool.false_and]))
            go_wp2_with fail
            go_ret
            exact ⟨by rw [HR.out] <;> rfl, HX0.out.tr (Ext.rf W1)⟩
        · skip
          replace HR := Lib.hid (HR.out.trans (by rw [hd3, Bool.false_and]))
          go_wp2_with fail
          go_ret
          exact ⟨by rw [HR.out] <;> rfl, HX0.out.tr (Ext.rf W1)⟩
      · skip
        replace HR := Lib.hid (HR.out.trans (by rw [hd2, Bool.false_and]))
        go_wp2_with fail
        go_ret
        exact ⟨by rw [HR.out] <;> rfl, HX0.out.tr (Ext.rf W1)⟩
    · skip
      replace HR := Lib.hid (HR.out.trans (by rw [hd1, Bool.false_and]))
      go_wp2_with fail
      go_ret
      exact ⟨by rw [HR.out] <;> rfl, HX0.out.tr (Ext.rf W1)⟩
  · skip
    replace HR := Lib.hid (HR.out.trans (by rw [hd0, Bool.false_and]))
    go_wp2_with fail
    go_ret
    exact ⟨by rw [HR.out] <;> rfl, HX0.out.tr (Ext.rf W1)⟩
end Go.Proofs.Ytofdkhilapmccaa
