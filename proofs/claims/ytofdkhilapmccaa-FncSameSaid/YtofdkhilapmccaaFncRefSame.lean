/- Whether two functions are the same: the reference's. -/
import Derived.Test.YtofdkhilapmccaaFncSame
namespace Go.Proofs.Ytofdkhilapmccaa
open Go.RowKit

set_option maxHeartbeats 4000000 in
set_option maxRecDepth 20000 in
theorem fncref_Same (A B : FuncA) (f g : FuncT) (w : World) (hf : FuncIn w A f) (hg : FuncIn w B g) (bf : FuncB f) (bg : FuncB g) :
    Calls Try.prog 16 #[.agg #[.string f.name, .bool f.inner, .slice A.o1 f.outer.length A.c1, .slice A.o2 f.params.length A.c2, .slice A.o3 f.results.length A.c3, .slice A.o4 f.locs.length A.c4, .slice A.o5 f.code.length A.c5, .slice A.o6 f.lines.length A.c6, .slice A.o7 f.nodes.length A.c7, .slice A.o8 f.ats.length A.c8, .slice A.o9 f.live.length A.c9], .agg #[.string g.name, .bool g.inner, .slice B.o1 g.outer.length B.c1, .slice B.o2 g.params.length B.c2, .slice B.o3 g.results.length B.c3, .slice B.o4 g.locs.length B.c4, .slice B.o5 g.code.length B.c5, .slice B.o6 g.lines.length B.c6, .slice B.o7 g.nodes.length B.c7, .slice B.o8 g.ats.length B.c8, .slice B.o9 g.live.length B.c9]] w fun e w' => e = .returned (.bool (decide (f = g))) ∧ Ext w w' := by
  have HFB := Lib.hid bf
  have HGB := Lib.hid bg
  have HFI := Lib.hid hf
  have HGI := Lib.hid hg
  clear bf bg hf hg
  go_enter Try.func16, Try.ntmps16
  go_upto_region 1 with fail
  obtain ⟨hx0, hz0, hcA, hcB⟩ := two_boxes w [.string f.name, .bool f.inner, .slice A.o1 f.outer.length A.c1, .slice A.o2 f.params.length A.c2, .slice A.o3 f.results.length A.c3, .slice A.o4 f.locs.length A.c4, .slice A.o5 f.code.length A.c5, .slice A.o6 f.lines.length A.c6, .slice A.o7 f.nodes.length A.c7, .slice A.o8 f.ats.length A.c8, .slice A.o9 f.live.length A.c9] [.string g.name, .bool g.inner, .slice B.o1 g.outer.length B.c1, .slice B.o2 g.params.length B.c2, .slice B.o3 g.results.length B.c3, .slice B.o4 g.locs.length B.c4, .slice B.o5 g.code.length B.c5, .slice B.o6 g.lines.length B.c6, .slice B.o7 g.nodes.length B.c7, .slice B.o8 g.ats.length B.c8, .slice B.o9 g.live.length B.c9] 28 28
  generalize hW2 : (w.alloc (.cells ([.string f.name, .bool f.inner, .slice A.o1 f.outer.length A.c1, .slice A.o2 f.params.length A.c2, .slice A.o3 f.results.length A.c3, .slice A.o4 f.locs.length A.c4, .slice A.o5 f.code.length A.c5, .slice A.o6 f.lines.length A.c6, .slice A.o7 f.nodes.length A.c7, .slice A.o8 f.ats.length A.c8, .slice A.o9 f.live.length A.c9] : List Value).toArray 28)).alloc (.cells ([.string g.name, .bool g.inner, .slice B.o1 g.outer.length B.c1, .slice B.o2 g.params.length B.c2, .slice B.o3 g.results.length B.c3, .slice B.o4 g.locs.length B.c4, .slice B.o5 g.code.length B.c5, .slice B.o6 g.lines.length B.c6, .slice B.o7 g.nodes.length B.c7, .slice B.o8 g.ats.length B.c8, .slice B.o9 g.live.length B.c9] : List Value).toArray 28) = W2 at *
  clear hW2
  have c0 : W2.cell? ⟨w.heap.size, 0, none⟩ = some (.string f.name) := by have := hcA.cell _ _ rfl 0 _ rfl; rwa [Nat.zero_add] at this
  have c1 : W2.cell? ⟨w.heap.size, 1, none⟩ = some (.bool f.inner) := by have := hcA.cell _ _ rfl 1 _ rfl; rwa [Nat.zero_add] at this
  have c2 : W2.cell? ⟨w.heap.size, 2, none⟩ = some (.slice A.o1 f.outer.length A.c1) := by have := hcA.cell _ _ rfl 2 _ rfl; rwa [Nat.zero_add] at this
  have c3 : W2.cell? ⟨w.heap.size, 3, none⟩ = some (.slice A.o2 f.params.length A.c2) := by have := hcA.cell _ _ rfl 3 _ rfl; rwa [Nat.zero_add] at this
  have c4 : W2.cell? ⟨w.heap.size, 4, none⟩ = some (.slice A.o3 f.results.length A.c3) := by have := hcA.cell _ _ rfl 4 _ rfl; rwa [Nat.zero_add] at this
  have c5 : W2.cell? ⟨w.heap.size, 5, none⟩ = some (.slice A.o4 f.locs.length A.c4) := by have := hcA.cell _ _ rfl 5 _ rfl; rwa [Nat.zero_add] at this
  have c6 : W2.cell? ⟨w.heap.size, 6, none⟩ = some (.slice A.o5 f.code.length A.c5) := by have := hcA.cell _ _ rfl 6 _ rfl; rwa [Nat.zero_add] at this
  have c7 : W2.cell? ⟨w.heap.size, 7, none⟩ = some (.slice A.o6 f.lines.length A.c6) := by have := hcA.cell _ _ rfl 7 _ rfl; rwa [Nat.zero_add] at this
  have c8 : W2.cell? ⟨w.heap.size, 8, none⟩ = some (.slice A.o7 f.nodes.length A.c7) := by have := hcA.cell _ _ rfl 8 _ rfl; rwa [Nat.zero_add] at this
  have c9 : W2.cell? ⟨w.heap.size, 9, none⟩ = some (.slice A.o8 f.ats.length A.c8) := by have := hcA.cell _ _ rfl 9 _ rfl; rwa [Nat.zero_add] at this
  have c10 : W2.cell? ⟨w.heap.size, 10, none⟩ = some (.slice A.o9 f.live.length A.c9) := by have := hcA.cell _ _ rfl 10 _ rfl; rwa [Nat.zero_add] at this
  have d0 : W2.cell? ⟨w.heap.size + 1, 0, none⟩ = some (.string g.name) := by have := hcB.cell _ _ rfl 0 _ rfl; rwa [Nat.zero_add] at this
  have d1 : W2.cell? ⟨w.heap.size + 1, 1, none⟩ = some (.bool g.inner) := by have := hcB.cell _ _ rfl 1 _ rfl; rwa [Nat.zero_add] at this
  have d2 : W2.cell? ⟨w.heap.size + 1, 2, none⟩ = some (.slice B.o1 g.outer.length B.c1) := by have := hcB.cell _ _ rfl 2 _ rfl; rwa [Nat.zero_add] at this
  have d3 : W2.cell? ⟨w.heap.size + 1, 3, none⟩ = some (.slice B.o2 g.params.length B.c2) := by have := hcB.cell _ _ rfl 3 _ rfl; rwa [Nat.zero_add] at this
  have d4 : W2.cell? ⟨w.heap.size + 1, 4, none⟩ = some (.slice B.o3 g.results.length B.c3) := by have := hcB.cell _ _ rfl 4 _ rfl; rwa [Nat.zero_add] at this
  have d5 : W2.cell? ⟨w.heap.size + 1, 5, none⟩ = some (.slice B.o4 g.locs.length B.c4) := by have := hcB.cell _ _ rfl 5 _ rfl; rwa [Nat.zero_add] at this
  have d6 : W2.cell? ⟨w.heap.size + 1, 6, none⟩ = some (.slice B.o5 g.code.length B.c5) := by have := hcB.cell _ _ rfl 6 _ rfl; rwa [Nat.zero_add] at this
  have d7 : W2.cell? ⟨w.heap.size + 1, 7, none⟩ = some (.slice B.o6 g.lines.length B.c6) := by have := hcB.cell _ _ rfl 7 _ rfl; rwa [Nat.zero_add] at this
  have d8 : W2.cell? ⟨w.heap.size + 1, 8, none⟩ = some (.slice B.o7 g.nodes.length B.c7) := by have := hcB.cell _ _ rfl 8 _ rfl; rwa [Nat.zero_add] at this
  have d9 : W2.cell? ⟨w.heap.size + 1, 9, none⟩ = some (.slice B.o8 g.ats.length B.c8) := by have := hcB.cell _ _ rfl 9 _ rfl; rwa [Nat.zero_add] at this
  have d10 : W2.cell? ⟨w.heap.size + 1, 10, none⟩ = some (.slice B.o9 g.live.length B.c9) := by have := hcB.cell _ _ rfl 10 _ rfl; rwa [Nat.zero_add] at this
  clear hcA hcB
  have hz1 : w.heap.size < W2.heap.size := by omega
  have HX0 := Lib.hid hx0
  clear hx0
  by_cases h1 : f.name = g.name
  · have e1 : (f.name.toList == g.name.toList) = true := by rw [h1]; simp
    by_cases h2 : f.inner = g.inner
    · have e2 : (f.inner == g.inner) = true := by rw [h2]; simp
      have HR : Hid (decide (f = g) = (decide (f.outer = g.outer) && (decide (f.params = g.params) && (decide (f.results = g.results) && (decide (f.locs = g.locs) && (decide (f.code = g.code) && (decide (f.lines = g.lines) && (decide (f.nodes = g.nodes) && (decide (f.ats = g.ats) && decide (f.live = g.live)))))))))) := by
        rw [Hid, func_eq, headB, typesB, codeB]; simp only [h1, h2, Bool.and_assoc, decide_true, beq_self_eq_true, Bool.true_and]
      clear h1 h2
      have hE0 := Ext.rf W2
      have hb0 := bcell hE0
      have HE0 := Lib.hid hE0
      clear hE0
      go_wp2_with fail
      refine (sigref_Same _ _ _ _ _ _ _ ((HFI.out.ext HX0.out).ext HE0.out).h1 ((HGI.out.ext HX0.out).ext HE0.out).h1 HFB.out.n1 HGB.out.n1).mono ?_
      rintro e w1 ⟨rfl, hy1⟩
      cases hd0 : decide (f.outer = g.outer) with
      | true =>
        replace HR := Lib.hid (HR.out.trans (by rw [hd0, Bool.true_and]))
        clear hd0
        have hE1 := Ext.tr HE0.out hy1
        have hb1 := bcell hE1
        have HE1 := Lib.hid hE1
        clear hE1
        go_wp2_with fail
        refine (sigref_Same _ _ _ _ _ _ _ ((HFI.out.ext HX0.out).ext HE1.out).h2 ((HGI.out.ext HX0.out).ext HE1.out).h2 HFB.out.n2 HGB.out.n2).mono ?_
        rintro e w2 ⟨rfl, hy2⟩
        cases hd1 : decide (f.params = g.params) with
        | true =>
          replace HR := Lib.hid (HR.out.trans (by rw [hd1, Bool.true_and]))
          clear hd1
          have hE2 := Ext.tr HE1.out hy2
          have hb2 := bcell hE2
          have HE2 := Lib.hid hE2
          clear hE2
          go_wp2_with fail
          refine (sigref_Same _ _ _ _ _ _ _ ((HFI.out.ext HX0.out).ext HE2.out).h3 ((HGI.out.ext HX0.out).ext HE2.out).h3 HFB.out.n3 HGB.out.n3).mono ?_
          rintro e w3 ⟨rfl, hy3⟩
          cases hd2 : decide (f.results = g.results) with
          | true =>
            replace HR := Lib.hid (HR.out.trans (by rw [hd2, Bool.true_and]))
            clear hd2
            have hE3 := Ext.tr HE2.out hy3
            have hb3 := bcell hE3
            have HE3 := Lib.hid hE3
            clear hE3
            go_wp2_with fail
            refine (sigref_Same _ _ _ _ _ _ _ ((HFI.out.ext HX0.out).ext HE3.out).h4 ((HGI.out.ext HX0.out).ext HE3.out).h4 HFB.out.n4 HGB.out.n4).mono ?_
            rintro e w4 ⟨rfl, hy4⟩
            cases hd3 : decide (f.locs = g.locs) with
            | true =>
              replace HR := Lib.hid (HR.out.trans (by rw [hd3, Bool.true_and]))
              clear hd3
              have hE4 := Ext.tr HE3.out hy4
              have hb4 := bcell hE4
              have HE4 := Lib.hid hE4
              clear hE4
              go_wp2_with fail
              refine (instrref_Code _ _ _ _ _ _ _ ((HFI.out.ext HX0.out).ext HE4.out).h5 ((HGI.out.ext HX0.out).ext HE4.out).h5 HFB.out.n5 HGB.out.n5).mono ?_
              rintro e w5 ⟨rfl, hy5⟩
              cases hd4 : decide (f.code = g.code) with
              | true =>
                replace HR := Lib.hid (HR.out.trans (by rw [hd4, Bool.true_and]))
                clear hd4
                have hE5 := Ext.tr HE4.out hy5
                have hb5 := bcell hE5
                have HE5 := Lib.hid hE5
                clear hE5
                go_wp2_with fail
                refine (intref_Ints _ _ _ _ _ _ _ ((HFI.out.ext HX0.out).ext HE5.out).h6 ((HGI.out.ext HX0.out).ext HE5.out).h6 HFB.out.n6 HGB.out.n6).mono ?_
                rintro e w6 ⟨rfl, hy6⟩
                cases hd5 : decide (f.lines = g.lines) with
                | true =>
                  replace HR := Lib.hid (HR.out.trans (by rw [hd5, Bool.true_and]))
                  clear hd5
                  have hE6 := Ext.tr HE5.out hy6
                  have hb6 := bcell hE6
                  have HE6 := Lib.hid hE6
                  clear hE6
                  go_wp2_with fail
                  refine (noderef_Same _ _ _ _ _ _ _ ((HFI.out.ext HX0.out).ext HE6.out).h7 ((HGI.out.ext HX0.out).ext HE6.out).h7 HFB.out.n7 HGB.out.n7).mono ?_
                  rintro e w7 ⟨rfl, hy7⟩
                  cases hd6 : decide (f.nodes = g.nodes) with
                  | true =>
                    replace HR := Lib.hid (HR.out.trans (by rw [hd6, Bool.true_and]))
                    clear hd6
                    have hE7 := Ext.tr HE6.out hy7
                    have hb7 := bcell hE7
                    have HE7 := Lib.hid hE7
                    clear hE7
                    go_wp2_with fail
                    refine (intref_Ints _ _ _ _ _ _ _ ((HFI.out.ext HX0.out).ext HE7.out).h8 ((HGI.out.ext HX0.out).ext HE7.out).h8 HFB.out.n8 HGB.out.n8).mono ?_
                    rintro e w8 ⟨rfl, hy8⟩
                    cases hd7 : decide (f.ats = g.ats) with
                    | true =>
                      replace HR := Lib.hid (HR.out.trans (by rw [hd7, Bool.true_and]))
                      clear hd7
                      have hE8 := Ext.tr HE7.out hy8
                      have hb8 := bcell hE8
                      have HE8 := Lib.hid hE8
                      clear hE8
                      go_wp2_with fail
                      refine (setref_Same _ _ _ _ _ _ _ ((HFI.out.ext HX0.out).ext HE8.out).h9 ((HGI.out.ext HX0.out).ext HE8.out).h9 HFB.out.n9 HGB.out.n9).mono ?_
                      rintro e w9 ⟨rfl, hy9⟩
                      go_wp2_with fail
                      go_ret; exact ⟨by rw [HR.out] <;> rfl, HX0.out.tr (Ext.tr HE8.out hy9)⟩
                    | false =>
                      replace HR := Lib.hid (HR.out.trans (by rw [hd7, Bool.false_and]))
                      clear hd7
                      go_wp2_with fail
                      go_ret; exact ⟨by rw [HR.out] <;> rfl, HX0.out.tr (Ext.tr HE7.out hy8)⟩
                  | false =>
                    replace HR := Lib.hid (HR.out.trans (by rw [hd6, Bool.false_and]))
                    clear hd6
                    go_wp2_with fail
                    go_ret; exact ⟨by rw [HR.out] <;> rfl, HX0.out.tr (Ext.tr HE6.out hy7)⟩
                | false =>
                  replace HR := Lib.hid (HR.out.trans (by rw [hd5, Bool.false_and]))
                  clear hd5
                  go_wp2_with fail
                  go_ret; exact ⟨by rw [HR.out] <;> rfl, HX0.out.tr (Ext.tr HE5.out hy6)⟩
              | false =>
                replace HR := Lib.hid (HR.out.trans (by rw [hd4, Bool.false_and]))
                clear hd4
                go_wp2_with fail
                go_ret; exact ⟨by rw [HR.out] <;> rfl, HX0.out.tr (Ext.tr HE4.out hy5)⟩
            | false =>
              replace HR := Lib.hid (HR.out.trans (by rw [hd3, Bool.false_and]))
              clear hd3
              go_wp2_with fail
              go_ret; exact ⟨by rw [HR.out] <;> rfl, HX0.out.tr (Ext.tr HE3.out hy4)⟩
          | false =>
            replace HR := Lib.hid (HR.out.trans (by rw [hd2, Bool.false_and]))
            clear hd2
            go_wp2_with fail
            go_ret; exact ⟨by rw [HR.out] <;> rfl, HX0.out.tr (Ext.tr HE2.out hy3)⟩
        | false =>
          replace HR := Lib.hid (HR.out.trans (by rw [hd1, Bool.false_and]))
          clear hd1
          go_wp2_with fail
          go_ret; exact ⟨by rw [HR.out] <;> rfl, HX0.out.tr (Ext.tr HE1.out hy2)⟩
      | false =>
        replace HR := Lib.hid (HR.out.trans (by rw [hd0, Bool.false_and]))
        clear hd0
        go_wp2_with fail
        go_ret; exact ⟨by rw [HR.out] <;> rfl, HX0.out.tr (Ext.tr HE0.out hy1)⟩
    · have e2 : (f.inner == g.inner) = false := by simpa using h2
      have HR : Hid (decide (f = g) = false) := by simp only [Hid, decide_eq_false_iff_not]; exact fun e => h2 (by rw [e])
      clear h1 h2
      go_wp2_with fail
      go_ret
      exact ⟨by rw [HR.out] <;> rfl, HX0.out⟩
  · have e1 : (f.name.toList == g.name.toList) = false := by
      rw [strEq, decide_eq_false]
      exact fun e => h1 (ByteArray.ext (Array.toList_inj.1 e))
    have HR : Hid (decide (f = g) = false) := by simp only [Hid, decide_eq_false_iff_not]; exact fun e => h1 (by rw [e])
    clear h1
    go_wp2_with fail
    go_ret
    exact ⟨by rw [HR.out] <;> rfl, HX0.out⟩
end Go.Proofs.Ytofdkhilapmccaa
