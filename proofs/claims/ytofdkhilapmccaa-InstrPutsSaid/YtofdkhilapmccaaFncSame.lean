/- Whether two functions are the same: fnc.Same. -/
import Derived.Test.YtofdkhilapmccaaEquals
import Derived.Test.YtofdkhilapmccaaEquals2
import Derived.Test.YtofdkhilapmccaaSigM
import Derived.Deep.DeepCutAuto
namespace Go.Proofs.Ytofdkhilapmccaa
open Go.RowKit

def headB (f g : FuncT) : Bool := decide (f.name = g.name) && f.inner == g.inner && decide (f.outer = g.outer)
def typesB (f g : FuncT) : Bool := decide (f.params = g.params) && decide (f.results = g.results) && decide (f.locs = g.locs)
def codeB (f g : FuncT) : Bool := decide (f.code = g.code) && decide (f.lines = g.lines)
theorem func_eq (f g : FuncT) : decide (f = g) = (headB f g && typesB f g && codeB f g && decide (f.nodes = g.nodes) && decide (f.ats = g.ats) && decide (f.live = g.live)) := by
  cases f; cases g
  simp only [headB, typesB, codeB, FuncT.mk.injEq]
  rw [Bool.eq_iff_iff]
  simp only [decide_eq_true_eq, Bool.and_eq_true, beq_iff_eq, and_assoc]

theorem bcell {W w1 : World} (hb : Ext W w1) : ∀ b o, b < W.heap.size → w1.cell? ⟨b, o, none⟩ = W.cell? ⟨b, o, none⟩ :=
  fun b o h => hb.cell (p := ⟨b, o, none⟩) h

theorem two_boxes (w : World) (cs ds : List Value) (t u : TypeId) :
    Ext w ((w.alloc (.cells cs.toArray t)).alloc (.cells ds.toArray u)) ∧ w.heap.size + 1 < ((w.alloc (.cells cs.toArray t)).alloc (.cells ds.toArray u)).heap.size ∧
    Cells ((w.alloc (.cells cs.toArray t)).alloc (.cells ds.toArray u)) (some ⟨w.heap.size, 0, none⟩) cs ∧ Cells ((w.alloc (.cells cs.toArray t)).alloc (.cells ds.toArray u)) (some ⟨w.heap.size + 1, 0, none⟩) ds :=
  ⟨((Ext.rf w).al _).al _, by simp, (cells_new w cs t _ rfl).ext ((Ext.rf _).al _), cells_new _ ds u _ (by simp)⟩

set_option maxHeartbeats 2000000 in
set_option maxRecDepth 20000 in
theorem fnc_Same (A B : FuncA) (f g : FuncT) (w : World) (hf : FuncIn w A f) (hg : FuncIn w B g) (bf : FuncB f) (bg : FuncB g) :
    Calls Try.prog 15 #[.agg #[.string f.name, .bool f.inner, .slice A.o1 f.outer.length A.c1, .slice A.o2 f.params.length A.c2, .slice A.o3 f.results.length A.c3, .slice A.o4 f.locs.length A.c4, .slice A.o5 f.code.length A.c5, .slice A.o6 f.lines.length A.c6, .slice A.o7 f.nodes.length A.c7, .slice A.o8 f.ats.length A.c8, .slice A.o9 f.live.length A.c9], .agg #[.string g.name, .bool g.inner, .slice B.o1 g.outer.length B.c1, .slice B.o2 g.params.length B.c2, .slice B.o3 g.results.length B.c3, .slice B.o4 g.locs.length B.c4, .slice B.o5 g.code.length B.c5, .slice B.o6 g.lines.length B.c6, .slice B.o7 g.nodes.length B.c7, .slice B.o8 g.ats.length B.c8, .slice B.o9 g.live.length B.c9]] w fun e w' => e = .returned (.bool (decide (f = g))) ∧ Ext w w' := by
  have HFB := Lib.hid bf
  have HGB := Lib.hid bg
  have HFI := Lib.hid hf
  have HGI := Lib.hid hg
  clear bf bg hf hg
  go_enter Try.func15, Try.ntmps15
  go_upto_region 1 with fail
  obtain ⟨hx0, hz0, hcA, hcB⟩ := two_boxes w [.string f.name, .bool f.inner, .slice A.o1 f.outer.length A.c1, .slice A.o2 f.params.length A.c2, .slice A.o3 f.results.length A.c3, .slice A.o4 f.locs.length A.c4, .slice A.o5 f.code.length A.c5, .slice A.o6 f.lines.length A.c6, .slice A.o7 f.nodes.length A.c7, .slice A.o8 f.ats.length A.c8, .slice A.o9 f.live.length A.c9] [.string g.name, .bool g.inner, .slice B.o1 g.outer.length B.c1, .slice B.o2 g.params.length B.c2, .slice B.o3 g.results.length B.c3, .slice B.o4 g.locs.length B.c4, .slice B.o5 g.code.length B.c5, .slice B.o6 g.lines.length B.c6, .slice B.o7 g.nodes.length B.c7, .slice B.o8 g.ats.length B.c8, .slice B.o9 g.live.length B.c9] 28 28
  generalize hW2 : (w.alloc (.cells ([.string f.name, .bool f.inner, .slice A.o1 f.outer.length A.c1, .slice A.o2 f.params.length A.c2, .slice A.o3 f.results.length A.c3, .slice A.o4 f.locs.length A.c4, .slice A.o5 f.code.length A.c5, .slice A.o6 f.lines.length A.c6, .slice A.o7 f.nodes.length A.c7, .slice A.o8 f.ats.length A.c8, .slice A.o9 f.live.length A.c9] : List Value).toArray 28)).alloc (.cells ([.string g.name, .bool g.inner, .slice B.o1 g.outer.length B.c1, .slice B.o2 g.params.length B.c2, .slice B.o3 g.results.length B.c3, .slice B.o4 g.locs.length B.c4, .slice B.o5 g.code.length B.c5, .slice B.o6 g.lines.length B.c6, .slice B.o7 g.nodes.length B.c7, .slice B.o8 g.ats.length B.c8, .slice B.o9 g.live.length B.c9] : List Value).toArray 28) = W2 at *
  clear hW2
  have c0 : W2.cell? ⟨w.heap.size, 0, none⟩ = some (.string f.name) := by have := hcA.cell _ _ rfl 0 _ rfl; rwa [Nat.zero_add] at this
  have c1 : W2.cell? ⟨w.heap.size, 1, none⟩ = some (.bool f.inner) := by have := hcA.cell _ _ rfl 1 _ rfl; rwa [Nat.zero_add] at this
  have c2 : W2.cell? ⟨w.heap.size, 2, none⟩ = some (.slice A.o1 f.outer.length A.c1) := by have := hcA.cell _ _ rfl 2 _ rfl; rwa [Nat.zero_add] at this
  have c3 : W2.cell? ⟨w.heap.size, 3, none⟩ = some (.slice A.o2 f.params.length A.c2) := by have := hcA.cell _ _ rfl 3 _ rfl; rwa [Nat.zero_add] at this
  have c4 : W2.cell? ⟨w.heap.size, 4, none⟩ = some (.slice A.o3 f.results.length A.c3) := by have := hcA.cell _ _ rfl 4 _ rfl; rwa [Nat.zero_add] at this
  have c5 : W2.cell? ⟨w.heap.size, 5, none⟩ = some (.slice A.o4 f.locs.length A.c4) := by have := hcA.cell _ _ rfl 5 _ rfl; rwa [Nat.zero_add] at this
  have c6 : W2.cell? ⟨w.heap.size, 6, none⟩ = some (.slice A.o5 f.code.length A.c5) := by have := hcA.cell _ _ rfl 6 _ rfl; rwa [Nat.zero_add] at this
  have c7 : W2.cell? ⟨w.heap.size, 7, none⟩ = some (.slice A.o6 f.lines.length A.c6) := by have := hcA.cell _ _ rfl 7 _ rfl; rwa [Nat.zero_add] at this
  have c8 : W2.cell? ⟨w.heap.size, 8, none⟩ = some (.slice A.o7 f.nodes.length A.c7) := by have := hcA.cell _ _ rfl 8 _ rfl; rwa [Nat.zero_add] at this
  have c9 : W2.cell? ⟨w.heap.size, 9, none⟩ = some (.slice A.o8 f.ats.length A.c8) := by have := hcA.cell _ _ rfl 9 _ rfl; rwa [Nat.zero_add] at this
  have c10 : W2.cell? ⟨w.heap.size, 10, none⟩ = some (.slice A.o9 f.live.length A.c9) := by have := hcA.cell _ _ rfl 10 _ rfl; rwa [Nat.zero_add] at this
  have d0 : W2.cell? ⟨w.heap.size + 1, 0, none⟩ = some (.string g.name) := by have := hcB.cell _ _ rfl 0 _ rfl; rwa [Nat.zero_add] at this
  have d1 : W2.cell? ⟨w.heap.size + 1, 1, none⟩ = some (.bool g.inner) := by have := hcB.cell _ _ rfl 1 _ rfl; rwa [Nat.zero_add] at this
  have d2 : W2.cell? ⟨w.heap.size + 1, 2, none⟩ = some (.slice B.o1 g.outer.length B.c1) := by have := hcB.cell _ _ rfl 2 _ rfl; rwa [Nat.zero_add] at this
  have d3 : W2.cell? ⟨w.heap.size + 1, 3, none⟩ = some (.slice B.o2 g.params.length B.c2) := by have := hcB.cell _ _ rfl 3 _ rfl; rwa [Nat.zero_add] at this
  have d4 : W2.cell? ⟨w.heap.size + 1, 4, none⟩ = some (.slice B.o3 g.results.length B.c3) := by have := hcB.cell _ _ rfl 4 _ rfl; rwa [Nat.zero_add] at this
  have d5 : W2.cell? ⟨w.heap.size + 1, 5, none⟩ = some (.slice B.o4 g.locs.length B.c4) := by have := hcB.cell _ _ rfl 5 _ rfl; rwa [Nat.zero_add] at this
  have d6 : W2.cell? ⟨w.heap.size + 1, 6, none⟩ = some (.slice B.o5 g.code.length B.c5) := by have := hcB.cell _ _ rfl 6 _ rfl; rwa [Nat.zero_add] at this
  have d7 : W2.cell? ⟨w.heap.size + 1, 7, none⟩ = some (.slice B.o6 g.lines.length B.c6) := by have := hcB.cell _ _ rfl 7 _ rfl; rwa [Nat.zero_add] at this
  have d8 : W2.cell? ⟨w.heap.size + 1, 8, none⟩ = some (.slice B.o7 g.nodes.length B.c7) := by have := hcB.cell _ _ rfl 8 _ rfl; rwa [Nat.zero_add] at this
  have d9 : W2.cell? ⟨w.heap.size + 1, 9, none⟩ = some (.slice B.o8 g.ats.length B.c8) := by have := hcB.cell _ _ rfl 9 _ rfl; rwa [Nat.zero_add] at this
  have d10 : W2.cell? ⟨w.heap.size + 1, 10, none⟩ = some (.slice B.o9 g.live.length B.c9) := by have := hcB.cell _ _ rfl 10 _ rfl; rwa [Nat.zero_add] at this
  clear hcA hcB
  have hz1 : w.heap.size < W2.heap.size := by omega
  have HX0 := Lib.hid hx0
  clear hx0
  go_cut [5] (fun s5 wx => s5 = .bool (headB f g) ∧ Ext W2 wx)
  case first =>
    by_cases h1 : f.name = g.name
    · have e1 : (f.name.toList == g.name.toList) = true := by rw [h1]; simp
      by_cases h2 : f.inner = g.inner
      · have e2 : (f.inner == g.inner) = true := by rw [h2]; simp
        have HR : Hid (headB f g = decide (f.outer = g.outer)) := by simp [Hid, headB, h1, h2]
        clear h1 h2
        go_wp2_with fail
        refine (sig_Same _ _ _ _ _ _ _ (HFI.out.ext HX0.out).h1 (HGI.out.ext HX0.out).h1 HFB.out.n1 HGB.out.n1).mono ?_
        rintro e w1 ⟨rfl, hx⟩
        go_wp2_with fail
        go_meet
        exact ⟨by rw [HR.out], hx⟩
      · have e2 : (f.inner == g.inner) = false := by simpa using h2
        have HR : Hid (headB f g = false) := by simp [Hid, headB, h2]
        clear h1 h2
        go_wp2_with fail
        go_meet
        exact ⟨by rw [HR.out], Ext.rf _⟩
    · have e1 : (f.name.toList == g.name.toList) = false := by
        rw [strEq, decide_eq_false]
        exact fun e => h1 (ByteArray.ext (Array.toList_inj.1 e))
      have HR : Hid (headB f g = false) := by simp [Hid, headB, h1]
      clear h1
      go_wp2_with fail
      go_meet
      exact ⟨by rw [HR.out], Ext.rf _⟩
  case rest =>
    obtain ⟨rfl, hx1⟩ := hcut
    go_upto_region 2 with fail
    go_cut [6] (fun s6 wx => s6 = .bool (typesB f g) ∧ Ext W2 wx)
    case first =>
      have HR : Hid (typesB f g = (decide (f.params = g.params) && (decide (f.results = g.results) && decide (f.locs = g.locs)))) := by simp [Hid, typesB, Bool.and_assoc]
      have hE0 := hx1
      have hb0 := bcell hE0
      have HE0 := Lib.hid hE0
      clear hE0
      go_wp2_with fail
      refine (sig_Same _ _ _ _ _ _ _ ((HFI.out.ext HX0.out).ext HE0.out).h2 ((HGI.out.ext HX0.out).ext HE0.out).h2 HFB.out.n2 HGB.out.n2).mono ?_
      rintro e w1 ⟨rfl, hy1⟩
      cases hd0 : decide (f.params = g.params) with
      | true =>
        replace HR := Lib.hid (HR.out.trans (by rw [hd0, Bool.true_and]))
        clear hd0
        have hE1 := Ext.tr HE0.out hy1
        have hb1 := bcell hE1
        have HE1 := Lib.hid hE1
        clear hE1
        go_wp2_with fail
        refine (sig_Same _ _ _ _ _ _ _ ((HFI.out.ext HX0.out).ext HE1.out).h3 ((HGI.out.ext HX0.out).ext HE1.out).h3 HFB.out.n3 HGB.out.n3).mono ?_
        rintro e w2 ⟨rfl, hy2⟩
        cases hd1 : decide (f.results = g.results) with
        | true =>
          replace HR := Lib.hid (HR.out.trans (by rw [hd1, Bool.true_and]))
          clear hd1
          have hE2 := Ext.tr HE1.out hy2
          have hb2 := bcell hE2
          have HE2 := Lib.hid hE2
          clear hE2
          go_wp2_with fail
          refine (sig_Same _ _ _ _ _ _ _ ((HFI.out.ext HX0.out).ext HE2.out).h4 ((HGI.out.ext HX0.out).ext HE2.out).h4 HFB.out.n4 HGB.out.n4).mono ?_
          rintro e w3 ⟨rfl, hy3⟩
          go_wp2_with fail
          go_meet; exact ⟨by rw [HR.out] <;> rfl, (Ext.tr HE2.out hy3)⟩
        | false =>
          replace HR := Lib.hid (HR.out.trans (by rw [hd1, Bool.false_and]))
          clear hd1
          go_wp2_with fail
          go_meet; exact ⟨by rw [HR.out] <;> rfl, (Ext.tr HE1.out hy2)⟩
      | false =>
        replace HR := Lib.hid (HR.out.trans (by rw [hd0, Bool.false_and]))
        clear hd0
        go_wp2_with fail
        go_meet; exact ⟨by rw [HR.out] <;> rfl, (Ext.tr HE0.out hy1)⟩
    case rest =>
      obtain ⟨rfl, hx2⟩ := hcut
      clear hx1
      go_upto_region 3 with fail
      go_cut [7] (fun s7 wx => s7 = .bool (codeB f g) ∧ Ext W2 wx)
      case first =>
        have HR : Hid (codeB f g = (decide (f.code = g.code) && decide (f.lines = g.lines))) := by simp [Hid, codeB]
        have hE0 := hx2
        have hb0 := bcell hE0
        have HE0 := Lib.hid hE0
        clear hE0
        go_wp2_with fail
        refine (instr_Equal _ _ _ _ _ _ _ ((HFI.out.ext HX0.out).ext HE0.out).h5 ((HGI.out.ext HX0.out).ext HE0.out).h5 HFB.out.n5 HGB.out.n5).mono ?_
        rintro e w1 ⟨rfl, hy1⟩
        cases hd0 : decide (f.code = g.code) with
        | true =>
          replace HR := Lib.hid (HR.out.trans (by rw [hd0, Bool.true_and]))
          clear hd0
          have hE1 := Ext.tr HE0.out hy1
          have hb1 := bcell hE1
          have HE1 := Lib.hid hE1
          clear hE1
          go_wp2_with fail
          refine (int_Equal _ _ _ _ _ _ _ ((HFI.out.ext HX0.out).ext HE1.out).h6 ((HGI.out.ext HX0.out).ext HE1.out).h6 HFB.out.n6 HGB.out.n6).mono ?_
          rintro e w2 ⟨rfl, hy2⟩
          go_wp2_with fail
          go_meet; exact ⟨by rw [HR.out] <;> rfl, (Ext.tr HE1.out hy2)⟩
        | false =>
          replace HR := Lib.hid (HR.out.trans (by rw [hd0, Bool.false_and]))
          clear hd0
          go_wp2_with fail
          go_meet; exact ⟨by rw [HR.out] <;> rfl, (Ext.tr HE0.out hy1)⟩
      case rest =>
        obtain ⟨rfl, hx3⟩ := hcut
        clear hx2
        have HR : Hid (decide (f = g) = (headB f g && (typesB f g && (codeB f g && (decide (f.nodes = g.nodes) && (decide (f.ats = g.ats) && decide (f.live = g.live))))))) := by rw [Hid, func_eq]; simp only [Bool.and_assoc]
        cases hq1 : headB f g with
        | false =>
          replace HR := Lib.hid (HR.out.trans (by rw [hq1, Bool.false_and]))
          clear hq1
          go_wp2_with fail
          go_ret
          exact ⟨by rw [HR.out] <;> rfl, HX0.out.tr hx3⟩
        | true =>
          replace HR := Lib.hid (HR.out.trans (by rw [hq1, Bool.true_and]))
          clear hq1
          cases hq2 : typesB f g with
          | false =>
            replace HR := Lib.hid (HR.out.trans (by rw [hq2, Bool.false_and]))
            clear hq2
            go_wp2_with fail
            go_ret
            exact ⟨by rw [HR.out] <;> rfl, HX0.out.tr hx3⟩
          | true =>
            replace HR := Lib.hid (HR.out.trans (by rw [hq2, Bool.true_and]))
            clear hq2
            cases hq3 : codeB f g with
            | false =>
              replace HR := Lib.hid (HR.out.trans (by rw [hq3, Bool.false_and]))
              clear hq3
              go_wp2_with fail
              go_ret
              exact ⟨by rw [HR.out] <;> rfl, HX0.out.tr hx3⟩
            | true =>
              replace HR := Lib.hid (HR.out.trans (by rw [hq3, Bool.true_and]))
              clear hq3
              have hE0 := hx3
              have hb0 := bcell hE0
              have HE0 := Lib.hid hE0
              clear hE0
              go_wp2_with fail
              refine (node_Equal _ _ _ _ _ _ _ ((HFI.out.ext HX0.out).ext HE0.out).h7 ((HGI.out.ext HX0.out).ext HE0.out).h7 HFB.out.n7 HGB.out.n7).mono ?_
              rintro e w1 ⟨rfl, hy1⟩
              cases hd0 : decide (f.nodes = g.nodes) with
              | true =>
                replace HR := Lib.hid (HR.out.trans (by rw [hd0, Bool.true_and]))
                clear hd0
                have hE1 := Ext.tr HE0.out hy1
                have hb1 := bcell hE1
                have HE1 := Lib.hid hE1
                clear hE1
                go_wp2_with fail
                refine (int_Equal _ _ _ _ _ _ _ ((HFI.out.ext HX0.out).ext HE1.out).h8 ((HGI.out.ext HX0.out).ext HE1.out).h8 HFB.out.n8 HGB.out.n8).mono ?_
                rintro e w2 ⟨rfl, hy2⟩
                cases hd1 : decide (f.ats = g.ats) with
                | true =>
                  replace HR := Lib.hid (HR.out.trans (by rw [hd1, Bool.true_and]))
                  clear hd1
                  have hE2 := Ext.tr HE1.out hy2
                  have hb2 := bcell hE2
                  have HE2 := Lib.hid hE2
                  clear hE2
                  go_wp2_with fail
                  refine (set_Equal _ _ _ _ _ _ _ ((HFI.out.ext HX0.out).ext HE2.out).h9 ((HGI.out.ext HX0.out).ext HE2.out).h9 HFB.out.n9 HGB.out.n9).mono ?_
                  rintro e w3 ⟨rfl, hy3⟩
                  go_wp2_with fail
                  go_ret; exact ⟨by rw [HR.out] <;> rfl, HX0.out.tr (Ext.tr HE2.out hy3)⟩
                | false =>
                  replace HR := Lib.hid (HR.out.trans (by rw [hd1, Bool.false_and]))
                  clear hd1
                  go_wp2_with fail
                  go_ret; exact ⟨by rw [HR.out] <;> rfl, HX0.out.tr (Ext.tr HE1.out hy2)⟩
              | false =>
                replace HR := Lib.hid (HR.out.trans (by rw [hd0, Bool.false_and]))
                clear hd0
                go_wp2_with fail
                go_ret; exact ⟨by rw [HR.out] <;> rfl, HX0.out.tr (Ext.tr HE0.out hy1)⟩
end Go.Proofs.Ytofdkhilapmccaa
