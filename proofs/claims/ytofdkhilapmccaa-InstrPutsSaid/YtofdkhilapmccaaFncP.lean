/- Functions: how many slots they have, whether they have tables, whether their types may be. -/
import Derived.Test.YtofdkhilapmccaaData
import Derived.Test.YtofdkhilapmccaaSigM
import Derived.Test.YtofdkhilapmccaaNames
import Derived.Test.YtofdkhilapmccaaInstr
import Derived.Test.YtofdkhilapmccaaFncSame
namespace Go.Proofs.Ytofdkhilapmccaa
open Go.RowKit

theorem one_box (w : World) (cs : List Value) (t : TypeId) :
    Ext w (w.alloc (.cells cs.toArray t)) ∧ w.heap.size < (w.alloc (.cells cs.toArray t)).heap.size ∧ Cells (w.alloc (.cells cs.toArray t)) (some ⟨w.heap.size, 0, none⟩) cs :=
  ⟨(Ext.rf w).al _, by simp, cells_new w cs t _ rfl⟩

theorem ret_bools {a b : Bool} (h : a = b) : Ending.returned (.bool a) = .returned (.bool b) := by rw [h]
theorem toExt {P : Program} {n : FuncId} {args : Array Value} {w : World} {r : Ending} (h : Calls P n args w fun e w' => e = r ∧ w = w') : Calls P n args w fun e w' => e = r ∧ Ext w w' :=
  h.mono fun _ _ ⟨h1, h2⟩ => ⟨h1, h2 ▸ Ext.rf _⟩
def manyF (f : FuncT) : Nat := f.params.length + f.results.length + f.locs.length
def bareF (f : FuncT) : Bool := ((f.nodes.length : Int) == 0) && ((f.ats.length : Int) == 0) && ((f.live.length : Int) == 0)
def ownF (f : FuncT) : Bool := rightSig f.params 8 && (rightSig f.results 4 && rightSig f.locs 256)
def typesF (f : FuncT) : Bool := ownF f && (rightSig f.outer 4 && (f.inner || (f.outer.length : Int) == 0))

set_option maxRecDepth 20000 in
theorem fnc_many (A : FuncA) (f : FuncT) (w : World) (bf : FuncB f) :
    Calls Try.prog 103 #[.agg #[.string f.name, .bool f.inner, .slice A.o1 f.outer.length A.c1, .slice A.o2 f.params.length A.c2, .slice A.o3 f.results.length A.c3, .slice A.o4 f.locs.length A.c4, .slice A.o5 f.code.length A.c5, .slice A.o6 f.lines.length A.c6, .slice A.o7 f.nodes.length A.c7, .slice A.o8 f.ats.length A.c8, .slice A.o9 f.live.length A.c9]] w fun e w' => e = .returned (.int .i64 (manyF f)) ∧ Ext w w' := by
  have h2 := bf.n2
  have h3 := bf.n3
  have h4 := bf.n4
  clear bf
  go_enter Try.func103, Try.ntmps103
  go_upto_region 1 with fail
  obtain ⟨hx0, hz0, hcA⟩ := one_box w [.string f.name, .bool f.inner, .slice A.o1 f.outer.length A.c1, .slice A.o2 f.params.length A.c2, .slice A.o3 f.results.length A.c3, .slice A.o4 f.locs.length A.c4, .slice A.o5 f.code.length A.c5, .slice A.o6 f.lines.length A.c6, .slice A.o7 f.nodes.length A.c7, .slice A.o8 f.ats.length A.c8, .slice A.o9 f.live.length A.c9] 28
  generalize hW1 : w.alloc (.cells ([.string f.name, .bool f.inner, .slice A.o1 f.outer.length A.c1, .slice A.o2 f.params.length A.c2, .slice A.o3 f.results.length A.c3, .slice A.o4 f.locs.length A.c4, .slice A.o5 f.code.length A.c5, .slice A.o6 f.lines.length A.c6, .slice A.o7 f.nodes.length A.c7, .slice A.o8 f.ats.length A.c8, .slice A.o9 f.live.length A.c9] : List Value).toArray 28) = W1 at *
  clear hW1
  have c3 : W1.cell? ⟨w.heap.size, 3, none⟩ = some (.slice A.o2 f.params.length A.c2) := by have := hcA.cell _ _ rfl 3 _ rfl; rwa [Nat.zero_add] at this
  have c4 : W1.cell? ⟨w.heap.size, 4, none⟩ = some (.slice A.o3 f.results.length A.c3) := by have := hcA.cell _ _ rfl 4 _ rfl; rwa [Nat.zero_add] at this
  have c5 : W1.cell? ⟨w.heap.size, 5, none⟩ = some (.slice A.o4 f.locs.length A.c4) := by have := hcA.cell _ _ rfl 5 _ rfl; rwa [Nat.zero_add] at this
  clear hcA
  go_wp2
  go_ret
  exact ⟨by simp [manyF], hx0⟩

set_option maxRecDepth 20000 in
theorem fnc_Bare (A : FuncA) (f : FuncT) (w : World) (bf : FuncB f) :
    Calls Try.prog 49 #[.agg #[.string f.name, .bool f.inner, .slice A.o1 f.outer.length A.c1, .slice A.o2 f.params.length A.c2, .slice A.o3 f.results.length A.c3, .slice A.o4 f.locs.length A.c4, .slice A.o5 f.code.length A.c5, .slice A.o6 f.lines.length A.c6, .slice A.o7 f.nodes.length A.c7, .slice A.o8 f.ats.length A.c8, .slice A.o9 f.live.length A.c9]] w fun e w' => e = .returned (.bool (bareF f)) ∧ Ext w w' := by
  unfold bareF
  clear bf
  cases t1 : (f.nodes.length : Int) == 0 <;> cases t2 : (f.ats.length : Int) == 0 <;> cases t3 : (f.live.length : Int) == 0 <;>
  (go_enter Try.func49, Try.ntmps49
   go_upto_region 1 with fail
   obtain ⟨hx0, hz0, hcA⟩ := one_box w [.string f.name, .bool f.inner, .slice A.o1 f.outer.length A.c1, .slice A.o2 f.params.length A.c2, .slice A.o3 f.results.length A.c3, .slice A.o4 f.locs.length A.c4, .slice A.o5 f.code.length A.c5, .slice A.o6 f.lines.length A.c6, .slice A.o7 f.nodes.length A.c7, .slice A.o8 f.ats.length A.c8, .slice A.o9 f.live.length A.c9] 28
   generalize hW1 : w.alloc (.cells ([.string f.name, .bool f.inner, .slice A.o1 f.outer.length A.c1, .slice A.o2 f.params.length A.c2, .slice A.o3 f.results.length A.c3, .slice A.o4 f.locs.length A.c4, .slice A.o5 f.code.length A.c5, .slice A.o6 f.lines.length A.c6, .slice A.o7 f.nodes.length A.c7, .slice A.o8 f.ats.length A.c8, .slice A.o9 f.live.length A.c9] : List Value).toArray 28) = W1 at *
   clear hW1
   have c8 : W1.cell? ⟨w.heap.size, 8, none⟩ = some (.slice A.o7 f.nodes.length A.c7) := by have := hcA.cell _ _ rfl 8 _ rfl; rwa [Nat.zero_add] at this
   have c9 : W1.cell? ⟨w.heap.size, 9, none⟩ = some (.slice A.o8 f.ats.length A.c8) := by have := hcA.cell _ _ rfl 9 _ rfl; rwa [Nat.zero_add] at this
   have c10 : W1.cell? ⟨w.heap.size, 10, none⟩ = some (.slice A.o9 f.live.length A.c9) := by have := hcA.cell _ _ rfl 10 _ rfl; rwa [Nat.zero_add] at this
   clear hcA
   go_wp2
   go_ret
   exact ⟨rfl, hx0⟩)

set_option maxRecDepth 20000 in
theorem fncref_Bare (A : FuncA) (f : FuncT) (w : World) (bf : FuncB f) :
    Calls Try.prog 50 #[.agg #[.string f.name, .bool f.inner, .slice A.o1 f.outer.length A.c1, .slice A.o2 f.params.length A.c2, .slice A.o3 f.results.length A.c3, .slice A.o4 f.locs.length A.c4, .slice A.o5 f.code.length A.c5, .slice A.o6 f.lines.length A.c6, .slice A.o7 f.nodes.length A.c7, .slice A.o8 f.ats.length A.c8, .slice A.o9 f.live.length A.c9]] w fun e w' => e = .returned (.bool (bareF f)) ∧ Ext w w' := by
  have h7 := bf.n7
  have h8 := bf.n8
  have h9 := bf.n9
  clear bf
  go_enter Try.func50, Try.ntmps50
  go_upto_region 1 with fail
  obtain ⟨hx0, hz0, hcA⟩ := one_box w [.string f.name, .bool f.inner, .slice A.o1 f.outer.length A.c1, .slice A.o2 f.params.length A.c2, .slice A.o3 f.results.length A.c3, .slice A.o4 f.locs.length A.c4, .slice A.o5 f.code.length A.c5, .slice A.o6 f.lines.length A.c6, .slice A.o7 f.nodes.length A.c7, .slice A.o8 f.ats.length A.c8, .slice A.o9 f.live.length A.c9] 28
  generalize hW1 : w.alloc (.cells ([.string f.name, .bool f.inner, .slice A.o1 f.outer.length A.c1, .slice A.o2 f.params.length A.c2, .slice A.o3 f.results.length A.c3, .slice A.o4 f.locs.length A.c4, .slice A.o5 f.code.length A.c5, .slice A.o6 f.lines.length A.c6, .slice A.o7 f.nodes.length A.c7, .slice A.o8 f.ats.length A.c8, .slice A.o9 f.live.length A.c9] : List Value).toArray 28) = W1 at *
  clear hW1
  have c8 : W1.cell? ⟨w.heap.size, 8, none⟩ = some (.slice A.o7 f.nodes.length A.c7) := by have := hcA.cell _ _ rfl 8 _ rfl; rwa [Nat.zero_add] at this
  have c9 : W1.cell? ⟨w.heap.size, 9, none⟩ = some (.slice A.o8 f.ats.length A.c8) := by have := hcA.cell _ _ rfl 9 _ rfl; rwa [Nat.zero_add] at this
  have c10 : W1.cell? ⟨w.heap.size, 10, none⟩ = some (.slice A.o9 f.live.length A.c9) := by have := hcA.cell _ _ rfl 10 _ rfl; rwa [Nat.zero_add] at this
  clear hcA
  go_wp2
  go_ret
  refine ⟨ret_bools ?_, hx0⟩
  rw [Bool.eq_iff_iff]; simp only [bareF, Bool.and_eq_true, beq_iff_eq]; omega

set_option maxHeartbeats 2000000 in
set_option maxRecDepth 20000 in
theorem fnc_types (A : FuncA) (f : FuncT) (w : World) (hf : FuncIn w A f) (bf : FuncB f) :
    Calls Try.prog 102 #[.agg #[.string f.name, .bool f.inner, .slice A.o1 f.outer.length A.c1, .slice A.o2 f.params.length A.c2, .slice A.o3 f.results.length A.c3, .slice A.o4 f.locs.length A.c4, .slice A.o5 f.code.length A.c5, .slice A.o6 f.lines.length A.c6, .slice A.o7 f.nodes.length A.c7, .slice A.o8 f.ats.length A.c8, .slice A.o9 f.live.length A.c9]] w fun e w' => e = .returned (.bool (typesF f)) ∧ Ext w w' := by
  have HFB := Lib.hid bf
  have HFI := Lib.hid hf
  clear bf hf
  go_enter Try.func102, Try.ntmps102
  go_upto_region 1 with fail
  obtain ⟨hx0, hz0, hcA⟩ := one_box w [.string f.name, .bool f.inner, .slice A.o1 f.outer.length A.c1, .slice A.o2 f.params.length A.c2, .slice A.o3 f.results.length A.c3, .slice A.o4 f.locs.length A.c4, .slice A.o5 f.code.length A.c5, .slice A.o6 f.lines.length A.c6, .slice A.o7 f.nodes.length A.c7, .slice A.o8 f.ats.length A.c8, .slice A.o9 f.live.length A.c9] 28
  generalize hW1 : w.alloc (.cells ([.string f.name, .bool f.inner, .slice A.o1 f.outer.length A.c1, .slice A.o2 f.params.length A.c2, .slice A.o3 f.results.length A.c3, .slice A.o4 f.locs.length A.c4, .slice A.o5 f.code.length A.c5, .slice A.o6 f.lines.length A.c6, .slice A.o7 f.nodes.length A.c7, .slice A.o8 f.ats.length A.c8, .slice A.o9 f.live.length A.c9] : List Value).toArray 28) = W1 at *
  clear hW1
  have c1 : W1.cell? ⟨w.heap.size, 1, none⟩ = some (.bool f.inner) := by have := hcA.cell _ _ rfl 1 _ rfl; rwa [Nat.zero_add] at this
  have c2 : W1.cell? ⟨w.heap.size, 2, none⟩ = some (.slice A.o1 f.outer.length A.c1) := by have := hcA.cell _ _ rfl 2 _ rfl; rwa [Nat.zero_add] at this
  have c3 : W1.cell? ⟨w.heap.size, 3, none⟩ = some (.slice A.o2 f.params.length A.c2) := by have := hcA.cell _ _ rfl 3 _ rfl; rwa [Nat.zero_add] at this
  have c4 : W1.cell? ⟨w.heap.size, 4, none⟩ = some (.slice A.o3 f.results.length A.c3) := by have := hcA.cell _ _ rfl 4 _ rfl; rwa [Nat.zero_add] at this
  have c5 : W1.cell? ⟨w.heap.size, 5, none⟩ = some (.slice A.o4 f.locs.length A.c4) := by have := hcA.cell _ _ rfl 5 _ rfl; rwa [Nat.zero_add] at this
  clear hcA
  have HX0 := Lib.hid hx0
  clear hx0
  go_cut [3] (fun s3 wx => s3 = .bool (ownF f) ∧ Ext W1 wx)
  case first =>
    have HR : Hid (ownF f = (rightSig f.params 8 && (rightSig f.results 4 && rightSig f.locs 256))) := rfl
    have hE0 := Ext.rf W1
    have hb0 := bcell hE0
    have HE0 := Lib.hid hE0
    clear hE0
    go_wp2_with fail
    refine (sig_Right _ _ _ _ _ (((HFI.out.ext HX0.out).ext HE0.out)).h2 HFB.out.n2 HFB.out.v2).mono ?_
    rintro e w1 ⟨rfl, hy1⟩
    clear hb0
    cases hd0 : rightSig f.params 8 with
    | true =>
      replace HR := Lib.hid (HR.out.trans (by rw [hd0, Bool.true_and]))
      clear hd0
      have hE1 := (Ext.tr HE0.out hy1)
      have hb1 := bcell hE1
      have HE1 := Lib.hid hE1
      clear hE1
      go_wp2_with fail
      refine (sig_Right _ _ _ _ _ (((HFI.out.ext HX0.out).ext HE1.out)).h3 HFB.out.n3 HFB.out.v3).mono ?_
      rintro e w2 ⟨rfl, hy2⟩
      clear hb1
      cases hd1 : rightSig f.results 4 with
      | true =>
        replace HR := Lib.hid (HR.out.trans (by rw [hd1, Bool.true_and]))
        clear hd1
        have hE2 := (Ext.tr HE1.out hy2)
        have hb2 := bcell hE2
        have HE2 := Lib.hid hE2
        clear hE2
        go_wp2_with fail
        refine (sig_Right _ _ _ _ _ (((HFI.out.ext HX0.out).ext HE2.out)).h4 HFB.out.n4 HFB.out.v4).mono ?_
        rintro e w3 ⟨rfl, hy3⟩
        clear hb2
        cases hd2 : rightSig f.locs 256 with
        | true =>
          replace HR := Lib.hid (HR.out.trans (by rw [hd2]))
          clear hd2
          go_wp2_with fail
          go_meet
          exact ⟨by rw [HR.out] <;> rfl, (Ext.tr HE2.out hy3)⟩
        | false =>
          replace HR := Lib.hid (HR.out.trans (by rw [hd2]))
          clear hd2
          go_wp2_with fail
          go_meet
          exact ⟨by rw [HR.out] <;> rfl, (Ext.tr HE2.out hy3)⟩
      | false =>
        replace HR := Lib.hid (HR.out.trans (by rw [hd1, Bool.false_and]))
        clear hd1
        go_wp2_with fail
        go_meet
        exact ⟨by rw [HR.out] <;> rfl, (Ext.tr HE1.out hy2)⟩
    | false =>
      replace HR := Lib.hid (HR.out.trans (by rw [hd0, Bool.false_and]))
      clear hd0
      go_wp2_with fail
      go_meet
      exact ⟨by rw [HR.out] <;> rfl, (Ext.tr HE0.out hy1)⟩
  case rest =>
    obtain ⟨rfl, hx1⟩ := hcut
    have HR : Hid (typesF f = (ownF f && (rightSig f.outer 4 && (f.inner || (f.outer.length : Int) == 0)))) := rfl
    have hbw := bcell hx1
    have HX1 := Lib.hid hx1
    clear hx1
    cases hd : ownF f with
    | false =>
      replace HR := Lib.hid (HR.out.trans (by rw [hd, Bool.false_and]))
      go_wp2_with fail
      go_ret
      exact ⟨by rw [HR.out] <;> rfl, HX0.out.tr HX1.out⟩
    | true =>
      replace HR := Lib.hid (HR.out.trans (by rw [hd, Bool.true_and]))
      clear hd hbw
      have hE0 := HX1.out
      have hb0 := bcell hE0
      have HE0 := Lib.hid hE0
      clear hE0
      go_wp2_with fail
      refine (sig_Right _ _ _ _ _ (((HFI.out.ext HX0.out).ext HE0.out)).h1 HFB.out.n1 HFB.out.v1).mono ?_
      rintro e w1 ⟨rfl, hy1⟩
      clear hb0
      cases hd0 : rightSig f.outer 4 with
      | true =>
        replace HR := Lib.hid (HR.out.trans (by rw [hd0, Bool.true_and]))
        clear hd0
        have hb1 := bcell ((Ext.tr HE0.out hy1))
        rcases Bool.eq_false_or_eq_true (f.inner) with hd1 | hd1
        · skip
          replace HR := Lib.hid (HR.out.trans (by rw [hd1, Bool.true_or]))
          go_wp2_with fail
          go_ret
          exact ⟨by rw [HR.out] <;> rfl, HX0.out.tr (Ext.tr HE0.out hy1)⟩
        · skip
          replace HR := Lib.hid (HR.out.trans (by rw [hd1, Bool.false_or]))
          rcases Bool.eq_false_or_eq_true ((f.outer.length : Int) == 0) with hd2 | hd2
          · skip
            replace HR := Lib.hid (HR.out.trans (by rw [hd2]))
            have hm2 : ((f.outer.length : Int) != 0) = false := by rw [bne, hd2]; rfl
            go_wp2_with fail
            go_ret
            exact ⟨by rw [HR.out] <;> rfl, HX0.out.tr (Ext.tr HE0.out hy1)⟩
          · skip
            replace HR := Lib.hid (HR.out.trans (by rw [hd2]))
            have hm2 : ((f.outer.length : Int) != 0) = true := by rw [bne, hd2]; rfl
            go_wp2_with fail
            go_ret
            exact ⟨by rw [HR.out] <;> rfl, HX0.out.tr (Ext.tr HE0.out hy1)⟩
      | false =>
        replace HR := Lib.hid (HR.out.trans (by rw [hd0, Bool.false_and]))
        clear hd0
        go_wp2_with fail
        go_ret
        exact ⟨by rw [HR.out] <;> rfl, HX0.out.tr (Ext.tr HE0.out hy1)⟩
end Go.Proofs.Ytofdkhilapmccaa
