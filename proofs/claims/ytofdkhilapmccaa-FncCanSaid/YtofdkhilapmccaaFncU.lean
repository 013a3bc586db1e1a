/- Whether a function can be laid: fnc.Can, the reference's Can. -/
import Derived.Test.YtofdkhilapmccaaFncT
import Derived.Test.YtofdkhilapmccaaTreeS
namespace Go.Proofs.Ytofdkhilapmccaa
open Go.RowKit

def canF (f : FuncT) : Int := canW (tablesF f) f
theorem fnc_Can (A : FuncA) (f : FuncT) (w : World) (hf : FuncIn w A f) (bf : FuncB f) :
    Calls Try.prog 47 #[.agg #[.string f.name, .bool f.inner, .slice A.o1 f.outer.length A.c1, .slice A.o2 f.params.length A.c2, .slice A.o3 f.results.length A.c3, .slice A.o4 f.locs.length A.c4, .slice A.o5 f.code.length A.c5, .slice A.o6 f.lines.length A.c6, .slice A.o7 f.nodes.length A.c7, .slice A.o8 f.ats.length A.c8, .slice A.o9 f.live.length A.c9]] w fun e w' => e = .returned (.int .i64 (canF f)) ∧ Ext w w' :=
  fnc_CanT A f w hf bf (tablesF f) (fun W h => fnc_tables A f W h bf)

theorem tablesF_ref (f : FuncT) : tablesF f = (bareF f || (rightTree f.nodes && (((f.ats.length : Int) == f.code.length) && (((f.live.length : Int) == f.code.length) && (rightMaps f.live (manyF f) && !(f.ats.any (badAt f.nodes.length))))))) := by
  rw [tablesF, Bool.and_comm (!(f.ats.any (badAt f.nodes.length)))]

set_option maxHeartbeats 4000000 in
set_option maxRecDepth 20000 in
theorem fncref_tables (A : FuncA) (f : FuncT) (w : World) (hf : FuncIn w A f) (bf : FuncB f) :
    Calls Try.prog 110 #[.agg #[.string f.name, .bool f.inner, .slice A.o1 f.outer.length A.c1, .slice A.o2 f.params.length A.c2, .slice A.o3 f.results.length A.c3, .slice A.o4 f.locs.length A.c4, .slice A.o5 f.code.length A.c5, .slice A.o6 f.lines.length A.c6, .slice A.o7 f.nodes.length A.c7, .slice A.o8 f.ats.length A.c8, .slice A.o9 f.live.length A.c9], .int .i64 (manyF f : Nat)] w fun e w' => e = .returned (.bool (tablesF f)) ∧ Ext w w' := by
  have HFB := Lib.hid bf
  have HFI := Lib.hid hf
  have i5 := bf.n5
  have i8 := bf.n8
  have i7 := bf.n7
  clear bf hf
  go_enter Try.func110, Try.ntmps110
  go_upto_region 1 with fail
  obtain ⟨hx0, hz0, hcA⟩ := one_box w [.string f.name, .bool f.inner, .slice A.o1 f.outer.length A.c1, .slice A.o2 f.params.length A.c2, .slice A.o3 f.results.length A.c3, .slice A.o4 f.locs.length A.c4, .slice A.o5 f.code.length A.c5, .slice A.o6 f.lines.length A.c6, .slice A.o7 f.nodes.length A.c7, .slice A.o8 f.ats.length A.c8, .slice A.o9 f.live.length A.c9] 28
  generalize hW1 : w.alloc (.cells ([.string f.name, .bool f.inner, .slice A.o1 f.outer.length A.c1, .slice A.o2 f.params.length A.c2, .slice A.o3 f.results.length A.c3, .slice A.o4 f.locs.length A.c4, .slice A.o5 f.code.length A.c5, .slice A.o6 f.lines.length A.c6, .slice A.o7 f.nodes.length A.c7, .slice A.o8 f.ats.length A.c8, .slice A.o9 f.live.length A.c9] : List Value).toArray 28) = W1 at *
  clear hW1
  have c0 : W1.cell? ⟨w.heap.size, 0, none⟩ = some (.string f.name) := by have := hcA.cell _ _ rfl 0 _ rfl; rwa [Nat.zero_add] at this
  have c1 : W1.cell? ⟨w.heap.size, 1, none⟩ = some (.bool f.inner) := by have := hcA.cell _ _ rfl 1 _ rfl; rwa [Nat.zero_add] at this
  have c2 : W1.cell? ⟨w.heap.size, 2, none⟩ = some (.slice A.o1 f.outer.length A.c1) := by have := hcA.cell _ _ rfl 2 _ rfl; rwa [Nat.zero_add] at this
  have c3 : W1.cell? ⟨w.heap.size, 3, none⟩ = some (.slice A.o2 f.params.length A.c2) := by have := hcA.cell _ _ rfl 3 _ rfl; rwa [Nat.zero_add] at this
  have c4 : W1.cell? ⟨w.heap.size, 4, none⟩ = some (.slice A.o3 f.results.length A.c3) := by have := hcA.cell _ _ rfl 4 _ rfl; rwa [Nat.zero_add] at this
  have c5 : W1.cell? ⟨w.heap.size, 5, none⟩ = some (.slice A.o4 f.locs.length A.c4) := by have := hcA.cell _ _ rfl 5 _ rfl; rwa [Nat.zero_add] at this
  have c6 : W1.cell? ⟨w.heap.size, 6, none⟩ = some (.slice A.o5 f.code.length A.c5) := by have := hcA.cell _ _ rfl 6 _ rfl; rwa [Nat.zero_add] at this
  have c7 : W1.cell? ⟨w.heap.size, 7, none⟩ = some (.slice A.o6 f.lines.length A.c6) := by have := hcA.cell _ _ rfl 7 _ rfl; rwa [Nat.zero_add] at this
  have c8 : W1.cell? ⟨w.heap.size, 8, none⟩ = some (.slice A.o7 f.nodes.length A.c7) := by have := hcA.cell _ _ rfl 8 _ rfl; rwa [Nat.zero_add] at this
  have c9 : W1.cell? ⟨w.heap.size, 9, none⟩ = some (.slice A.o8 f.ats.length A.c8) := by have := hcA.cell _ _ rfl 9 _ rfl; rwa [Nat.zero_add] at this
  have c10 : W1.cell? ⟨w.heap.size, 10, none⟩ = some (.slice A.o9 f.live.length A.c9) := by have := hcA.cell _ _ rfl 10 _ rfl; rwa [Nat.zero_add] at this
  clear hcA
  have HX0 := Lib.hid hx0
  clear hx0
  go_wp2_with fail
  refine (fncref_Bare A f _ HFB.out).mono ?_
  rintro e w1 ⟨rfl, hx1⟩
  cases hbf : bareF f with
  | true =>
    have HR : Hid (tablesF f = true) := by rw [Hid, tablesF, hbf]; rfl
    clear hbf
    go_wp2_with fail
    go_ret
    exact ⟨by rw [HR.out] <;> rfl, HX0.out.tr hx1⟩
  | false =>
    have HR : Hid (tablesF f = (rightTree f.nodes && (((f.ats.length : Int) == f.code.length) && (((f.live.length : Int) == f.code.length) && (rightMaps f.live (manyF f) && !(f.ats.any (badAt f.nodes.length))))))) := by rw [Hid, tablesF_ref, hbf]; rfl
    clear hbf
    have hE0 := hx1
    have hb0 := bcell hE0
    have HE0 := Lib.hid hE0
    clear hE0
    go_wp2_with fail
    refine (treeref_Right _ _ f.nodes _ (((HFI.out.ext HX0.out).ext HE0.out)).h7 HFB.out.n7).mono ?_
    rintro e w1 ⟨rfl, hy1⟩
    clear hb0
    cases hd0 : rightTree f.nodes with
    | true =>
      replace HR := Lib.hid (HR.out.trans (by rw [hd0, Bool.true_and]))
      clear hd0
      have hb1 := bcell ((Ext.tr HE0.out hy1))
      rcases Bool.eq_false_or_eq_true ((f.ats.length : Int) == f.code.length) with hd1 | hd1
      · skip
        replace HR := Lib.hid (HR.out.trans (by rw [hd1, Bool.true_and]))
        have hm1 : ((f.ats.length : Int) != f.code.length) = false := by rw [bne, hd1]; rfl
        rcases Bool.eq_false_or_eq_true ((f.live.length : Int) == f.code.length) with hd2 | hd2
        · skip
          replace HR := Lib.hid (HR.out.trans (by rw [hd2, Bool.true_and]))
          have hm2 : ((f.live.length : Int) != f.code.length) = false := by rw [bne, hd2]; rfl
          have hE3 := (Ext.tr HE0.out hy1)
          have hb3 := bcell hE3
          have HE3 := Lib.hid hE3
          clear hE3
          go_wp2_with fail
          refine (mapsref_Right _ _ f.live (manyF f) _ (((HFI.out.ext HX0.out).ext HE3.out)).h9 HFB.out.n9 HFB.out.v9 (by omega)).mono ?_
          rintro e w4 ⟨rfl, hy4⟩
          clear hb3
          cases hd3 : rightMaps f.live (manyF f) with
          | true =>
            replace HR := Lib.hid (HR.out.trans (by rw [hd3, Bool.true_and]))
            clear hd3
            have hE := (Ext.tr HE3.out hy4)
            have HA8 := Lib.hid (HFI.out.ext HX0.out).h8
            replace c0 := hE.has c0
            replace c1 := hE.has c1
            replace c2 := hE.has c2
            replace c3 := hE.has c3
            replace c4 := hE.has c4
            replace c5 := hE.has c5
            replace c6 := hE.has c6
            replace c7 := hE.has c7
            replace c8 := hE.has c8
            replace c9 := hE.has c9
            replace c10 := hE.has c10
            have HEE := Lib.hid hE
            clear hE
            clear c0 c1 c2 c3 c4 c5 c6 c7 c10
            go_wp2_with fail
            go_loopw [5] (fun i wr => ∃ k : Nat, k ≤ f.ats.length ∧ i = .int .i64 k ∧ Ext w4 wr ∧ Hid ((f.ats.take k).any (badAt f.nodes.length) = false))
              (fun i _ => f.ats.length - (intOf i).toNat)
            case atStart => exact ⟨0, Nat.zero_le _, rfl, Ext.rf _, Lib.hid (by simp)⟩
            case round =>
              obtain ⟨k, hk, rfl, hext, hno⟩ := hrel
              have k8 := hext.has c8
              have k9 := hext.has c9
              by_cases hlt : k < f.ats.length
              · obtain ⟨b, off, eo, x1⟩ := (HA8.out.ext (HEE.out.tr hext)).at (k := k) (by simpa using hlt)
                simp only [List.getElem_map] at x1
                have HS : Hid ((f.ats.take (k + 1)).any (badAt f.nodes.length) = ((f.ats.take k).any (badAt f.nodes.length) || badAt f.nodes.length f.ats[k])) := by rw [Hid, List.take_succ_eq_append_getElem hlt, List.any_append]; simp
                have HM : Hid (badAt f.nodes.length f.ats[k] = true → f.ats.any (badAt f.nodes.length) = true) := fun h => List.any_eq_true.2 ⟨_, List.getElem_mem hlt, h⟩
                have HBD : Hid (badAt f.nodes.length f.ats[k] = (decide (f.ats[k] < 0) || decide ((f.nodes.length : Int) ≤ f.ats[k]))) := rfl
                have i1 : (0 : Int) ≤ k := by omega
                have i2 : (k : Int) < f.ats.length := by omega
                generalize f.ats[k] = x at *
                rw [eo] at k9
                cases ta : decide (x < 0) with
                | true =>
                  have HT := Lib.hid (HM.out (by rw [HBD.out, ta]; rfl))
                  have HR2 := Lib.hid (HR.out.trans (by rw [HT.out]))
                  go_wp2
                  go_quiet (fail)
                  go_wp2
                  go_ret
                  exact ⟨by rw [HR2.out] <;> rfl, HX0.out.tr (HEE.out.tr (hext.drN _))⟩
                | false =>
                  cases tb : decide ((f.nodes.length : Int) ≤ x) with
                  | true =>
                    have HT := Lib.hid (HM.out (by rw [HBD.out, ta, tb]; rfl))
                    have HR2 := Lib.hid (HR.out.trans (by rw [HT.out]))
                    go_wp2
                    go_quiet (fail)
                    go_wp2
                    go_ret
                    exact ⟨by rw [HR2.out] <;> rfl, HX0.out.tr (HEE.out.tr (hext.drN _))⟩
                  | false =>
                    have HF : Hid ((f.ats.take (k + 1)).any (badAt f.nodes.length) = false) := by rw [Hid, HS.out, hno.out, HBD.out, ta, tb]; rfl
                    go_wp2
                    go_quiet (fail)
                    go_wp2
                    go_roundw
                    case rel => exact ⟨k + 1, by omega, by go_num, hext.drN _, HF⟩
                    case measure => simp [intOf]; omega
              · obtain rfl : k = f.ats.length := by omega
                rw [List.take_of_length_le (Nat.le_refl _)] at hno
                have HR2 := Lib.hid (HR.out.trans (by rw [hno.out]))
                go_wp2_with fail
                go_ret
                exact ⟨by rw [HR2.out] <;> rfl, HX0.out.tr (HEE.out.tr hext)⟩
          | false =>
            replace HR := Lib.hid (HR.out.trans (by rw [hd3, Bool.false_and]))
            clear hd3
            go_wp2_with fail
            go_ret
            exact ⟨by rw [HR.out] <;> rfl, HX0.out.tr (Ext.tr HE3.out hy4)⟩
        · skip
          replace HR := Lib.hid (HR.out.trans (by rw [hd2, Bool.false_and]))
          have hm2 : ((f.live.length : Int) != f.code.length) = true := by rw [bne, hd2]; rfl
          go_wp2_with fail
          go_ret
          exact ⟨by rw [HR.out] <;> rfl, HX0.out.tr (Ext.tr HE0.out hy1)⟩
      · skip
        replace HR := Lib.hid (HR.out.trans (by rw [hd1, Bool.false_and]))
        have hm1 : ((f.ats.length : Int) != f.code.length) = true := by rw [bne, hd1]; rfl
        go_wp2_with fail
        go_ret
        exact ⟨by rw [HR.out] <;> rfl, HX0.out.tr (Ext.tr HE0.out hy1)⟩
    | false =>
      replace HR := Lib.hid (HR.out.trans (by rw [hd0, Bool.false_and]))
      clear hd0
      go_wp2_with fail
      go_ret
      exact ⟨by rw [HR.out] <;> rfl, HX0.out.tr (Ext.tr HE0.out hy1)⟩
end Go.Proofs.Ytofdkhilapmccaa
