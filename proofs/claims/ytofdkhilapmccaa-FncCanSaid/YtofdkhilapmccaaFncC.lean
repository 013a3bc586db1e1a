/- Whether a function can be laid, but for its tables: fnc.Can. -/
import Derived.Test.YtofdkhilapmccaaFncP
import Derived.Test.YtofdkhilapmccaaLinesA
namespace Go.Proofs.Ytofdkhilapmccaa
open Go.RowKit

def badInstr (i : InstrT) : Bool := !rightInstr i

theorem fnc_bad (a b : Int) (w : World) : Calls Try.prog 100 #[.agg #[.int .i64 a, .int .i64 b]] w fun e w' => e = .returned (.bool (badInstr (a, b))) ∧ Ext w w' := by
  go_enter Try.func100, Try.ntmps100
  go_wp2_with fail
  refine (instr_Right a b _).mono ?_
  rintro e w1 ⟨rfl, hx⟩
  have HX := Lib.hid (((Ext.rf w).al _).tr hx)
  clear hx
  go_wp2_with fail
  go_ret
  exact ⟨rfl, HX.out⟩


set_option maxHeartbeats 1000000 in
set_option maxRecDepth 20000 in
theorem code_Index (ao : Option Addr) (cap : Nat) (l : List InstrT) (w : World)  (hc : Cells w ao (l.flatMap pairC)) (hl : l.length ≤ 17592186044416) :
    Calls Try.prog 156 #[.slice ao l.length cap, .func (.func 100) #[] #[]] w fun e w' => SomeIdx (l.any badInstr) w e w' := by
  go_enter Try.func156, Try.ntmps156
  go_wp2
  go_loopw [8] (fun i wr => ∃ k : Nat, k ≤ l.length ∧ i = .int .i64 k ∧ Ext w wr ∧ Hid ((l.take k).any badInstr = false))
    (fun i _ => l.length - (intOf i).toNat)
  case atStart => exact ⟨0, Nat.zero_le _, rfl, Ext.rf w, Lib.hid (by simp)⟩
  case round =>
    obtain ⟨k, hk, rfl, hext, hno⟩ := hrel
    by_cases hlt : k < l.length
    · have HS : Hid ((l.take (k + 1)).any badInstr = ((l.take k).any badInstr || badInstr l[k])) := by rw [Hid, List.take_succ_eq_append_getElem hlt, List.any_append]; simp only [List.any_cons, List.any_nil, Bool.or_false]
      have HM : Hid (badInstr l[k] = true → l.any badInstr = true) := fun h => List.any_eq_true.2 ⟨_, List.getElem_mem hlt, h⟩
      have hmem := Lib.hid (List.getElem_mem hlt)
      obtain ⟨b, off, rfl, c1, c2⟩ := (hc.ext hext).pair hlt
      generalize l[k] = x at *
      go_wp2_with fail
      refine (fnc_bad x.1 x.2 _).mono ?_
      rintro e w1 ⟨rfl, hx1⟩
      have HX := Lib.hid (hext.tr hx1)
      clear hx1 hext
      cases hp : badInstr x with
      | true =>
        have hT := Lib.hid (HM.out hp)
        clear hp
        go_wp2_with fail
        go_ret
        exact ⟨k, rfl, by rw [hT.out]; simp, HX.out⟩
      | false =>
        have hF : Hid ((l.take (k + 1)).any badInstr = false) := by rw [Hid, HS.out, hno.out, hp]; rfl
        clear hp
        go_wp2_with fail
        go_roundw
        case rel => exact ⟨k + 1, by omega, by go_num, HX.out, hF⟩
        case measure => simp [intOf]; omega
    · obtain rfl : k = l.length := by omega
      rw [List.take_of_length_le (Nat.le_refl _)] at hno
      go_wp2
      go_ret
      exact ⟨-1, rfl, by rw [hno.out]; simp, hext⟩

set_option maxRecDepth 20000 in
theorem code_Contains (ao : Option Addr) (cap : Nat) (l : List InstrT) (w : World)  (hc : Cells w ao (l.flatMap pairC)) (hl : l.length ≤ 17592186044416) :
    Calls Try.prog 104 #[.slice ao l.length cap, .func (.func 100) #[] #[]] w fun e w' => e = .returned (.bool (l.any badInstr)) ∧ Ext w w' := by
  go_enter Try.func104, Try.ntmps104
  go_wp2_with fail
  refine (code_Index ao cap l w hc hl).mono ?_
  rintro e w1 ⟨r, rfl, hr, hx⟩
  have HR : Hid (decide (0 ≤ r) = l.any badInstr) := hr.symm
  clear hr
  go_wp2_with fail
  go_ret
  exact ⟨by rw [← HR.out] <;> rfl, hx⟩


/-- Why a function can't be laid, T: whether its tables may be. -/
def canW (T : Bool) (f : FuncT) : Int :=
  bif mayName f.name then (bif typesF f then (bif (decide (256 < (manyF f : Int)) || (decide ((f.code.length : Int) < 1) || decide (2000 < (f.code.length : Int)))) then 6 else
    (bif f.code.any badInstr then 8 else (bif ((f.lines.length : Int) == f.code.length) && rightLines f.lines then (bif T then 0 else 14) else 19))) else 9) else 7

set_option maxHeartbeats 4000000 in
set_option maxRecDepth 20000 in
theorem fnc_CanT (A : FuncA) (f : FuncT) (w : World) (hf : FuncIn w A f) (bf : FuncB f) (T : Bool)
    (hT : ∀ W, FuncIn W A f → Calls Try.prog 106 #[.agg #[.string f.name, .bool f.inner, .slice A.o1 f.outer.length A.c1, .slice A.o2 f.params.length A.c2, .slice A.o3 f.results.length A.c3, .slice A.o4 f.locs.length A.c4, .slice A.o5 f.code.length A.c5, .slice A.o6 f.lines.length A.c6, .slice A.o7 f.nodes.length A.c7, .slice A.o8 f.ats.length A.c8, .slice A.o9 f.live.length A.c9]] W fun e w' => e = .returned (.bool T) ∧ Ext W w') :
    Calls Try.prog 47 #[.agg #[.string f.name, .bool f.inner, .slice A.o1 f.outer.length A.c1, .slice A.o2 f.params.length A.c2, .slice A.o3 f.results.length A.c3, .slice A.o4 f.locs.length A.c4, .slice A.o5 f.code.length A.c5, .slice A.o6 f.lines.length A.c6, .slice A.o7 f.nodes.length A.c7, .slice A.o8 f.ats.length A.c8, .slice A.o9 f.live.length A.c9]] w fun e w' => e = .returned (.int .i64 (canW T f)) ∧ Ext w w' := by
  have HFB := Lib.hid bf
  have HFI := Lib.hid hf
  have HT := Lib.hid hT
  have i5 := bf.n5
  clear bf hf hT
  go_enter Try.func47, Try.ntmps47
  go_upto_region 1 with fail
  obtain ⟨hx0, hz0, hcA⟩ := one_box w [.string f.name, .bool f.inner, .slice A.o1 f.outer.length A.c1, .slice A.o2 f.params.length A.c2, .slice A.o3 f.results.length A.c3, .slice A.o4 f.locs.length A.c4, .slice A.o5 f.code.length A.c5, .slice A.o6 f.lines.length A.c6, .slice A.o7 f.nodes.length A.c7, .slice A.o8 f.ats.length A.c8, .slice A.o9 f.live.length A.c9] 28
  generalize hW1 : w.alloc (.cells ([.string f.name, .bool f.inner, .slice A.o1 f.outer.length A.c1, .slice A.o2 f.params.length A.c2, .slice A.o3 f.results.length A.c3, .slice A.o4 f.locs.length A.c4, .slice A.o5 f.code.length A.c5, .slice A.o6 f.lines.length A.c6, .slice A.o7 f.nodes.length A.c7, .slice A.o8 f.ats.length A.c8, .slice A.o9 f.live.length A.c9] : List Value).toArray 28) = W1 at *
  clear hW1
  have c0 : W1.cell? ⟨w.heap.size, 0, none⟩ = some (.string f.name) := by have := hcA.cell _ _ rfl 0 _ rfl; rwa [Nat.zero_add] at this
  have c1 : W1.cell? ⟨w.heap.size, 1, none⟩ = some (.bool f.inner) := by have := hcA.cell _ _ rfl 1 _ rfl; rwa [Nat.zero_add] at this
  have c2 : W1.cell? ⟨w.heap.size, 2, none⟩ = some (.slice A.o1 f.outer.length A.c1) := by have := hcA.cell _ _ rfl 2 _ rfl; rwa [Nat.zero_add] at this
  have c3 : W1.cell? ⟨w.heap.size, 3, none⟩ = some (.slice A.o2 f.params.length A.c2) := by have := hcA.cell _ _ rfl 3 _ rfl; rwa [Nat.zero_add] at this
  have c4 : W1.cell? ⟨w.heap.size, 4, none⟩ = some (.slice A.o3 f.results.length A.c3) := by have := hcA.cell _ _ rfl 4 _ rfl; rwa [Nat.zero_add] at this
  have c5 : W1.cell? ⟨w.heap.size, 5, none⟩ = some (.slice A.o4 f.locs.length A.c4) := by have := hcA.cell _ _ rfl 5 _ rfl; rwa [Nat.zero_add] at this
  have c6 : W1.cell? ⟨w.heap.size, 6, none⟩ = some (.slice A.o5 f.code.length A.c5) := by have := hcA.cell _ _ rfl 6 _ rfl; rwa [Nat.zero_add] at this
  have c7 : W1.cell? ⟨w.heap.size, 7, none⟩ = some (.slice A.o6 f.lines.length A.c6) := by have := hcA.cell _ _ rfl 7 _ rfl; rwa [Nat.zero_add] at this
  have c8 : W1.cell? ⟨w.heap.size, 8, none⟩ = some (.slice A.o7 f.nodes.length A.c7) := by have := hcA.cell _ _ rfl 8 _ rfl; rwa [Nat.zero_add] at this
  have c9 : W1.cell? ⟨w.heap.size, 9, none⟩ = some (.slice A.o8 f.ats.length A.c8) := by have := hcA.cell _ _ rfl 9 _ rfl; rwa [Nat.zero_add] at this
  have c10 : W1.cell? ⟨w.heap.size, 10, none⟩ = some (.slice A.o9 f.live.length A.c9) := by have := hcA.cell _ _ rfl 10 _ rfl; rwa [Nat.zero_add] at this
  clear hcA
  have HX0 := Lib.hid hx0
  clear hx0
  have HR : Hid (canW T f = bif mayName f.name then (bif typesF f then (bif (decide (256 < (manyF f : Int)) || (decide ((f.code.length : Int) < 1) || decide (2000 < (f.code.length : Int)))) then 6 else
    (bif f.code.any badInstr then 8 else (bif ((f.lines.length : Int) == f.code.length) && rightLines f.lines then (bif T then 0 else 14) else 19))) else 9) else 7) := rfl
  have hE0 := Ext.rf W1
  have hb0 := bcell hE0
  have HE0 := Lib.hid hE0
  clear hE0
  go_wp2_with fail
  refine (toExt (names_May _ _ HFB.out.n0)).mono ?_
  rintro e w1 ⟨rfl, hy1⟩
  clear hb0
  cases hd0 : mayName f.name with
  | true =>
    replace HR := Lib.hid (HR.out.trans (by rw [hd0, cond_true]))
    clear hd0
    have hE1 := (Ext.tr HE0.out hy1)
    have hb1 := bcell hE1
    have HE1 := Lib.hid hE1
    clear hE1
    go_wp2_with fail
    refine (fnc_types A f _ ((HFI.out.ext HX0.out).ext HE1.out) HFB.out).mono ?_
    rintro e w2 ⟨rfl, hy2⟩
    clear hb1
    cases hd1 : typesF f with
    | true =>
      replace HR := Lib.hid (HR.out.trans (by rw [hd1, cond_true]))
      clear hd1
      have hE2 := (Ext.tr HE1.out hy2)
      have hb2 := bcell hE2
      have HE2 := Lib.hid hE2
      clear hE2
      go_wp2_with fail
      refine (fnc_many A f _ HFB.out).mono ?_
      rintro e w3 ⟨rfl, hy3⟩
      clear hb2
      cases hd2 : decide (256 < (manyF f : Int)) with
      | true =>
        replace HR := Lib.hid (HR.out.trans (by rw [hd2, Bool.true_or, cond_true]))
        go_wp2_with fail
        go_ret
        exact ⟨by rw [HR.out] <;> rfl, HX0.out.tr (Ext.tr HE2.out hy3)⟩
      | false =>
        replace HR := Lib.hid (HR.out.trans (by rw [hd2, Bool.false_or]))
        have hb3 := bcell ((Ext.tr HE2.out hy3))
        rcases Bool.eq_false_or_eq_true (decide ((f.code.length : Int) < 1)) with hd3 | hd3
        · skip
          replace HR := Lib.hid (HR.out.trans (by rw [hd3, Bool.true_or, cond_true]))
          go_wp2_with fail
          go_ret
          exact ⟨by rw [HR.out] <;> rfl, HX0.out.tr (Ext.tr HE2.out hy3)⟩
        · skip
          replace HR := Lib.hid (HR.out.trans (by rw [hd3, Bool.false_or]))
          rcases Bool.eq_false_or_eq_true (decide (2000 < (f.code.length : Int))) with hd4 | hd4
          · skip
            replace HR := Lib.hid (HR.out.trans (by rw [hd4, cond_true]))
            go_wp2_with fail
            go_ret
            exact ⟨by rw [HR.out] <;> rfl, HX0.out.tr (Ext.tr HE2.out hy3)⟩
          · skip
            replace HR := Lib.hid (HR.out.trans (by rw [hd4, cond_false]))
            have hE5 := (Ext.tr HE2.out hy3)
            have hb5 := bcell hE5
            have HE5 := Lib.hid hE5
            clear hE5
            go_wp2_with fail
            refine (code_Contains _ _ _ _ (((HFI.out.ext HX0.out).ext HE5.out)).h5 HFB.out.n5).mono ?_
            rintro e w6 ⟨rfl, hy6⟩
            clear hb5
            cases hd5 : f.code.any badInstr with
            | true =>
              replace HR := Lib.hid (HR.out.trans (by rw [hd5, cond_true]))
              clear hd5
              go_wp2_with fail
              go_ret
              exact ⟨by rw [HR.out] <;> rfl, HX0.out.tr (Ext.tr HE5.out hy6)⟩
            | false =>
              replace HR := Lib.hid (HR.out.trans (by rw [hd5, cond_false]))
              clear hd5
              have hb6 := bcell ((Ext.tr HE5.out hy6))
              rcases Bool.eq_false_or_eq_true ((f.lines.length : Int) == f.code.length) with hd6 | hd6
              · skip
                replace HR := Lib.hid (HR.out.trans (by rw [hd6, Bool.true_and]))
                have hm6 : ((f.lines.length : Int) != f.code.length) = false := by rw [bne, hd6]; rfl
                have hE7 := (Ext.tr HE5.out hy6)
                have hb7 := bcell hE7
                have HE7 := Lib.hid hE7
                clear hE7
                go_wp2_with fail
                refine (lines_Right _ _ _ _ (((HFI.out.ext HX0.out).ext HE7.out)).h6 HFB.out.n6 HFB.out.v6).mono ?_
                rintro e w8 ⟨rfl, hy8⟩
                clear hb7
                cases hd7 : rightLines f.lines with
                | true =>
                  replace HR := Lib.hid (HR.out.trans (by rw [hd7, cond_true]))
                  clear hd7
                  have hE8 := (Ext.tr HE7.out hy8)
                  have hb8 := bcell hE8
                  have HE8 := Lib.hid hE8
                  clear hE8
                  go_wp2_with fail
                  refine (HT.out _ ((HFI.out.ext HX0.out).ext HE8.out)).mono ?_
                  rintro e w9 ⟨rfl, hy9⟩
                  clear hb8
                  cases hd8 : T with
                  | true =>
                    replace HR := Lib.hid (HR.out.trans (by rw [hd8, cond_true]))
                    clear hd8
                    go_wp2_with fail
                    go_ret
                    exact ⟨by rw [HR.out] <;> rfl, HX0.out.tr (Ext.tr HE8.out hy9)⟩
                  | false =>
                    replace HR := Lib.hid (HR.out.trans (by rw [hd8, cond_false]))
                    clear hd8
                    go_wp2_with fail
                    go_ret
                    exact ⟨by rw [HR.out] <;> rfl, HX0.out.tr (Ext.tr HE8.out hy9)⟩
                | false =>
                  replace HR := Lib.hid (HR.out.trans (by rw [hd7, cond_false]))
                  clear hd7
                  go_wp2_with fail
                  go_ret
                  exact ⟨by rw [HR.out] <;> rfl, HX0.out.tr (Ext.tr HE7.out hy8)⟩
              · skip
                replace HR := Lib.hid (HR.out.trans (by rw [hd6, Bool.false_and, cond_false]))
                have hm6 : ((f.lines.length : Int) != f.code.length) = true := by rw [bne, hd6]; rfl
                go_wp2_with fail
                go_ret
                exact ⟨by rw [HR.out] <;> rfl, HX0.out.tr (Ext.tr HE5.out hy6)⟩
    | false =>
      replace HR := Lib.hid (HR.out.trans (by rw [hd1, cond_false]))
      clear hd1
      go_wp2_with fail
      go_ret
      exact ⟨by rw [HR.out] <;> rfl, HX0.out.tr (Ext.tr HE1.out hy2)⟩
  | false =>
    replace HR := Lib.hid (HR.out.trans (by rw [hd0, cond_false]))
    clear hd0
    go_wp2_with fail
    go_ret
    exact ⟨by rw [HR.out] <;> rfl, HX0.out.tr (Ext.tr HE0.out hy1)⟩
end Go.Proofs.Ytofdkhilapmccaa
