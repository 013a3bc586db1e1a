/- Whether a function can be laid: the reference's Can. -/
import Derived.Test.YtofdkhilapmccaaFncU
namespace Go.Proofs.Ytofdkhilapmccaa
open Go.RowKit

theorem typesF_ref (f : FuncT) : typesF f = (rightSig f.outer 4 && (rightSig f.params 8 && (rightSig f.results 4 && (rightSig f.locs 256 && (f.inner || (f.outer.length : Int) == 0))))) := by
  rw [typesF, ownF]
  cases rightSig f.outer 4 <;> cases rightSig f.params 8 <;> cases rightSig f.results 4 <;> cases rightSig f.locs 256 <;> rfl
theorem canF_ref (f : FuncT) : canF f = bif mayName f.name then (bif (rightSig f.outer 4 && (rightSig f.params 8 && (rightSig f.results 4 && (rightSig f.locs 256 && (f.inner || (f.outer.length : Int) == 0))))) then
    (bif (decide (256 < (f.params.length : Int) + f.results.length + f.locs.length) || (decide ((f.code.length : Int) < 1) || decide (2000 < (f.code.length : Int)))) then 6 else
    (bif f.code.any badInstr then 8 else (bif ((f.lines.length : Int) == f.code.length) && rightLines f.lines then (bif tablesF f then 0 else 14) else 19))) else 9) else 7 := by
  rw [canF, canW, typesF_ref]
  rfl

set_option maxHeartbeats 8000000 in
set_option maxRecDepth 20000 in
theorem fncref_Can (A : FuncA) (f : FuncT) (w : World) (hf : FuncIn w A f) (bf : FuncB f) :
    Calls Try.prog 48 #[.agg #[.string f.name, .bool f.inner, .slice A.o1 f.outer.length A.c1, .slice A.o2 f.params.length A.c2, .slice A.o3 f.results.length A.c3, .slice A.o4 f.locs.length A.c4, .slice A.o5 f.code.length A.c5, .slice A.o6 f.lines.length A.c6, .slice A.o7 f.nodes.length A.c7, .slice A.o8 f.ats.length A.c8, .slice A.o9 f.live.length A.c9]] w fun e w' => e = .returned (.int .i64 (canF f)) ∧ Ext w w' := by
  have HFB := Lib.hid bf
  have HFI := Lib.hid hf
  have HTB : Hid (∀ W, FuncIn W A f → Calls Try.prog 110 #[.agg #[.string f.name, .bool f.inner, .slice A.o1 f.outer.length A.c1, .slice A.o2 f.params.length A.c2, .slice A.o3 f.results.length A.c3, .slice A.o4 f.locs.length A.c4, .slice A.o5 f.code.length A.c5, .slice A.o6 f.lines.length A.c6, .slice A.o7 f.nodes.length A.c7, .slice A.o8 f.ats.length A.c8, .slice A.o9 f.live.length A.c9], .int .i64 ((f.params.length : Int) + f.results.length + f.locs.length)] W fun e w' => e = .returned (.bool (tablesF f)) ∧ Ext W w') := fun W h => fncref_tables A f W h bf
  have i2 := bf.n2
  have i3 := bf.n3
  have i4 := bf.n4
  have i5 := bf.n5
  clear bf hf
  go_enter Try.func48, Try.ntmps48
  go_upto_region 2 with fail
  obtain ⟨hx0, hz0, hcA⟩ := one_box w [.string f.name, .bool f.inner, .slice A.o1 f.outer.length A.c1, .slice A.o2 f.params.length A.c2, .slice A.o3 f.results.length A.c3, .slice A.o4 f.locs.length A.c4, .slice A.o5 f.code.length A.c5, .slice A.o6 f.lines.length A.c6, .slice A.o7 f.nodes.length A.c7, .slice A.o8 f.ats.length A.c8, .slice A.o9 f.live.length A.c9] 28
  generalize hW1 : w.alloc (.cells ([.string f.name, .bool f.inner, .slice A.o1 f.outer.length A.c1, .slice A.o2 f.params.length A.c2, .slice A.o3 f.results.length A.c3, .slice A.o4 f.locs.length A.c4, .slice A.o5 f.code.length A.c5, .slice A.o6 f.lines.length A.c6, .slice A.o7 f.nodes.length A.c7, .slice A.o8 f.ats.length A.c8, .slice A.o9 f.live.length A.c9] : List Value).toArray 28) = W1 at *
  clear hW1
  have c0 : W1.cell? ⟨w.heap.size, 0, none⟩ = some (.string f.name) := by have := hcA.cell _ _ rfl 0 _ rfl; rwa [Nat.zero_add] at this
  have c1 : W1.cell? ⟨w.heap.size, 1, none⟩ = some (.bool f.inner) := by have := hcA.cell _ _ rfl 1 _ rfl; rwa [Nat.zero_add] at this
  have c2 : W1.cell? ⟨w.heap.size, 2, none⟩ = some (.slice A.o1 f.outer.length A.c1) := by have := hcA.cell _ _ rfl 2 _ rfl; rwa [Nat.zero_add] at this
  have c3 : W1.cell? ⟨w.heap.size, 3, none⟩ = some (.slice A.o2 f.params.length A.c2) := by have := hcA.cell _ _ rfl 3 _ rfl; rwa [Nat.zero_add] at this
  have c4 : W1.cell? ⟨w.heap.size, 4, none⟩ = some (.slice A.o3 f.results.length A.c3) := by have := hcA.cell _ _ rfl 4 _ rfl; rwa [Nat.zero_add] at this
  have c5 : W1.cell? ⟨w.heap.size, 5, none⟩ = some (.slice A.o4 f.locs.length A.c4) := by have := hcA.cell _ _ rfl 5 _ rfl; rwa [Nat.zero_add] at this
  have c6 : W1.cell? ⟨w.heap.size, 6, none⟩ = some (.slice A.o5 f.code.length A.c5) := by have := hcA.cell _ _ rfl 6 _ rfl; rwa [Nat.zero_add] at this
  have c7 : W1.cell? ⟨w.heap.size, 7, none⟩ = some (.slice A.o6 f.lines.length A.c6) := by have := hcA.cell _ _ rfl 7 _ rfl; rwa [Nat.zero_add] at this
  have c8 : W1.cell? ⟨w.heap.size, 8, none⟩ = some (.slice A.o7 f.nodes.length A.c7) := by have := hcA.cell _ _ rfl 8 _ rfl; rwa [Nat.zero_add] at this
  have c9 : W1.cell? ⟨w.heap.size, 9, none⟩ = some (.slice A.o8 f.ats.length A.c8) := by have := hcA.cell _ _ rfl 9 _ rfl; rwa [Nat.zero_add] at this
  have c10 : W1.cell? ⟨w.heap.size, 10, none⟩ = some (.slice A.o9 f.live.length A.c9) := by have := hcA.cell _ _ rfl 10 _ rfl; rwa [Nat.zero_add] at this
  clear hcA
  obtain ⟨I, hI⟩ : ∃ I, I = f.inner := ⟨_, rfl⟩
  rw [← hI] at c1 HTB
  have HI := Lib.hid hI
  clear hI
  have HX0 := Lib.hid hx0
  clear hx0
  have HR := Lib.hid (canF_ref f)
  have hE0 := Ext.rf W1
  have hb0 := bcell hE0
  have HE0 := Lib.hid hE0
  clear hE0
  go_wp2_with fail
  refine (toExt (namesref_May _ _ HFB.out.n0)).mono ?_
  rintro e w1 ⟨rfl, hy1⟩
  clear hb0
  cases hd0 : mayName f.name with
  | true =>
    replace HR := Lib.hid (HR.out.trans (by rw [hd0, cond_true]))
    clear hd0
    have hx1 := (Ext.tr HE0.out hy1)
    go_upto_region 4 with fail
    go_cut [21] (fun s21 wx => s21 = .bool (!(typesF f)) ∧ Ext W1 wx)
    case first =>
      have HT2 : Hid ((!(typesF f)) = !(rightSig f.outer 4 && (rightSig f.params 8 && (rightSig f.results 4 && (rightSig f.locs 256 && (I || (f.outer.length : Int) == 0)))))) := by rw [Hid, typesF_ref, HI.out]
      have hE30 := hx1
      have hb30 := bcell hE30
      have HE30 := Lib.hid hE30
      clear hE30
      go_wp2_with fail
      refine (sigref_Right _ _ _ _ _ (((HFI.out.ext HX0.out).ext HE30.out)).h1 HFB.out.n1).mono ?_
      rintro e w31 ⟨rfl, hy31⟩
      clear hb30
      cases hd30 : rightSig f.outer 4 with
      | true =>
        replace HT2 := Lib.hid (HT2.out.trans (by rw [hd30, Bool.true_and]))
        clear hd30
        have hE31 := (Ext.tr HE30.out hy31)
        have hb31 := bcell hE31
        have HE31 := Lib.hid hE31
        clear hE31
        go_wp2_with fail
        refine (sigref_Right _ _ _ _ _ (((HFI.out.ext HX0.out).ext HE31.out)).h2 HFB.out.n2).mono ?_
        rintro e w32 ⟨rfl, hy32⟩
        clear hb31
        cases hd31 : rightSig f.params 8 with
        | true =>
          replace HT2 := Lib.hid (HT2.out.trans (by rw [hd31, Bool.true_and]))
          clear hd31
          have hE32 := (Ext.tr HE31.out hy32)
          have hb32 := bcell hE32
          have HE32 := Lib.hid hE32
          clear hE32
          go_wp2_with fail
          refine (sigref_Right _ _ _ _ _ (((HFI.out.ext HX0.out).ext HE32.out)).h3 HFB.out.n3).mono ?_
          rintro e w33 ⟨rfl, hy33⟩
          clear hb32
          cases hd32 : rightSig f.results 4 with
          | true =>
            replace HT2 := Lib.hid (HT2.out.trans (by rw [hd32, Bool.true_and]))
            clear hd32
            have hE33 := (Ext.tr HE32.out hy33)
            have hb33 := bcell hE33
            have HE33 := Lib.hid hE33
            clear hE33
            go_wp2_with fail
            refine (sigref_Right _ _ _ _ _ (((HFI.out.ext HX0.out).ext HE33.out)).h4 HFB.out.n4).mono ?_
            rintro e w34 ⟨rfl, hy34⟩
            clear hb33
            cases hd33 : rightSig f.locs 256 with
            | true =>
              replace HT2 := Lib.hid (HT2.out.trans (by rw [hd33, Bool.true_and]))
              clear hd33
              have hb34 := bcell ((Ext.tr HE33.out hy34))
              rcases Bool.eq_false_or_eq_true ((f.outer.length : Int) == 0) with hd34 | hd34
              · skip
                replace HT2 := Lib.hid (HT2.out.trans (by rw [hd34, Bool.or_true]))
                have hm34 : decide ((0 : Int) < f.outer.length) = false := by rw [beq_iff_eq] at hd34; exact decide_eq_false (by omega)
                have hn34 : decide (0 < f.outer.length) = false := by rw [beq_iff_eq] at hd34; exact decide_eq_false (by omega)
                go_wp2_with fail
                go_meet
                exact ⟨by rw [HT2.out] <;> rfl, (Ext.tr HE33.out hy34)⟩
              · skip
                replace HT2 := Lib.hid (HT2.out.trans (by rw [hd34, Bool.or_false]))
                have hm34 : decide ((0 : Int) < f.outer.length) = true := by rw [beq_eq_false_iff_ne] at hd34; exact decide_eq_true (by omega)
                have hn34 : decide (0 < f.outer.length) = true := by rw [beq_eq_false_iff_ne] at hd34; exact decide_eq_true (by omega)
                rcases Bool.eq_false_or_eq_true (I) with hd35 | hd35
                · skip
                  replace HT2 := Lib.hid (HT2.out.trans (by rw [hd35]))
                  go_wp2_with fail
                  go_meet
                  exact ⟨by rw [HT2.out] <;> rfl, (Ext.tr HE33.out hy34)⟩
                · skip
                  replace HT2 := Lib.hid (HT2.out.trans (by rw [hd35]))
                  go_wp2_with fail
                  go_meet
                  exact ⟨by rw [HT2.out] <;> rfl, (Ext.tr HE33.out hy34)⟩
            | false =>
              replace HT2 := Lib.hid (HT2.out.trans (by rw [hd33, Bool.false_and]))
              clear hd33
              go_wp2_with fail
              go_meet
              exact ⟨by rw [HT2.out] <;> rfl, (Ext.tr HE33.out hy34)⟩
          | false =>
            replace HT2 := Lib.hid (HT2.out.trans (by rw [hd32, Bool.false_and]))
            clear hd32
            go_wp2_with fail
            go_meet
            exact ⟨by rw [HT2.out] <;> rfl, (Ext.tr HE32.out hy33)⟩
        | false =>
          replace HT2 := Lib.hid (HT2.out.trans (by rw [hd31, Bool.false_and]))
          clear hd31
          go_wp2_with fail
          go_meet
          exact ⟨by rw [HT2.out] <;> rfl, (Ext.tr HE31.out hy32)⟩
      | false =>
        replace HT2 := Lib.hid (HT2.out.trans (by rw [hd30, Bool.false_and]))
        clear hd30
        go_wp2_with fail
        go_meet
        exact ⟨by rw [HT2.out] <;> rfl, (Ext.tr HE30.out hy31)⟩
    case rest =>
      clear hx1
      obtain ⟨rfl, hx2⟩ := hcut
      rw [← typesF_ref] at HR
      cases ht : typesF f with
      | false =>
        replace HR := Lib.hid (HR.out.trans (by rw [ht, cond_false]))
        clear ht
        go_wp2_with fail
        go_ret
        exact ⟨by rw [HR.out] <;> rfl, HX0.out.tr hx2⟩
      | true =>
        replace HR := Lib.hid (HR.out.trans (by rw [ht, cond_true]))
        clear ht
        have hb40 := bcell (hx2)
        rcases Bool.eq_false_or_eq_true (decide (256 < (f.params.length : Int) + f.results.length + f.locs.length)) with hd40 | hd40
        · skip
          replace HR := Lib.hid (HR.out.trans (by rw [hd40, Bool.true_or, cond_true]))
          go_wp2_with fail
          go_ret
          exact ⟨by rw [HR.out] <;> rfl, HX0.out.tr hx2⟩
        · skip
          replace HR := Lib.hid (HR.out.trans (by rw [hd40, Bool.false_or]))
          rcases Bool.eq_false_or_eq_true (decide ((f.code.length : Int) < 1)) with hd41 | hd41
          · skip
            replace HR := Lib.hid (HR.out.trans (by rw [hd41, Bool.true_or, cond_true]))
            go_wp2_with fail
            go_ret
            exact ⟨by rw [HR.out] <;> rfl, HX0.out.tr hx2⟩
          · skip
            replace HR := Lib.hid (HR.out.trans (by rw [hd41, Bool.false_or]))
            rcases Bool.eq_false_or_eq_true (decide (2000 < (f.code.length : Int))) with hd42 | hd42
            · skip
              replace HR := Lib.hid (HR.out.trans (by rw [hd42, cond_true]))
              go_wp2_with fail
              go_ret
              exact ⟨by rw [HR.out] <;> rfl, HX0.out.tr hx2⟩
            · skip
              replace HR := Lib.hid (HR.out.trans (by rw [hd42, cond_false]))
              have hE := hx2
              have HA5 := Lib.hid (HFI.out.ext HX0.out).h5
              have HEE := Lib.hid hE
              have e0 := hE.has c0
              have e1 := hE.has c1
              have e2 := hE.has c2
              have e3 := hE.has c3
              have e4 := hE.has c4
              have e5 := hE.has c5
              have e6 := hE.has c6
              have e7 := hE.has c7
              have e8 := hE.has c8
              have e9 := hE.has c9
              have e10 := hE.has c10
              clear hE
              go_wp2_with fail
              go_loopw [4] (fun i wr => ∃ k : Nat, k ≤ f.code.length ∧ i = .int .i64 k ∧ Ext wc wr ∧ Hid ((f.code.take k).any badInstr = false))
                (fun i _ => f.code.length - (intOf i).toNat)
              case atStart => exact ⟨0, Nat.zero_le _, rfl, Ext.rf _, Lib.hid (by simp)⟩
              case round =>
                clear e0 e1 e2 e3 e4 e5 e7 e8 e9 e10
                obtain ⟨k, hk, rfl, hext, hno⟩ := hrel
                have k6 := hext.has e6
                clear e6
                by_cases hlt : k < f.code.length
                · obtain ⟨b, off, eo, x1, x2⟩ := (HA5.out.ext (HEE.out.tr hext)).pair hlt
                  have HS : Hid ((f.code.take (k + 1)).any badInstr = ((f.code.take k).any badInstr || badInstr f.code[k])) := by rw [Hid, List.take_succ_eq_append_getElem hlt, List.any_append]; simp
                  have HM : Hid (badInstr f.code[k] = true → f.code.any badInstr = true) := fun h => List.any_eq_true.2 ⟨_, List.getElem_mem hlt, h⟩
                  have HBD : Hid (badInstr f.code[k] = !rightInstr f.code[k]) := rfl
                  have i1 : (0 : Int) ≤ k := by omega
                  have i2 : (k : Int) < f.code.length := by omega
                  generalize f.code[k] = x at *
                  rw [eo] at k6
                  replace eo := Lib.hid eo
                  go_wp2_with fail
                  refine (instrref_Right x.1 x.2 _).mono ?_
                  rintro e w9 ⟨rfl, hx9⟩
                  have HX9 := Lib.hid (hext.tr hx9)
                  clear hx9 hext
                  change Hid (badInstr x = !rightInstr (x.1, x.2)) at HBD
                  cases hr : rightInstr (x.1, x.2) with
                  | true =>
                    have HF : Hid ((f.code.take (k + 1)).any badInstr = false) := by rw [Hid, HS.out, hno.out, HBD.out, hr]; rfl
                    clear hr
                    go_wp2_with fail
                    go_roundw
                    case rel =>
                      refine ⟨_, _, _, _, _, _, _, _, _, _, _, _, _, _, _, _, ?_, rfl⟩
                      exact ⟨k + 1, by omega, by go_num, HX9.out, HF⟩
                    case measure => simp [intOf]; omega
                  | false =>
                    have HT := Lib.hid (HM.out (by rw [HBD.out, hr]; rfl))
                    replace HR := Lib.hid (HR.out.trans (by rw [HT.out, cond_true]))
                    clear hr
                    go_wp2_with fail
                    go_ret
                    exact ⟨by rw [HR.out] <;> rfl, HX0.out.tr (HEE.out.tr HX9.out)⟩
                · obtain rfl : k = f.code.length := by omega
                  rw [List.take_of_length_le (Nat.le_refl _)] at hno
                  replace HR := Lib.hid (HR.out.trans (by rw [hno.out, cond_false]))
                  have hx9 := HEE.out.tr hext
                  clear k6
                  have hb20 := bcell (hx9)
                  rcases Bool.eq_false_or_eq_true ((f.lines.length : Int) == f.code.length) with hd20 | hd20
                  · skip
                    replace HR := Lib.hid (HR.out.trans (by rw [hd20, Bool.true_and]))
                    have hm20 : ((f.lines.length : Int) != f.code.length) = false := by rw [bne, hd20]; rfl
                    have hE21 := hx9
                    have hb21 := bcell hE21
                    have HE21 := Lib.hid hE21
                    clear hE21
                    go_wp2_with fail
                    refine (linesref_Right _ _ f.lines _ (((HFI.out.ext HX0.out).ext HE21.out)).h6 HFB.out.n6).mono ?_
                    rintro e w22 ⟨rfl, hy22⟩
                    clear hb21
                    cases hd21 : rightLines f.lines with
                    | true =>
                      replace HR := Lib.hid (HR.out.trans (by rw [hd21, cond_true]))
                      clear hd21
                      have hE22 := (Ext.tr HE21.out hy22)
                      have hb22 := bcell hE22
                      have HE22 := Lib.hid hE22
                      clear hE22
                      go_wp2_with fail
                      refine (HTB.out _ ((HFI.out.ext HX0.out).ext HE22.out)).mono ?_
                      rintro e w23 ⟨rfl, hy23⟩
                      clear hb22
                      cases hd22 : tablesF f with
                      | true =>
                        replace HR := Lib.hid (HR.out.trans (by rw [hd22, cond_true]))
                        clear hd22
                        go_wp2_with fail
                        go_ret
                        exact ⟨by rw [HR.out] <;> rfl, HX0.out.tr (Ext.tr HE22.out hy23)⟩
                      | false =>
                        replace HR := Lib.hid (HR.out.trans (by rw [hd22, cond_false]))
                        clear hd22
                        go_wp2_with fail
                        go_ret
                        exact ⟨by rw [HR.out] <;> rfl, HX0.out.tr (Ext.tr HE22.out hy23)⟩
                    | false =>
                      replace HR := Lib.hid (HR.out.trans (by rw [hd21, cond_false]))
                      clear hd21
                      go_wp2_with fail
                      go_ret
                      exact ⟨by rw [HR.out] <;> rfl, HX0.out.tr (Ext.tr HE21.out hy22)⟩
                  · skip
                    replace HR := Lib.hid (HR.out.trans (by rw [hd20, Bool.false_and, cond_false]))
                    have hm20 : ((f.lines.length : Int) != f.code.length) = true := by rw [bne, hd20]; rfl
                    go_wp2_with fail
                    go_ret
                    exact ⟨by rw [HR.out] <;> rfl, HX0.out.tr hx9⟩
  | false =>
    replace HR := Lib.hid (HR.out.trans (by rw [hd0, cond_false]))
    clear hd0
    go_wp2_with fail
    go_ret
    exact ⟨by rw [HR.out] <;> rfl, HX0.out.tr (Ext.tr HE0.out hy1)⟩
end Go.Proofs.Ytofdkhilapmccaa
