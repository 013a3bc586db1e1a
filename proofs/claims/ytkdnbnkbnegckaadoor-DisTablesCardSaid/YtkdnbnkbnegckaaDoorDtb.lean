/- The law DisTables, walked. -/
import Derived.Test.YtkdnbnkbnegckaaDoorTbl
import Derived.Test.YtkdnbnkbnegckaaDoorLvs
namespace Go.Proofs.YtkdnbnkbnegckaaDoor
open Go.RowKit Go.Shelf
set_option maxRecDepth 20000
set_option linter.unusedVariables false
set_option maxHeartbeats 4000000 in
theorem dis_Func_walk (f : Fn) (cs : List Value) (w : World) (hcs : RepCs w W0 (enc tF f) cs) (hf : OkT f) :
    Calls Tryd.prog 11 #[.agg cs.toArray] w fun e W' => e = .returned (.string ⟨⟨funcT f⟩⟩) ∧ Ext w W' := by
  have HW := Lib.hid fun (b : Nat) (W : World) (h : IsWr w.heap.size b [] W) (hx : Ext w W) => wr_write w b [] f cs W h hx hcs hf (by decide)
  obtain ⟨a1, c1, a2, c2, a3, c3, a4, c4, a5, c5, a6, c6, a7, c7, a8, c8, a9, c9, hcse⟩ := fn_cells hcs
  subst hcse
  obtain ⟨nm, inn, ou, pa, re, lo, code, lines, no, at', lv⟩ := f
  have hne := funcT_ne (nm, inn, ou, pa, re, lo, code, lines, no, at', lv)
  generalize funcT (nm, inn, ou, pa, re, lo, code, lines, no, at', lv) = ft at *
  rw [List.nil_append] at HW
  clear hcs hf
  go_enter Tryd.func11, Tryd.ntmps11
  dsimp only at *
  have hA : Ext w (w.alloc (.cells #[.string ⟨⟨nm⟩⟩, .bool inn, .slice a1 ou.length c1, .slice a2 pa.length c2, .slice a3 re.length c3, .slice a4 lo.length c4, .slice a5 code.length c5, .slice a6 lines.length c6, .slice a7 no.length c7, .slice a8 at'.length c8, .slice a9 lv.length c9] 28)) := (Ext.rf w).al _
  have hbx := alloc_new w (.cells #[.string ⟨⟨nm⟩⟩, .bool inn, .slice a1 ou.length c1, .slice a2 pa.length c2, .slice a3 re.length c3, .slice a4 lo.length c4, .slice a5 code.length c5, .slice a6 lines.length c6, .slice a7 no.length c7, .slice a8 at'.length c8, .slice a9 lv.length c9] 28)
  have hsz : (w.alloc (.cells #[.string ⟨⟨nm⟩⟩, .bool inn, .slice a1 ou.length c1, .slice a2 pa.length c2, .slice a3 re.length c3, .slice a4 lo.length c4, .slice a5 code.length c5, .slice a6 lines.length c6, .slice a7 no.length c7, .slice a8 at'.length c8, .slice a9 lv.length c9] 28)).heap.size = w.heap.size + 1 := by simp
  have hX := Lib.hid (hA.al (.cells #[.pointer none, .slice none 0 0] 53))
  have hI : Hid (IsWr w.heap.size (w.alloc (.cells #[.string ⟨⟨nm⟩⟩, .bool inn, .slice a1 ou.length c1, .slice a2 pa.length c2, .slice a3 re.length c3, .slice a4 lo.length c4, .slice a5 code.length c5, .slice a6 lines.length c6, .slice a7 no.length c7, .slice a8 at'.length c8, .slice a9 lv.length c9] 28)).heap.size [] ((w.alloc (.cells #[.string ⟨⟨nm⟩⟩, .bool inn, .slice a1 ou.length c1, .slice a2 pa.length c2, .slice a3 re.length c3, .slice a4 lo.length c4, .slice a5 code.length c5, .slice a6 lines.length c6, .slice a7 no.length c7, .slice a8 at'.length c8, .slice a9 lv.length c9] 28)).alloc (.cells #[.pointer none, .slice none 0 0] 53))) := Lib.hid (.inl ⟨by simp, .slice none 0 0, alloc_new _ _, ⟨rfl, .inl ⟨rfl, rfl⟩⟩, by simp [Value.ownBlock]⟩)
  rw [hsz] at hI
  clear hA hbx hsz
  go_wp2_with fail
  refine (HW.out _ _ hI.out hX.out).mono ?_
  rintro e wd ⟨rfl, hwd, hxd⟩
  have HQ := Lib.hid (wr_String w.heap.size (w.heap.size + 1) ft wd (.inr hwd) hne)
  have HXd := Lib.hid hxd
  clear hwd hxd hI hX HW
  go_wp2_with fail
  refine HQ.out.mono ?_
  rintro e wz ⟨rfl, hz⟩
  have HZ := Lib.hid (Below.trans HXd.out hz)
  clear hz HQ HXd
  go_wp2_with fail
  go_ret
  exact ⟨rfl, HZ.out⟩
section
variable {name : List UInt8} {inner : Bool} {outer params results locals lines at' : List Int} {code : List (Int × Int)} {nodes : List Nd} {live : List St}
theorem canE_ok (h : canE name inner outer params results locals code lines nodes at' live = 0) : mayQ name = true ∧ tablesQ code nodes at' live (params.length + results.length + locals.length) = true := by
  unfold canE at h
  repeat' split at h
  all_goals first
    | (exfalso; revert h; decide)
    | skip
  rename_i h1 _ _ _ _ h6
  exact ⟨by simpa using h1, by simpa using h6⟩
theorem mayQ_len (h : mayQ name = true) : name.length ≤ 12 := by
  cases name with
  | nil => simp
  | cons x l =>
    simp only [mayQ, Bool.and_eq_true, decide_eq_true_eq] at h
    simp only [List.length_cons]
    omega
theorem tablesQ_ok {k : Nat} (h : tablesQ code nodes at' live k = true) : bareQ nodes at' live = true ∨ rightTree (nodes.map nodeOf) = true := by
  simp only [tablesQ, Bool.or_eq_true, Bool.and_eq_true] at h
  rcases h with h | h
  · exact .inl h
  · exact .inr h.1.1.1.1
theorem okD_more (h : OkD tF (name, inner, outer, params, results, locals, code, lines, nodes, at', live)) : name.length ≤ 140737488351232 ∧ (∀ n ∈ nodes.map nodeOf, Node64 n) ∧ (∀ v ∈ at', I64s v) ∧ ∀ s ∈ live, U64S s := by
  obtain ⟨h1, -, -, -, -, -, -, -, ⟨-, h8⟩, ⟨-, h9⟩, ⟨-, h10⟩⟩ := h
  refine ⟨h1, fun n hn => ?_, h9, h10⟩
  obtain ⟨y, hy, rfl⟩ := List.mem_map.1 hn
  exact h8 y hy
theorem law_ok (hd : OkD tF (name, inner, outer, params, results, locals, code, lines, nodes, at', live)) (hs : smallB outer params results locals lines at' code nodes live = true) :
    (canE name inner outer params results locals code lines nodes at' live = 0 → OkT (name, inner, outer, params, results, locals, code, lines, nodes, at', live) ∧ OkB (name, inner, outer, params, results, locals, code, lines, nodes, at', live)) ∧ LenF outer params results locals code lines nodes at' live := by
  obtain ⟨-, -, -, -, d5, d6⟩ := okD_dat hd
  obtain ⟨e1, e2, e3, e4⟩ := okD_more hd
  simp only [smallB, decide_eq_true_eq] at hs
  refine ⟨fun hc => ?_, by unfold LenF; omega⟩
  obtain ⟨c1, c2⟩ := canE_ok hc
  have c3 := mayQ_len c1
  refine ⟨⟨⟨by show name.length ≤ _; omega, by show outer.length ≤ _; omega, by show params.length ≤ _; omega, by show results.length ≤ _; omega, by show locals.length ≤ _; omega⟩, by show code.length ≤ _; omega, d6, d5⟩, by show code.length ≤ _; omega, by show nodes.length ≤ _; omega, by show at'.length ≤ _; omega, by show live.length ≤ _; omega, e3, e4, e2, tablesQ_ok c2⟩
end
set_option maxHeartbeats 8000000 in
theorem DisTables_walk (x : Fn) (cs : List Value) (w : World) (hx : DatR tF w cs x) (hT : TabAt 0 Lib.deBruijn64tab w) (hw0 : 0 < w.heap.size) :
    Calls Tryd.prog 3 #[.agg cs.toArray] w fun e w' => e = .returned (.bool true) ∧ Ext w w' := by
  obtain ⟨hcs, hok⟩ := hx
  obtain ⟨a1, c1, a2, c2, a3, c3, a4, c4, a5, c5, a6, c6, a7, c7, a8, c8, a9, c9, hcse⟩ := fn_cells hcs
  subst hcse
  obtain ⟨nm, inn, ou, pa, re, lo, code, lines, no, at', lv⟩ := x
  obtain ⟨o1, o2, o3, o4, -⟩ := okD_dat hok
  have HS := Lib.hid fun (W : World) (h : Ext w W) => c_Small (rep_below hcs h) (show BoundV (nm, (inn, (ou, (pa, (re, (lo, (code, (lines, (no, (at', lv)))))))))) from ⟨o1, o2, o3, o4⟩)
  have HO := Lib.hid fun hs => law_ok hok hs
  have HC := Lib.hid fun (hs : LenF ou pa re lo code lines no at' lv) (W : World) (h : Ext w W) => c_rCan (rep_below hcs h) (show Len nm from (okD_more hok).1) hs
  have HT1 := Lib.hid fun (hb : OkB (nm, (inn, (ou, (pa, (re, (lo, (code, (lines, (no, (at', lv))))))))))) (W : World) (h : Ext w W) => dis_Tables_walk (nm, (inn, (ou, (pa, (re, (lo, (code, (lines, (no, (at', lv)))))))))) _ W (rep_below hcs h) hb (tabAt_below hT hw0 h) (Nat.lt_of_lt_of_le hw0 h.size)
  have HT2 := Lib.hid fun (hb : OkB (nm, (inn, (ou, (pa, (re, (lo, (code, (lines, (no, (at', lv))))))))))) (W : World) (h : Ext w W) => c_rTables (rep_below hcs h) hb
  have HH1 := Lib.hid fun (hb : OkT (nm, (inn, (ou, (pa, (re, (lo, (code, (lines, (no, (at', lv))))))))))) (W : World) (h : Ext w W) => c_Head hb (rep_below hcs h)
  have HH2 := Lib.hid fun (hb : OkT (nm, (inn, (ou, (pa, (re, (lo, (code, (lines, (no, (at', lv))))))))))) (W : World) (h : Ext w W) => c_rHead (rep_below hcs h) hb
  have HF1 := Lib.hid fun (hb : OkT (nm, (inn, (ou, (pa, (re, (lo, (code, (lines, (no, (at', lv))))))))))) (W : World) (h : Ext w W) => dis_Func_walk (nm, (inn, (ou, (pa, (re, (lo, (code, (lines, (no, (at', lv)))))))))) _ W (rep_below hcs h) hb
  have HF2 := Lib.hid fun (hb : OkT (nm, (inn, (ou, (pa, (re, (lo, (code, (lines, (no, (at', lv))))))))))) (W : World) (h : Ext w W) => c_rFunc (rep_below hcs h) hb
  dsimp only at HS HO HC HT1 HT2 HH1 HH2 HF1 HF2
  generalize canE nm inn ou pa re lo code lines no at' lv = ce at *
  generalize tabT code.length no at' lv = tx at *
  generalize headT nm inn ou pa re lo = hd at *
  generalize funcT (nm, (inn, (ou, (pa, (re, (lo, (code, (lines, (no, (at', lv)))))))))) = ft at *
  clear o1 o2 o3 o4 hT hw0 hcs hok
  have hxA : Ext w (w.alloc (.cells #[.string ⟨⟨nm⟩⟩, .bool inn, .slice a1 ou.length c1, .slice a2 pa.length c2, .slice a3 re.length c3, .slice a4 lo.length c4, .slice a5 code.length c5, .slice a6 lines.length c6, .slice a7 no.length c7, .slice a8 at'.length c8, .slice a9 lv.length c9] 28)) := (Ext.rf w).al _
  have HXA := Lib.hid hxA
  have hbx := alloc_new w (.cells #[.string ⟨⟨nm⟩⟩, .bool inn, .slice a1 ou.length c1, .slice a2 pa.length c2, .slice a3 re.length c3, .slice a4 lo.length c4, .slice a5 code.length c5, .slice a6 lines.length c6, .slice a7 no.length c7, .slice a8 at'.length c8, .slice a9 lv.length c9] 28)
  have HBx := Lib.hid hbx
  clear hxA hbx
  go_enter Tryd.func3, Tryd.ntmps3
  go_wp2_with fail
  refine (HS.out _ HXA.out).mono ?_
  rintro e w1 ⟨rfl, hx1⟩
  have hb1 := (hx1.block (by simp)).trans HBx.out
  have kx : Hid (w1.cell? ⟨w.heap.size, 0, none⟩ = some (.string ⟨⟨nm⟩⟩) ∧ w1.cell? ⟨w.heap.size, 1, none⟩ = some (.bool inn) ∧ w1.cell? ⟨w.heap.size, 2, none⟩ = some (.slice a1 ou.length c1) ∧ w1.cell? ⟨w.heap.size, 3, none⟩ = some (.slice a2 pa.length c2) ∧ w1.cell? ⟨w.heap.size, 4, none⟩ = some (.slice a3 re.length c3) ∧ w1.cell? ⟨w.heap.size, 5, none⟩ = some (.slice a4 lo.length c4) ∧ w1.cell? ⟨w.heap.size, 6, none⟩ = some (.slice a5 code.length c5) ∧ w1.cell? ⟨w.heap.size, 7, none⟩ = some (.slice a6 lines.length c6) ∧ w1.cell? ⟨w.heap.size, 8, none⟩ = some (.slice a7 no.length c7) ∧ w1.cell? ⟨w.heap.size, 9, none⟩ = some (.slice a8 at'.length c8) ∧ w1.cell? ⟨w.heap.size, 10, none⟩ = some (.slice a9 lv.length c9)) := Lib.hid ⟨blk hb1 0 rfl, blk hb1 1 rfl, blk hb1 2 rfl, blk hb1 3 rfl, blk hb1 4 rfl, blk hb1 5 rfl, blk hb1 6 rfl, blk hb1 7 rfl, blk hb1 8 rfl, blk hb1 9 rfl, blk hb1 10 rfl⟩
  have HX1 := Lib.hid (HXA.out.tr hx1)
  clear hx1 HS HXA hb1 HBx
  cases hs : smallB ou pa re lo lines at' code no lv with
  | false =>
    go_wp2_with fail
    refine (lives_walk _).mono ?_
    rintro e w2 ⟨rfl, hx2⟩
    have HX2 := Lib.hid (HX1.out.tr hx2)
    clear hx2
    go_wp2_with fail
    go_ret
    exact ⟨rfl, HX2.out⟩
  | true =>
    obtain ⟨hO, hL⟩ := HO.out hs
    have HO2 := Lib.hid hO
    have HC2 := Lib.hid (HC.out hL)
    clear hO hL HO HC
    obtain ⟨f0, f1, f2, f3, f4, f5, f6, f7, f8, f9, f10⟩ := kx.out
    go_wp2_with fail
    refine (HC2.out _ HX1.out).mono ?_
    rintro e w2 ⟨rfl, hx2⟩
    have HX2 := Lib.hid (HX1.out.tr hx2)
    have kx2 : Hid (w2.cell? ⟨w.heap.size, 0, none⟩ = some (.string ⟨⟨nm⟩⟩) ∧ w2.cell? ⟨w.heap.size, 1, none⟩ = some (.bool inn) ∧ w2.cell? ⟨w.heap.size, 2, none⟩ = some (.slice a1 ou.length c1) ∧ w2.cell? ⟨w.heap.size, 3, none⟩ = some (.slice a2 pa.length c2) ∧ w2.cell? ⟨w.heap.size, 4, none⟩ = some (.slice a3 re.length c3) ∧ w2.cell? ⟨w.heap.size, 5, none⟩ = some (.slice a4 lo.length c4) ∧ w2.cell? ⟨w.heap.size, 6, none⟩ = some (.slice a5 code.length c5) ∧ w2.cell? ⟨w.heap.size, 7, none⟩ = some (.slice a6 lines.length c6) ∧ w2.cell? ⟨w.heap.size, 8, none⟩ = some (.slice a7 no.length c7) ∧ w2.cell? ⟨w.heap.size, 9, none⟩ = some (.slice a8 at'.length c8) ∧ w2.cell? ⟨w.heap.size, 10, none⟩ = some (.slice a9 lv.length c9)) := Lib.hid ⟨hx2.has f0, hx2.has f1, hx2.has f2, hx2.has f3, hx2.has f4, hx2.has f5, hx2.has f6, hx2.has f7, hx2.has f8, hx2.has f9, hx2.has f10⟩
    clear hx2 HC2 HX1 kx f0 f1 f2 f3 f4 f5 f6 f7 f8 f9 f10
    by_cases hc : ce = 0
    · subst hc
      obtain ⟨hot, hob⟩ := HO2.out rfl
      have HT1 := Lib.hid (HT1.out hob)
      have HT2 := Lib.hid (HT2.out hob)
      have HH1 := Lib.hid (HH1.out hot)
      have HH2 := Lib.hid (HH2.out hot)
      have HF1 := Lib.hid (HF1.out hot)
      have HF2 := Lib.hid (HF2.out hot)
      clear hot hob HO2
      obtain ⟨f0, f1, f2, f3, f4, f5, f6, f7, f8, f9, f10⟩ := kx2.out
      go_wp2_with fail
      go_region_held3 (fun w' => w'.cell? ⟨w.heap.size, 0, none⟩ = some (.string ⟨⟨nm⟩⟩) ∧ w'.cell? ⟨w.heap.size, 1, none⟩ = some (.bool inn) ∧ w'.cell? ⟨w.heap.size, 2, none⟩ = some (.slice a1 ou.length c1) ∧ w'.cell? ⟨w.heap.size, 3, none⟩ = some (.slice a2 pa.length c2) ∧ w'.cell? ⟨w.heap.size, 4, none⟩ = some (.slice a3 re.length c3) ∧ w'.cell? ⟨w.heap.size, 5, none⟩ = some (.slice a4 lo.length c4) ∧ w'.cell? ⟨w.heap.size, 6, none⟩ = some (.slice a5 code.length c5) ∧ w'.cell? ⟨w.heap.size, 7, none⟩ = some (.slice a6 lines.length c6) ∧ w'.cell? ⟨w.heap.size, 8, none⟩ = some (.slice a7 no.length c7) ∧ w'.cell? ⟨w.heap.size, 9, none⟩ = some (.slice a8 at'.length c8) ∧ w'.cell? ⟨w.heap.size, 10, none⟩ = some (.slice a9 lv.length c9)) (first | assumption | (refine ⟨?_, ?_, ?_, ?_, ?_, ?_, ?_, ?_, ?_, ?_, ?_⟩ <;> first | assumption | skip) | (refine ⟨Ext.has (a := w2) ?_ kx2.out.1, Ext.has (a := w2) ?_ kx2.out.2.1, Ext.has (a := w2) ?_ kx2.out.2.2.1, Ext.has (a := w2) ?_ kx2.out.2.2.2.1, Ext.has (a := w2) ?_ kx2.out.2.2.2.2.1, Ext.has (a := w2) ?_ kx2.out.2.2.2.2.2.1, Ext.has (a := w2) ?_ kx2.out.2.2.2.2.2.2.1, Ext.has (a := w2) ?_ kx2.out.2.2.2.2.2.2.2.1, Ext.has (a := w2) ?_ kx2.out.2.2.2.2.2.2.2.2.1, Ext.has (a := w2) ?_ kx2.out.2.2.2.2.2.2.2.2.2.1, Ext.has (a := w2) ?_ kx2.out.2.2.2.2.2.2.2.2.2.2⟩ <;> (repeat' (first | exact Ext.rf _ | refine Ext.al ?_ _ | refine Ext.dr ?_ | refine Ext.trh (by assumption) ?_)); done))
        (first | ((with_reducible show Calls _ 7 _ _ _); (with_reducible refine (HT1.out _ (HX2.out.tr ?_)).mono ?_); (repeat' (first | exact Ext.rf _ | refine Ext.al ?_ _ | refine Ext.dr ?_ | refine Ext.trh (by assumption) ?_)); rintro e va ⟨rfl, hxva⟩; have Hva := Lib.hid hxva; clear hxva f0 f1 f2 f3 f4 f5 f6 f7 f8 f9 f10; have f0 : va.cell? ⟨w.heap.size, 0, none⟩ = _ := Ext.has (a := w2) (by (repeat' (first | exact Ext.rf _ | refine Ext.al ?_ _ | refine Ext.dr ?_ | refine Ext.trh (by assumption) ?_))) kx2.out.1; have f1 : va.cell? ⟨w.heap.size, 1, none⟩ = _ := Ext.has (a := w2) (by (repeat' (first | exact Ext.rf _ | refine Ext.al ?_ _ | refine Ext.dr ?_ | refine Ext.trh (by assumption) ?_))) kx2.out.2.1; have f2 : va.cell? ⟨w.heap.size, 2, none⟩ = _ := Ext.has (a := w2) (by (repeat' (first | exact Ext.rf _ | refine Ext.al ?_ _ | refine Ext.dr ?_ | refine Ext.trh (by assumption) ?_))) kx2.out.2.2.1; have f3 : va.cell? ⟨w.heap.size, 3, none⟩ = _ := Ext.has (a := w2) (by (repeat' (first | exact Ext.rf _ | refine Ext.al ?_ _ | refine Ext.dr ?_ | refine Ext.trh (by assumption) ?_))) kx2.out.2.2.2.1; have f4 : va.cell? ⟨w.heap.size, 4, none⟩ = _ := Ext.has (a := w2) (by (repeat' (first | exact Ext.rf _ | refine Ext.al ?_ _ | refine Ext.dr ?_ | refine Ext.trh (by assumption) ?_))) kx2.out.2.2.2.2.1; have f5 : va.cell? ⟨w.heap.size, 5, none⟩ = _ := Ext.has (a := w2) (by (repeat' (first | exact Ext.rf _ | refine Ext.al ?_ _ | refine Ext.dr ?_ | refine Ext.trh (by assumption) ?_))) kx2.out.2.2.2.2.2.1; have f6 : va.cell? ⟨w.heap.size, 6, none⟩ = _ := Ext.has (a := w2) (by (repeat' (first | exact Ext.rf _ | refine Ext.al ?_ _ | refine Ext.dr ?_ | refine Ext.trh (by assumption) ?_))) kx2.out.2.2.2.2.2.2.1; have f7 : va.cell? ⟨w.heap.size, 7, none⟩ = _ := Ext.has (a := w2) (by (repeat' (first | exact Ext.rf _ | refine Ext.al ?_ _ | refine Ext.dr ?_ | refine Ext.trh (by assumption) ?_))) kx2.out.2.2.2.2.2.2.2.1; have f8 : va.cell? ⟨w.heap.size, 8, none⟩ = _ := Ext.has (a := w2) (by (repeat' (first | exact Ext.rf _ | refine Ext.al ?_ _ | refine Ext.dr ?_ | refine Ext.trh (by assumption) ?_))) kx2.out.2.2.2.2.2.2.2.2.1; have f9 : va.cell? ⟨w.heap.size, 9, none⟩ = _ := Ext.has (a := w2) (by (repeat' (first | exact Ext.rf _ | refine Ext.al ?_ _ | refine Ext.dr ?_ | refine Ext.trh (by assumption) ?_))) kx2.out.2.2.2.2.2.2.2.2.2.1; have f10 : va.cell? ⟨w.heap.size, 10, none⟩ = _ := Ext.has (a := w2) (by (repeat' (first | exact Ext.rf _ | refine Ext.al ?_ _ | refine Ext.dr ?_ | refine Ext.trh (by assumption) ?_))) kx2.out.2.2.2.2.2.2.2.2.2.2) | ((with_reducible show Calls _ 8 _ _ _); (with_reducible refine (HT2.out _ (HX2.out.tr ?_)).mono ?_); (repeat' (first | exact Ext.rf _ | refine Ext.al ?_ _ | refine Ext.dr ?_ | refine Ext.trh (by assumption) ?_)); rintro e vb ⟨rfl, hxvb⟩; have Hvb := Lib.hid hxvb; clear hxvb f0 f1 f2 f3 f4 f5 f6 f7 f8 f9 f10; have f0 : vb.cell? ⟨w.heap.size, 0, none⟩ = _ := Ext.has (a := w2) (by (repeat' (first | exact Ext.rf _ | refine Ext.al ?_ _ | refine Ext.dr ?_ | refine Ext.trh (by assumption) ?_))) kx2.out.1; have f1 : vb.cell? ⟨w.heap.size, 1, none⟩ = _ := Ext.has (a := w2) (by (repeat' (first | exact Ext.rf _ | refine Ext.al ?_ _ | refine Ext.dr ?_ | refine Ext.trh (by assumption) ?_))) kx2.out.2.1; have f2 : vb.cell? ⟨w.heap.size, 2, none⟩ = _ := Ext.has (a := w2) (by (repeat' (first | exact Ext.rf _ | refine Ext.al ?_ _ | refine Ext.dr ?_ | refine Ext.trh (by assumption) ?_))) kx2.out.2.2.1; have f3 : vb.cell? ⟨w.heap.size, 3, none⟩ = _ := Ext.has (a := w2) (by (repeat' (first | exact Ext.rf _ | refine Ext.al ?_ _ | refine Ext.dr ?_ | refine Ext.trh (by assumption) ?_))) kx2.out.2.2.2.1; have f4 : vb.cell? ⟨w.heap.size, 4, none⟩ = _ := Ext.has (a := w2) (by (repeat' (first | exact Ext.rf _ | refine Ext.al ?_ _ | refine Ext.dr ?_ | refine Ext.trh (by assumption) ?_))) kx2.out.2.2.2.2.1; have f5 : vb.cell? ⟨w.heap.size, 5, none⟩ = _ := Ext.has (a := w2) (by (repeat' (first | exact Ext.rf _ | refine Ext.al ?_ _ | refine Ext.dr ?_ | refine Ext.trh (by assumption) ?_))) kx2.out.2.2.2.2.2.1; have f6 : vb.cell? ⟨w.heap.size, 6, none⟩ = _ := Ext.has (a := w2) (by (repeat' (first | exact Ext.rf _ | refine Ext.al ?_ _ | refine Ext.dr ?_ | refine Ext.trh (by assumption) ?_))) kx2.out.2.2.2.2.2.2.1; have f7 : vb.cell? ⟨w.heap.size, 7, none⟩ = _ := Ext.has (a := w2) (by (repeat' (first | exact Ext.rf _ | refine Ext.al ?_ _ | refine Ext.dr ?_ | refine Ext.trh (by assumption) ?_))) kx2.out.2.2.2.2.2.2.2.1; have f8 : vb.cell? ⟨w.heap.size, 8, none⟩ = _ := Ext.has (a := w2) (by (repeat' (first | exact Ext.rf _ | refine Ext.al ?_ _ | refine Ext.dr ?_ | refine Ext.trh (by assumption) ?_))) kx2.out.2.2.2.2.2.2.2.2.1; have f9 : vb.cell? ⟨w.heap.size, 9, none⟩ = _ := Ext.has (a := w2) (by (repeat' (first | exact Ext.rf _ | refine Ext.al ?_ _ | refine Ext.dr ?_ | refine Ext.trh (by assumption) ?_))) kx2.out.2.2.2.2.2.2.2.2.2.1; have f10 : vb.cell? ⟨w.heap.size, 10, none⟩ = _ := Ext.has (a := w2) (by (repeat' (first | exact Ext.rf _ | refine Ext.al ?_ _ | refine Ext.dr ?_ | refine Ext.trh (by assumption) ?_))) kx2.out.2.2.2.2.2.2.2.2.2.2) | ((with_reducible show Calls _ 9 _ _ _); (with_reducible refine (HH1.out _ (HX2.out.tr ?_)).mono ?_); (repeat' (first | exact Ext.rf _ | refine Ext.al ?_ _ | refine Ext.dr ?_ | refine Ext.trh (by assumption) ?_)); rintro e vc ⟨rfl, hxvc⟩; have Hvc := Lib.hid hxvc; clear hxvc f0 f1 f2 f3 f4 f5 f6 f7 f8 f9 f10; have f0 : vc.cell? ⟨w.heap.size, 0, none⟩ = _ := Ext.has (a := w2) (by (repeat' (first | exact Ext.rf _ | refine Ext.al ?_ _ | refine Ext.dr ?_ | refine Ext.trh (by assumption) ?_))) kx2.out.1; have f1 : vc.cell? ⟨w.heap.size, 1, none⟩ = _ := Ext.has (a := w2) (by (repeat' (first | exact Ext.rf _ | refine Ext.al ?_ _ | refine Ext.dr ?_ | refine Ext.trh (by assumption) ?_))) kx2.out.2.1; have f2 : vc.cell? ⟨w.heap.size, 2, none⟩ = _ := Ext.has (a := w2) (by (repeat' (first | exact Ext.rf _ | refine Ext.al ?_ _ | refine Ext.dr ?_ | refine Ext.trh (by assumption) ?_))) kx2.out.2.2.1; have f3 : vc.cell? ⟨w.heap.size, 3, none⟩ = _ := Ext.has (a := w2) (by (repeat' (first | exact Ext.rf _ | refine Ext.al ?_ _ | refine Ext.dr ?_ | refine Ext.trh (by assumption) ?_))) kx2.out.2.2.2.1; have f4 : vc.cell? ⟨w.heap.size, 4, none⟩ = _ := Ext.has (a := w2) (by (repeat' (first | exact Ext.rf _ | refine Ext.al ?_ _ | refine Ext.dr ?_ | refine Ext.trh (by assumption) ?_))) kx2.out.2.2.2.2.1; have f5 : vc.cell? ⟨w.heap.size, 5, none⟩ = _ := Ext.has (a := w2) (by (repeat' (first | exact Ext.rf _ | refine Ext.al ?_ _ | refine Ext.dr ?_ | refine Ext.trh (by assumption) ?_))) kx2.out.2.2.2.2.2.1; have f6 : vc.cell? ⟨w.heap.size, 6, none⟩ = _ := Ext.has (a := w2) (by (repeat' (first | exact Ext.rf _ | refine Ext.al ?_ _ | refine Ext.dr ?_ | refine Ext.trh (by assumption) ?_))) kx2.out.2.2.2.2.2.2.1; have f7 : vc.cell? ⟨w.heap.size, 7, none⟩ = _ := Ext.has (a := w2) (by (repeat' (first | exact Ext.rf _ | refine Ext.al ?_ _ | refine Ext.dr ?_ | refine Ext.trh (by assumption) ?_))) kx2.out.2.2.2.2.2.2.2.1; have f8 : vc.cell? ⟨w.heap.size, 8, none⟩ = _ := Ext.has (a := w2) (by (repeat' (first | exact Ext.rf _ | refine Ext.al ?_ _ | refine Ext.dr ?_ | refine Ext.trh (by assumption) ?_))) kx2.out.2.2.2.2.2.2.2.2.1; have f9 : vc.cell? ⟨w.heap.size, 9, none⟩ = _ := Ext.has (a := w2) (by (repeat' (first | exact Ext.rf _ | refine Ext.al ?_ _ | refine Ext.dr ?_ | refine Ext.trh (by assumption) ?_))) kx2.out.2.2.2.2.2.2.2.2.2.1; have f10 : vc.cell? ⟨w.heap.size, 10, none⟩ = _ := Ext.has (a := w2) (by (repeat' (first | exact Ext.rf _ | refine Ext.al ?_ _ | refine Ext.dr ?_ | refine Ext.trh (by assumption) ?_))) kx2.out.2.2.2.2.2.2.2.2.2.2) | ((with_reducible show Calls _ 10 _ _ _); (with_reducible refine (HH2.out _ (HX2.out.tr ?_)).mono ?_); (repeat' (first | exact Ext.rf _ | refine Ext.al ?_ _ | refine Ext.dr ?_ | refine Ext.trh (by assumption) ?_)); rintro e vd ⟨rfl, hxvd⟩; have Hvd := Lib.hid hxvd; clear hxvd f0 f1 f2 f3 f4 f5 f6 f7 f8 f9 f10; have f0 : vd.cell? ⟨w.heap.size, 0, none⟩ = _ := Ext.has (a := w2) (by (repeat' (first | exact Ext.rf _ | refine Ext.al ?_ _ | refine Ext.dr ?_ | refine Ext.trh (by assumption) ?_))) kx2.out.1; have f1 : vd.cell? ⟨w.heap.size, 1, none⟩ = _ := Ext.has (a := w2) (by (repeat' (first | exact Ext.rf _ | refine Ext.al ?_ _ | refine Ext.dr ?_ | refine Ext.trh (by assumption) ?_))) kx2.out.2.1; have f2 : vd.cell? ⟨w.heap.size, 2, none⟩ = _ := Ext.has (a := w2) (by (repeat' (first | exact Ext.rf _ | refine Ext.al ?_ _ | refine Ext.dr ?_ | refine Ext.trh (by assumption) ?_))) kx2.out.2.2.1; have f3 : vd.cell? ⟨w.heap.size, 3, none⟩ = _ := Ext.has (a := w2) (by (repeat' (first | exact Ext.rf _ | refine Ext.al ?_ _ | refine Ext.dr ?_ | refine Ext.trh (by assumption) ?_))) kx2.out.2.2.2.1; have f4 : vd.cell? ⟨w.heap.size, 4, none⟩ = _ := Ext.has (a := w2) (by (repeat' (first | exact Ext.rf _ | refine Ext.al ?_ _ | refine Ext.dr ?_ | refine Ext.trh (by assumption) ?_))) kx2.out.2.2.2.2.1; have f5 : vd.cell? ⟨w.heap.size, 5, none⟩ = _ := Ext.has (a := w2) (by (repeat' (first | exact Ext.rf _ | refine Ext.al ?_ _ | refine Ext.dr ?_ | refine Ext.trh (by assumption) ?_))) kx2.out.2.2.2.2.2.1; have f6 : vd.cell? ⟨w.heap.size, 6, none⟩ = _ := Ext.has (a := w2) (by (repeat' (first | exact Ext.rf _ | refine Ext.al ?_ _ | refine Ext.dr ?_ | refine Ext.trh (by assumption) ?_))) kx2.out.2.2.2.2.2.2.1; have f7 : vd.cell? ⟨w.heap.size, 7, none⟩ = _ := Ext.has (a := w2) (by (repeat' (first | exact Ext.rf _ | refine Ext.al ?_ _ | refine Ext.dr ?_ | refine Ext.trh (by assumption) ?_))) kx2.out.2.2.2.2.2.2.2.1; have f8 : vd.cell? ⟨w.heap.size, 8, none⟩ = _ := Ext.has (a := w2) (by (repeat' (first | exact Ext.rf _ | refine Ext.al ?_ _ | refine Ext.dr ?_ | refine Ext.trh (by assumption) ?_))) kx2.out.2.2.2.2.2.2.2.2.1; have f9 : vd.cell? ⟨w.heap.size, 9, none⟩ = _ := Ext.has (a := w2) (by (repeat' (first | exact Ext.rf _ | refine Ext.al ?_ _ | refine Ext.dr ?_ | refine Ext.trh (by assumption) ?_))) kx2.out.2.2.2.2.2.2.2.2.2.1; have f10 : vd.cell? ⟨w.heap.size, 10, none⟩ = _ := Ext.has (a := w2) (by (repeat' (first | exact Ext.rf _ | refine Ext.al ?_ _ | refine Ext.dr ?_ | refine Ext.trh (by assumption) ?_))) kx2.out.2.2.2.2.2.2.2.2.2.2) | ((with_reducible show Calls _ 11 _ _ _); (with_reducible refine (HF1.out _ (HX2.out.tr ?_)).mono ?_); (repeat' (first | exact Ext.rf _ | refine Ext.al ?_ _ | refine Ext.dr ?_ | refine Ext.trh (by assumption) ?_)); rintro e ve ⟨rfl, hxve⟩; have Hve := Lib.hid hxve; clear hxve f0 f1 f2 f3 f4 f5 f6 f7 f8 f9 f10; have f0 : ve.cell? ⟨w.heap.size, 0, none⟩ = _ := Ext.has (a := w2) (by (repeat' (first | exact Ext.rf _ | refine Ext.al ?_ _ | refine Ext.dr ?_ | refine Ext.trh (by assumption) ?_))) kx2.out.1; have f1 : ve.cell? ⟨w.heap.size, 1, none⟩ = _ := Ext.has (a := w2) (by (repeat' (first | exact Ext.rf _ | refine Ext.al ?_ _ | refine Ext.dr ?_ | refine Ext.trh (by assumption) ?_))) kx2.out.2.1; have f2 : ve.cell? ⟨w.heap.size, 2, none⟩ = _ := Ext.has (a := w2) (by (repeat' (first | exact Ext.rf _ | refine Ext.al ?_ _ | refine Ext.dr ?_ | refine Ext.trh (by assumption) ?_))) kx2.out.2.2.1; have f3 : ve.cell? ⟨w.heap.size, 3, none⟩ = _ := Ext.has (a := w2) (by (repeat' (first | exact Ext.rf _ | refine Ext.al ?_ _ | refine Ext.dr ?_ | refine Ext.trh (by assumption) ?_))) kx2.out.2.2.2.1; have f4 : ve.cell? ⟨w.heap.size, 4, none⟩ = _ := Ext.has (a := w2) (by (repeat' (first | exact Ext.rf _ | refine Ext.al ?_ _ | refine Ext.dr ?_ | refine Ext.trh (by assumption) ?_))) kx2.out.2.2.2.2.1; have f5 : ve.cell? ⟨w.heap.size, 5, none⟩ = _ := Ext.has (a := w2) (by (repeat' (first | exact Ext.rf _ | refine Ext.al ?_ _ | refine Ext.dr ?_ | refine Ext.trh (by assumption) ?_))) kx2.out.2.2.2.2.2.1; have f6 : ve.cell? ⟨w.heap.size, 6, none⟩ = _ := Ext.has (a := w2) (by (repeat' (first | exact Ext.rf _ | refine Ext.al ?_ _ | refine Ext.dr ?_ | refine Ext.trh (by assumption) ?_))) kx2.out.2.2.2.2.2.2.1; have f7 : ve.cell? ⟨w.heap.size, 7, none⟩ = _ := Ext.has (a := w2) (by (repeat' (first | exact Ext.rf _ | refine Ext.al ?_ _ | refine Ext.dr ?_ | refine Ext.trh (by assumption) ?_))) kx2.out.2.2.2.2.2.2.2.1; have f8 : ve.cell? ⟨w.heap.size, 8, none⟩ = _ := Ext.has (a := w2) (by (repeat' (first | exact Ext.rf _ | refine Ext.al ?_ _ | refine Ext.dr ?_ | refine Ext.trh (by assumption) ?_))) kx2.out.2.2.2.2.2.2.2.2.1; have f9 : ve.cell? ⟨w.heap.size, 9, none⟩ = _ := Ext.has (a := w2) (by (repeat' (first | exact Ext.rf _ | refine Ext.al ?_ _ | refine Ext.dr ?_ | refine Ext.trh (by assumption) ?_))) kx2.out.2.2.2.2.2.2.2.2.2.1; have f10 : ve.cell? ⟨w.heap.size, 10, none⟩ = _ := Ext.has (a := w2) (by (repeat' (first | exact Ext.rf _ | refine Ext.al ?_ _ | refine Ext.dr ?_ | refine Ext.trh (by assumption) ?_))) kx2.out.2.2.2.2.2.2.2.2.2.2) | ((with_reducible show Calls _ 12 _ _ _); (with_reducible refine (HF2.out _ (HX2.out.tr ?_)).mono ?_); (repeat' (first | exact Ext.rf _ | refine Ext.al ?_ _ | refine Ext.dr ?_ | refine Ext.trh (by assumption) ?_)); rintro e vf ⟨rfl, hxvf⟩; have Hvf := Lib.hid hxvf; clear hxvf f0 f1 f2 f3 f4 f5 f6 f7 f8 f9 f10; have f0 : vf.cell? ⟨w.heap.size, 0, none⟩ = _ := Ext.has (a := w2) (by (repeat' (first | exact Ext.rf _ | refine Ext.al ?_ _ | refine Ext.dr ?_ | refine Ext.trh (by assumption) ?_))) kx2.out.1; have f1 : vf.cell? ⟨w.heap.size, 1, none⟩ = _ := Ext.has (a := w2) (by (repeat' (first | exact Ext.rf _ | refine Ext.al ?_ _ | refine Ext.dr ?_ | refine Ext.trh (by assumption) ?_))) kx2.out.2.1; have f2 : vf.cell? ⟨w.heap.size, 2, none⟩ = _ := Ext.has (a := w2) (by (repeat' (first | exact Ext.rf _ | refine Ext.al ?_ _ | refine Ext.dr ?_ | refine Ext.trh (by assumption) ?_))) kx2.out.2.2.1; have f3 : vf.cell? ⟨w.heap.size, 3, none⟩ = _ := Ext.has (a := w2) (by (repeat' (first | exact Ext.rf _ | refine Ext.al ?_ _ | refine Ext.dr ?_ | refine Ext.trh (by assumption) ?_))) kx2.out.2.2.2.1; have f4 : vf.cell? ⟨w.heap.size, 4, none⟩ = _ := Ext.has (a := w2) (by (repeat' (first | exact Ext.rf _ | refine Ext.al ?_ _ | refine Ext.dr ?_ | refine Ext.trh (by assumption) ?_))) kx2.out.2.2.2.2.1; have f5 : vf.cell? ⟨w.heap.size, 5, none⟩ = _ := Ext.has (a := w2) (by (repeat' (first | exact Ext.rf _ | refine Ext.al ?_ _ | refine Ext.dr ?_ | refine Ext.trh (by assumption) ?_))) kx2.out.2.2.2.2.2.1; have f6 : vf.cell? ⟨w.heap.size, 6, none⟩ = _ := Ext.has (a := w2) (by (repeat' (first | exact Ext.rf _ | refine Ext.al ?_ _ | refine Ext.dr ?_ | refine Ext.trh (by assumption) ?_))) kx2.out.2.2.2.2.2.2.1; have f7 : vf.cell? ⟨w.heap.size, 7, none⟩ = _ := Ext.has (a := w2) (by (repeat' (first | exact Ext.rf _ | refine Ext.al ?_ _ | refine Ext.dr ?_ | refine Ext.trh (by assumption) ?_))) kx2.out.2.2.2.2.2.2.2.1; have f8 : vf.cell? ⟨w.heap.size, 8, none⟩ = _ := Ext.has (a := w2) (by (repeat' (first | exact Ext.rf _ | refine Ext.al ?_ _ | refine Ext.dr ?_ | refine Ext.trh (by assumption) ?_))) kx2.out.2.2.2.2.2.2.2.2.1; have f9 : vf.cell? ⟨w.heap.size, 9, none⟩ = _ := Ext.has (a := w2) (by (repeat' (first | exact Ext.rf _ | refine Ext.al ?_ _ | refine Ext.dr ?_ | refine Ext.trh (by assumption) ?_))) kx2.out.2.2.2.2.2.2.2.2.2.1; have f10 : vf.cell? ⟨w.heap.size, 10, none⟩ = _ := Ext.has (a := w2) (by (repeat' (first | exact Ext.rf _ | refine Ext.al ?_ _ | refine Ext.dr ?_ | refine Ext.trh (by assumption) ?_))) kx2.out.2.2.2.2.2.2.2.2.2.2) | ((with_reducible show Calls _ 6 _ _ _); (with_reducible refine (lives_walk _).mono ?_); (repeat' (first | exact Ext.rf _ | refine Ext.al ?_ _ | refine Ext.dr ?_ | refine Ext.trh (by assumption) ?_)); rintro e vg ⟨rfl, hxvg⟩; have Hvg := Lib.hid hxvg; clear hxvg f0 f1 f2 f3 f4 f5 f6 f7 f8 f9 f10; have f0 : vg.cell? ⟨w.heap.size, 0, none⟩ = _ := Ext.has (a := w2) (by (repeat' (first | exact Ext.rf _ | refine Ext.al ?_ _ | refine Ext.dr ?_ | refine Ext.trh (by assumption) ?_))) kx2.out.1; have f1 : vg.cell? ⟨w.heap.size, 1, none⟩ = _ := Ext.has (a := w2) (by (repeat' (first | exact Ext.rf _ | refine Ext.al ?_ _ | refine Ext.dr ?_ | refine Ext.trh (by assumption) ?_))) kx2.out.2.1; have f2 : vg.cell? ⟨w.heap.size, 2, none⟩ = _ := Ext.has (a := w2) (by (repeat' (first | exact Ext.rf _ | refine Ext.al ?_ _ | refine Ext.dr ?_ | refine Ext.trh (by assumption) ?_))) kx2.out.2.2.1; have f3 : vg.cell? ⟨w.heap.size, 3, none⟩ = _ := Ext.has (a := w2) (by (repeat' (first | exact Ext.rf _ | refine Ext.al ?_ _ | refine Ext.dr ?_ | refine Ext.trh (by assumption) ?_))) kx2.out.2.2.2.1; have f4 : vg.cell? ⟨w.heap.size, 4, none⟩ = _ := Ext.has (a := w2) (by (repeat' (first | exact Ext.rf _ | refine Ext.al ?_ _ | refine Ext.dr ?_ | refine Ext.trh (by assumption) ?_))) kx2.out.2.2.2.2.1; have f5 : vg.cell? ⟨w.heap.size, 5, none⟩ = _ := Ext.has (a := w2) (by (repeat' (first | exact Ext.rf _ | refine Ext.al ?_ _ | refine Ext.dr ?_ | refine Ext.trh (by assumption) ?_))) kx2.out.2.2.2.2.2.1; have f6 : vg.cell? ⟨w.heap.size, 6, none⟩ = _ := Ext.has (a := w2) (by (repeat' (first | exact Ext.rf _ | refine Ext.al ?_ _ | refine Ext.dr ?_ | refine Ext.trh (by assumption) ?_))) kx2.out.2.2.2.2.2.2.1; have f7 : vg.cell? ⟨w.heap.size, 7, none⟩ = _ := Ext.has (a := w2) (by (repeat' (first | exact Ext.rf _ | refine Ext.al ?_ _ | refine Ext.dr ?_ | refine Ext.trh (by assumption) ?_))) kx2.out.2.2.2.2.2.2.2.1; have f8 : vg.cell? ⟨w.heap.size, 8, none⟩ = _ := Ext.has (a := w2) (by (repeat' (first | exact Ext.rf _ | refine Ext.al ?_ _ | refine Ext.dr ?_ | refine Ext.trh (by assumption) ?_))) kx2.out.2.2.2.2.2.2.2.2.1; have f9 : vg.cell? ⟨w.heap.size, 9, none⟩ = _ := Ext.has (a := w2) (by (repeat' (first | exact Ext.rf _ | refine Ext.al ?_ _ | refine Ext.dr ?_ | refine Ext.trh (by assumption) ?_))) kx2.out.2.2.2.2.2.2.2.2.2.1; have f10 : vg.cell? ⟨w.heap.size, 10, none⟩ = _ := Ext.has (a := w2) (by (repeat' (first | exact Ext.rf _ | refine Ext.al ?_ _ | refine Ext.dr ?_ | refine Ext.trh (by assumption) ?_))) kx2.out.2.2.2.2.2.2.2.2.2.2))
      all_goals (go_wp2_with fail)
      all_goals go_ret
      all_goals exact ⟨rfl, HX2.out.tr (by (repeat' (first | exact Ext.rf _ | refine Ext.al ?_ _ | refine Ext.dr ?_ | refine Ext.trh (by assumption) ?_)))⟩
    · have hn : (ce != 0) = true := by simpa using hc
      go_wp2_with fail
      refine (lives_walk _).mono ?_
      rintro e w3 ⟨rfl, hx3⟩
      have HX3 := Lib.hid (HX2.out.tr hx3)
      clear hx3
      go_wp2_with fail
      go_ret
      exact ⟨rfl, HX3.out⟩
end Go.Proofs.YtkdnbnkbnegckaaDoor
