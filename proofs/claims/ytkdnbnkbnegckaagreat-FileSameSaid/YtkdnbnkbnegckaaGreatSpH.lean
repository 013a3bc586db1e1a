/- Whether functions and programs are the same: what the lifted functions come to. What a law says of examples: by the second machine. From a lifted law to its walk. The law FncBack: what it comes to. -/
import Derived.Test.YtkdnbnkbnegckaaGreatLpA
import Derived.Test.YtkdnbnkbnegckaaGreatEnd
import Derived.Test.YtkdnbnkbnegckaaGreatSpC
import Derived.Test.YtkdnbnkbnegckaaGreatClo
import Derived.Test.YtkdnbnkbnegckaaGreatOpen
import Derived.Test.YtkdnbnkbnegckaaGreatDec
namespace Go.Proofs.YtkdnbnkbnegckaaGreat
open Go.RowKit
set_option maxRecDepth 20000
theorem sp_Eq_api_Type {l m : List Int} (hl : l.length ≤ 1000000000000000000) : S_slices_Equal_api_Type_api_Type l m = some (eqD l m, ()) := by
  refine u_slices_Equal_api_Type_api_Type (N := l.length + 1) ?_
  simp [M_slices_Equal_api_Type_api_Type]
  by_cases h : l.length = m.length
  · have := iter_same (f := fun x y => decide (x = y)) (fun x y => (eqD_d (a := x) (b := y)).symm) hl h
    simpa [h] using this
  · simp [len_ne h, show ¬(l.length : Int) = m.length by omega]
theorem sp_Eq_int {l m : List Int} (hl : l.length ≤ 1000000000000000000) : S_slices_Equal_int_int l m = some (eqD l m, ()) := by
  refine u_slices_Equal_int_int (N := l.length + 1) ?_
  simp [M_slices_Equal_int_int]
  by_cases h : l.length = m.length
  · have := iter_same (f := fun x y => decide (x = y)) (fun x y => (eqD_d (a := x) (b := y)).symm) hl h
    simpa [h] using this
  · simp [len_ne h, show ¬(l.length : Int) = m.length by omega]
theorem sp_Eq_api_Instr {l m : List (Int × Int)} (hl : l.length ≤ 1000000000000000000) : S_slices_Equal_api_Instr_api_Instr l m = some (eqD l m, ()) := by
  refine u_slices_Equal_api_Instr_api_Instr (N := l.length + 1) ?_
  simp [M_slices_Equal_api_Instr_api_Instr]
  by_cases h : l.length = m.length
  · have := iter_same (f := fun (p q : Int × Int) => eqL [p.1, p.2] [q.1, q.2]) (fun p q => by
      obtain ⟨a, b⟩ := p
      obtain ⟨a', b'⟩ := q
      simp [eqL, eqD]) hl h
    simpa [h] using this
  · simp [len_ne h, show ¬(l.length : Int) = m.length by omega]
theorem sp_Eq_api_Node {l m : List Nd} (hl : l.length ≤ 1000000000000000000) : S_slices_Equal_api_Node_api_Node l m = some (eqD l m, ()) := by
  refine u_slices_Equal_api_Node_api_Node (N := l.length + 1) ?_
  simp [M_slices_Equal_api_Node_api_Node]
  by_cases h : l.length = m.length
  · have := iter_same (f := fun (p q : Nd) => eqL [p.1, p.2.1, p.2.2.1, p.2.2.2.1, p.2.2.2.2.1, p.2.2.2.2.2.1, p.2.2.2.2.2.2] [q.1, q.2.1, q.2.2.1, q.2.2.2.1, q.2.2.2.2.1, q.2.2.2.2.2.1, q.2.2.2.2.2.2]) (fun p q => by
      obtain ⟨a, b, c, d, e, f, g⟩ := p
      obtain ⟨a', b', c', d', e', f', g'⟩ := q
      simp [eqL, eqD]) hl h
    simpa [h] using this
  · simp [len_ne h, show ¬(l.length : Int) = m.length by omega]
theorem sp_Eq_api_Set {l m : List St} (hl : l.length ≤ 1000000000000000000) : S_slices_Equal_api_Set_api_Set l m = some (eqD l m, ()) := by
  refine u_slices_Equal_api_Set_api_Set (N := l.length + 1) ?_
  simp [M_slices_Equal_api_Set_api_Set]
  by_cases h : l.length = m.length
  · have := iter_same (f := fun (p q : St) => eqL [p.1, p.2.1, p.2.2.1, p.2.2.2] [q.1, q.2.1, q.2.2.1, q.2.2.2]) (fun p q => by
      obtain ⟨a, b, c, d⟩ := p
      obtain ⟨a', b', c', d'⟩ := q
      simp [eqL, eqD]) hl h
    simpa [h] using this
  · simp [len_ne h, show ¬(l.length : Int) = m.length by omega]
theorem sp_sigSame {l m : List Int} (hl : l.length ≤ 1000000000000000000) : S_sig_Same l m = some (eqD l m, ()) := u_sig_Same (N := 0) (by simp [M_sig_Same, sp_Eq_api_Type hl])
theorem sp_Dfnc {name name2 : List UInt8} {inner inner2 : Bool} {outer params results locals lines at' outer2 params2 results2 locals2 lines2 at2 : List Int} {code code2 : List (Int × Int)} {nodes nodes2 : List Nd} {live live2 : List St}
    (h2 : outer.length ≤ 1000000000) (h3 : params.length ≤ 1000000000) (h4 : results.length ≤ 1000000000) (h5 : locals.length ≤ 1000000000) (h6 : code.length ≤ 1000000000) (h7 : lines.length ≤ 1000000000) (h8 : nodes.length ≤ 1000000000) (h9 : at'.length ≤ 1000000000) (h10 : live.length ≤ 1000000000) :
    S_fnc_Same name inner outer params results locals code lines nodes at' live name2 inner2 outer2 params2 results2 locals2 code2 lines2 nodes2 at2 live2 = some (eqD ((name, inner, outer, params, results, locals, code, lines, nodes, at', live) : Fn) (name2, inner2, outer2, params2, results2, locals2, code2, lines2, nodes2, at2, live2), ()) := by
  refine u_fnc_Same (N := 0) ?_
  have hF : eqD ((name, inner, outer, params, results, locals, code, lines, nodes, at', live) : Fn) (name2, inner2, outer2, params2, results2, locals2, code2, lines2, nodes2, at2, live2) = (decide (name = name2) && (decide (inner = inner2) && (eqD outer outer2 && (eqD params params2 && (eqD results results2 && (eqD locals locals2 && (eqD code code2 && (eqD lines lines2 && (eqD nodes nodes2 && (eqD at' at2 && (eqD live live2))))))))))) := by
    rw [Bool.eq_iff_iff]
    simp only [eqD, decide_eq_true_eq, Bool.and_eq_true, Prod.mk.injEq]
  rw [hF]
  by_cases h0 : name = name2
  case neg =>
    simp [M_fnc_Same, h0, sp_sigSame (l := outer) (m := outer2) (by omega), sp_sigSame (l := params) (m := params2) (by omega), sp_sigSame (l := results) (m := results2) (by omega), sp_sigSame (l := locals) (m := locals2) (by omega), sp_Eq_api_Instr (l := code) (m := code2) (by omega), sp_Eq_int (l := lines) (m := lines2) (by omega), sp_Eq_api_Node (l := nodes) (m := nodes2) (by omega), sp_Eq_int (l := at') (m := at2) (by omega), sp_Eq_api_Set (l := live) (m := live2) (by omega)]
    clear hF; generalize eqD outer outer2 = b2; generalize eqD params params2 = b3; generalize eqD results results2 = b4; generalize eqD locals locals2 = b5; generalize eqD code code2 = b6; generalize eqD lines lines2 = b7; generalize eqD nodes nodes2 = b8; generalize eqD at' at2 = b9; generalize eqD live live2 = b10; revert b2 b3 b4 b5 b6 b7 b8 b9 b10; decide
  simp [M_fnc_Same, h0, sp_sigSame (l := outer) (m := outer2) (by omega), sp_sigSame (l := params) (m := params2) (by omega), sp_sigSame (l := results) (m := results2) (by omega), sp_sigSame (l := locals) (m := locals2) (by omega), sp_Eq_api_Instr (l := code) (m := code2) (by omega), sp_Eq_int (l := lines) (m := lines2) (by omega), sp_Eq_api_Node (l := nodes) (m := nodes2) (by omega), sp_Eq_int (l := at') (m := at2) (by omega), sp_Eq_api_Set (l := live) (m := live2) (by omega)]
  clear hF
  generalize eqD outer outer2 = b2; generalize eqD params params2 = b3; generalize eqD results results2 = b4; generalize eqD locals locals2 = b5; generalize eqD code code2 = b6; generalize eqD lines lines2 = b7; generalize eqD nodes nodes2 = b8; generalize eqD at' at2 = b9; generalize eqD live live2 = b10
  revert inner inner2 b2 b3 b4 b5 b6 b7 b8 b9 b10
  decide
theorem sp_Dref15 {name name2 : List UInt8} {inner inner2 : Bool} {outer params results locals lines at' outer2 params2 results2 locals2 lines2 at2 : List Int} {code code2 : List (Int × Int)} {nodes nodes2 : List Nd} {live live2 : List St}
    (h2 : outer.length ≤ 1000000000) (h3 : params.length ≤ 1000000000) (h4 : results.length ≤ 1000000000) (h5 : locals.length ≤ 1000000000) (h6 : code.length ≤ 1000000000) (h7 : lines.length ≤ 1000000000) (h8 : nodes.length ≤ 1000000000) (h9 : at'.length ≤ 1000000000) (h10 : live.length ≤ 1000000000) :
    S_ref15_Same name inner outer params results locals code lines nodes at' live name2 inner2 outer2 params2 results2 locals2 code2 lines2 nodes2 at2 live2 = some (eqD ((name, inner, outer, params, results, locals, code, lines, nodes, at', live) : Fn) (name2, inner2, outer2, params2, results2, locals2, code2, lines2, nodes2, at2, live2), ()) := by
  refine u_ref15_Same (N := 0) ?_
  have hF : eqD ((name, inner, outer, params, results, locals, code, lines, nodes, at', live) : Fn) (name2, inner2, outer2, params2, results2, locals2, code2, lines2, nodes2, at2, live2) = (decide (name = name2) && (decide (inner = inner2) && (eqD outer outer2 && (eqD params params2 && (eqD results results2 && (eqD locals locals2 && (eqD code code2 && (eqD lines lines2 && (eqD nodes nodes2 && (eqD at' at2 && (eqD live live2))))))))))) := by
    rw [Bool.eq_iff_iff]
    simp only [eqD, decide_eq_true_eq, Bool.and_eq_true, Prod.mk.injEq]
  rw [hF]
  by_cases h0 : name = name2
  case neg =>
    simp [M_ref15_Same, h0, sp_Same11 (l := outer) (m := outer2) (by omega), sp_Same11 (l := params) (m := params2) (by omega), sp_Same11 (l := results) (m := results2) (by omega), sp_Same11 (l := locals) (m := locals2) (by omega), sp_Code (l := code) (m := code2) (by omega), sp_Ints (l := lines) (m := lines2) (by omega), sp_Same13 (l := nodes) (m := nodes2) (by omega), sp_Ints (l := at') (m := at2) (by omega), sp_Same14 (l := live) (m := live2) (by omega)]
  simp [M_ref15_Same, h0, sp_Same11 (l := outer) (m := outer2) (by omega), sp_Same11 (l := params) (m := params2) (by omega), sp_Same11 (l := results) (m := results2) (by omega), sp_Same11 (l := locals) (m := locals2) (by omega), sp_Code (l := code) (m := code2) (by omega), sp_Ints (l := lines) (m := lines2) (by omega), sp_Same13 (l := nodes) (m := nodes2) (by omega), sp_Ints (l := at') (m := at2) (by omega), sp_Same14 (l := live) (m := live2) (by omega)]
  clear hF
  generalize eqD outer outer2 = b2; generalize eqD params params2 = b3; generalize eqD results results2 = b4; generalize eqD locals locals2 = b5; generalize eqD code code2 = b6; generalize eqD lines lines2 = b7; generalize eqD nodes nodes2 = b8; generalize eqD at' at2 = b9; generalize eqD live live2 = b10
  revert inner inner2 b2 b3 b4 b5 b6 b7 b8 b9 b10
  decide
end Go.Proofs.YtkdnbnkbnegckaaGreat
namespace Go.Proofs.YtkdnbnkbnegckaaGreat
open Go.RowKit
theorem Sof_run {P : Program} {A : Ann} {plans : FuncId → Nat → List (Nat × Bool)} {f : FuncId} {tin tout : Tpl} {n : Nat} {d : DT tin} {q : DT tout} (hw : A.wk f = []) (ht : tplOk tout = true)
    (h : callN P A plans n f (unpack tin d).env (unpack tin d).h = some (hdT (unpack tout q), (unpack tout q).h)) : Sof P A plans f tin tout d = some q := by
  have h1 : ∀ args0, wkL (A.wk f) args0 = (unpack tin d).env → callW P A plans f args0 (unpack tin d).h = some (hdT (unpack tout q), (unpack tout q).h) := fun args0 ha => by
    rw [hw] at ha
    have ha : args0 = (unpack tin d).env := ha
    subst ha
    exact callW_of h
  have hx : ∃ q, ∀ args0, wkL (A.wk f) args0 = (unpack tin d).env → callW P A plans f args0 (unpack tin d).h = some (hdT (unpack tout q), (unpack tout q).h) := ⟨q, h1⟩
  have h2 := hx.choose_spec _ (by rw [hw]; rfl)
  rw [h1 _ (by rw [hw]; rfl)] at h2
  simp only [Option.some.injEq, Prod.mk.injEq] at h2
  simp only [Sof, dif_pos hx]
  exact congrArg some (unpack_inj ht h2.1 h2.2).symm
theorem run_lives : callN Tryz.prog annX plansX 40 17 [] ⟨[], []⟩ = some (⟨.one, [.c (.v (.bool true))]⟩, ⟨[], []⟩) := by kernel_rfl
theorem sp_lives : S_law15_lives = some (true, ()) := Sof_run (n := 40) (tin := i_law15_lives) (tout := o_law15_lives) (d := ()) (q := (true, ())) (by kernel_rfl) (by kernel_rfl) run_lives
end Go.Proofs.YtkdnbnkbnegckaaGreat
namespace Go.Proofs.YtkdnbnkbnegckaaGreat
open Go.RowKit
/-- A law that comes to true, of arguments that came in. -/
theorem law_walk {f : FuncId} {tin : Tpl} {d : DT tin} {args0 : List T} {vs : Array Value} {W : World} (h : Sof Tryz.prog annX plansX f tin ⟨[], [], [(.one, [.hole .bool])]⟩ d = some (true, ())) (hw : wkL (annX.wk f) args0 = (unpack tin d).env) (hh : (unpack tin d).h = ⟨[], []⟩)
    (hl : args0.length = vs.size) (hr : ∀ (i : Nat) t v, args0[i]? = some t → vs[i]? = some v → RepT W W0 L0 ⟨[], []⟩ t v) : Calls Tryz.prog f vs W fun e W' => e = .returned (.bool true) ∧ Ext W W' := by
  have h1 : callW Tryz.prog annX plansX f args0 (unpack tin d).h = some (⟨.one, [.c (.v (.bool true))]⟩, ⟨[], []⟩) := ctr_ok (P := Tryz.prog) (A := annX) (plans := plansX) (f := f) (tin := tin) (tout := ⟨[], [], [(.one, [.hole .bool])]⟩) d (true, ()) h args0 hw
  rw [hh] at h1
  exact law_of base_ok prog_ok h1 hl hr
end Go.Proofs.YtkdnbnkbnegckaaGreat
namespace Go.Proofs.YtkdnbnkbnegckaaGreat
open Go.RowKit
set_option maxRecDepth 8000
section
variable {name : List UInt8} {inner : Bool} {outer params results locals lines at' : List Int} {code : List (Int × Int)} {nodes : List Nd} {live : List St}
def smallB (outer params results locals lines at' : List Int) (code : List (Int × Int)) (nodes : List Nd) (live : List St) : Bool :=
  decide (code.length ≤ 150 ∧ lines.length ≤ 150 ∧ nodes.length ≤ 20 ∧ at'.length ≤ 150 ∧ live.length ≤ 150 ∧ params.length + results.length + locals.length + outer.length ≤ 300)
theorem sp_Small (h1 : outer.length ≤ 140737488351232) (h2 : params.length ≤ 140737488351232) (h3 : results.length ≤ 140737488351232) (h4 : locals.length ≤ 140737488351232) : S_law15_Small name inner outer params results locals code lines nodes at' live = some (smallB outer params results locals lines at' code nodes live, ()) := by
  refine u_law15_Small (N := 0) ?_
  have w1 : wrp .i64 ((params.length : Int) + results.length) = (params.length : Int) + results.length := wi64 (by omega) (by omega)
  have w2 : wrp .i64 ((params.length : Int) + results.length + locals.length) = (params.length : Int) + results.length + locals.length := wi64 (by omega) (by omega)
  have w3 : wrp .i64 ((params.length : Int) + results.length + locals.length + outer.length) = (params.length : Int) + results.length + locals.length + outer.length := wi64 (by omega) (by omega)
  have c1 : ((code.length : Int) ≤ 150) ↔ code.length ≤ 150 := by omega
  have c2 : ((lines.length : Int) ≤ 150) ↔ lines.length ≤ 150 := by omega
  have c3 : ((nodes.length : Int) ≤ 20) ↔ nodes.length ≤ 20 := by omega
  have c4 : ((at'.length : Int) ≤ 150) ↔ at'.length ≤ 150 := by omega
  have c5 : ((live.length : Int) ≤ 150) ↔ live.length ≤ 150 := by omega
  have c6 : ((params.length : Int) + results.length + locals.length + outer.length ≤ 300) ↔ params.length + results.length + locals.length + outer.length ≤ 300 := by omega
  simp [M_law15_Small, smallB, w1, w2, w3, c1, c2, c3, c4, c5, c6]
  by_cases d1 : code.length ≤ 150 <;> by_cases d2 : lines.length ≤ 150 <;> by_cases d3 : nodes.length ≤ 20 <;> by_cases d4 : at'.length ≤ 150 <;> by_cases d5 : live.length ≤ 150 <;> simp [d1, d2, d3, d4, d5]
theorem small_len (h : smallB outer params results locals lines at' code nodes live = true) : LenF outer params results locals code lines nodes at' live ∧ nodes.length ≤ 20 := by
  simp only [smallB, decide_eq_true_eq] at h
  unfold LenF
  omega
/-- Data of a function. -/
def FnD : Ty := .pr .str (.pr .bool (.pr (.sl 1 tI) (.pr (.sl 1 tI) (.pr (.sl 1 tI) (.pr (.sl 1 tI) (.pr (.sl 2 tC) (.pr (.sl 1 tI) (.pr (.sl 7 tN) (.pr (.sl 1 tI) (.sl 4 tS))))))))))
theorem okD_dat (h : OkD FnD (name, inner, outer, params, results, locals, code, lines, nodes, at', live)) : Len name ∧ outer.length ≤ 140737488351232 ∧ params.length ≤ 140737488351232 ∧ results.length ≤ 140737488351232 ∧ locals.length ≤ 140737488351232 ∧ DatF code lines nodes at' live := by
  obtain ⟨h1, -, ⟨h2, -⟩, ⟨h3, -⟩, ⟨h4, -⟩, ⟨h5, -⟩, ⟨-, h6⟩, ⟨-, h7⟩, ⟨-, h8⟩, ⟨-, h9⟩, ⟨-, h10⟩⟩ := h
  exact ⟨h1, h2, h3, h4, h5, fun p hp => (h6 p hp).2, h7, h8, h9, h10⟩
theorem law_FncBack {behind : List UInt8} (h : OkD FnD (name, inner, outer, params, results, locals, code, lines, nodes, at', live)) : S_law15_FncBack name inner outer params results locals code lines nodes at' live behind = some (true, ()) := by
  obtain ⟨hn, l1, l2, l3, l4, hD⟩ := okD_dat h
  refine u_law15_FncBack (N := 0) ?_
  have hS := sp_Small (name := name) (inner := inner) (outer := outer) (params := params) (results := results) (locals := locals) (lines := lines) (at' := at') (code := code) (nodes := nodes) (live := live) l1 l2 l3 l4
  cases hs : smallB outer params results locals lines at' code nodes live with
  | false =>
    rw [hs] at hS
    simp [M_law15_FncBack, hS, sp_lives]
  | true =>
    obtain ⟨hL, h20⟩ := small_len hs
    rw [hs] at hS
    by_cases hb : 50 < behind.length
    · simp [M_law15_FncBack, hS, sp_lives, show (50 : Int) < behind.length by omega]
    · have hC := sp_rCan (name := name) (inner := inner) hn hL
      by_cases hc : canE name inner outer params results locals code lines nodes at' live = 0
      · rw [hc] at hC
        have hF := canE_iff.1 hc
        have hle := fncL_le hF
        have hP := sp_Put (b := []) (by simp) hD hF
        have hT := im_Take (l := fncL name inner outer params results locals code lines nodes at' live ++ behind) (by unfold Len; simp; omega)
        rw [fncP_put hD hF] at hT
        simp only at hT
        have hN := sp_New (l := fncL name inner outer params results locals code lines nodes at' live ++ behind) (by simp; omega)
        have hr := room_b (a := (fncL name inner outer params results locals code lines nodes at' live).length) (b := behind.length) (by omega)
        have hX := sp_Copy (name := name) (inner := inner) hL
        obtain ⟨g1, g2, g3, g4, g5, g6, g7, g8, g9⟩ := hL
        have hE := sp_Same15 (name := name) (inner := inner) (outer := outer) (params := params) (results := results) (locals := locals) (lines := lines) (at' := at') (code := code) (nodes := nodes) (live := live) g1 g2 g3 g4 g5 g6 g7 g8 g9
        rw [List.nil_append] at hP
        have hk : List.take ((fncL name inner outer params results locals code lines nodes at' live).length + behind.length) (fncL name inner outer params results locals code lines nodes at' live ++ behind) = fncL name inner outer params results locals code lines nodes at' live ++ behind := List.take_of_length_le (by simp)
        simp [M_law15_FncBack, hS, sp_lives, show ¬(50 : Int) < behind.length by omega, hC, hP, hk, hN, hT, hr, hX, hE]
      · simp [M_law15_FncBack, hS, sp_lives, show ¬(50 : Int) < behind.length by omega, hC, hc]
end
theorem FncBack_walk (x0 : Data FnD) (cs0 : List Value) (ao1 : Option Addr) (cap1 : Nat) (b1 : List UInt8) (w : World) (hx0 : DatR FnD w cs0 x0) (hl1 : Cells w ao1 (b1.map byteC) ∧ b1.length ≤ cap1 ∧ b1.length ≤ 140737488351232) :
    Calls Tryz.prog 4 #[.agg cs0.toArray, .slice ao1 b1.length cap1] w fun e w' => e = .returned (.bool true) ∧ Ext w w' := by
  obtain ⟨name, inner, outer, params, results, locals, code, lines, nodes, at', live⟩ := x0
  obtain ⟨hc0, hcap, hlen⟩ := hl1
  refine law_walk (args0 := [argA FnD (name, inner, outer, params, results, locals, code, lines, nodes, at', live), ⟨.one, [.c (.fz 1 (b1.map fun n => [.v (.int .u8 n.toNat)]))]⟩]) (law_FncBack (behind := b1) hx0.2) (by kernel_rfl) rfl rfl fun i t v h1 h2 => ?_
  match i with
  | 0 =>
    cases h1
    cases h2
    exact rep_argA hx0
  | 1 =>
    cases h1
    cases h2
    exact repT_bytes hc0 hcap
  | i + 2 => simp at h1
end Go.Proofs.YtkdnbnkbnegckaaGreat
