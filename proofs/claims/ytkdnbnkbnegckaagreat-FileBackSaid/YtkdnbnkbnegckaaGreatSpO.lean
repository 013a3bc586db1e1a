/- file.Encode and file.Decode as operations of the second machine. Whether functions and programs are the same: what the lifted functions come to. What a law says of examples: by the second machine. From a lifted law to its walk. The law FncBack: what it comes to. Programs: whether they are the same, whether they are small. -/
import Derived.Test.YtkdnbnkbnegckaaGreatLiv
import Derived.Test.YtkdnbnkbnegckaaGreatLpA
import Derived.Test.YtkdnbnkbnegckaaGreatEnd
import Derived.Test.YtkdnbnkbnegckaaGreatSpU
import Derived.Test.YtkdnbnkbnegckaaGreatEvQ
import Derived.Test.YtkdnbnkbnegckaaGreatSpB
import Derived.Test.YtkdnbnkbnegckaaGreatDed
namespace Go.Proofs.YtkdnbnkbnegckaaGreat
open Go.RowKit
set_option maxRecDepth 20000
open Classical in
noncomputable def encodeX (a : List T) (h : Hp) : Option (T × Hp) :=
  match a with
  | [⟨.agg, [.c (.fz 11 es)]⟩] =>
    if hh : ∃ fs : List Fn, es = encL tF fs ∧ (∀ f ∈ fs, LenV f) ∧ (∀ f ∈ fs, DatV f) ∧ fs.length ≤ 1000000 then
      some (⟨.tup [(false, 1), (false, 1)], [.c (.fz 1 (encL tY (encodeR hh.choose).1)), .c (.v (.int .i64 (encodeR hh.choose).2))]⟩, h)
    else none
  | _ => none
theorem encodeX_of {fs : List Fn} {h : Hp} (h1 : ∀ f ∈ fs, LenV f) (h2 : ∀ f ∈ fs, DatV f) (h3 : fs.length ≤ 1000000) :
    encodeX [⟨.agg, [.c (.fz 11 (encL tF fs))]⟩] h = some (⟨.tup [(false, 1), (false, 1)], [.c (.fz 1 (encL tY (encodeR fs).1)), .c (.v (.int .i64 (encodeR fs).2))]⟩, h) := by
  have hh : ∃ gs : List Fn, encL tF fs = encL tF gs ∧ (∀ f ∈ gs, LenV f) ∧ (∀ f ∈ gs, DatV f) ∧ gs.length ≤ 1000000 := ⟨fs, rfl, h1, h2, h3⟩
  have he : hh.choose = fs := (encL_inj hh.choose_spec.1).symm
  simp only [encodeX]
  rw [dif_pos hh, he]
theorem encode_ok : KOk Tryz.prog fun f a h => if f = 24 then encodeX a h else none := fun f a h res h' hc => by
  simp only at hc
  split at hc
  case isFalse => cases hc
  rename_i hf
  subst hf
  refine ⟨⟨_, Tryz.func24, by kernel_rfl, by kernel_rfl⟩, fun W who L vs H hl R => ?_⟩
  unfold encodeX at hc
  split at hc
  · rename_i es
    split at hc
    case isFalse => cases hc
    rename_i hh
    obtain ⟨g1, g2, g3, g4⟩ := hh.choose_spec
    generalize hh.choose = fs at *
    subst g1
    cases hc
    obtain ⟨v, rfl⟩ : ∃ v, vs = [v] := by
      match vs, hl with
      | [v], _ => exact ⟨v, rfl⟩
    obtain ⟨us, hu, hx1, hx2⟩ := R 0 _ v rfl rfl
    obtain ⟨u, rfl⟩ : ∃ u, us = [u] := by
      match us, hx1 with
      | [u], _ => exact ⟨u, rfl⟩
    subst hu
    have hr : RepC W who (.fz 11 (encL tF fs)) u := (hx2 0 _ u rfl rfl).1
    refine (encode_walk fs u W (hr.mono fun _ _ => rfl) g2 g3 g4).mono fun e W' ⟨hx, ao, cap, he, hc, hcap, hfr⟩ => ?_
    obtain ⟨H', S'⟩ := ext_frozen H hx
    refine ⟨_, _, L, he, ⟨_, rfl, _, _, rfl, Nat.le_succ _, ⟨_, rfl, ?_⟩, _, _, rfl, Nat.le_refl _, ⟨_, rfl, .v _ rfl⟩, rfl, rfl⟩, H', S'.any⟩
    have := repC_inW (W := W') (who := whoN W who) (sz := 1) (cap := cap) (es := encL tY (encodeR fs).1) (ao := ao) (by decide) (fun e he => by obtain ⟨x, _, rfl⟩ := List.mem_map.1 he; rfl) (by rw [encL_len]; exact hcap) hc (fun b off e => ?_) (bytes_reps _)
    · rw [encL_len] at this
      exact this
    · have := hfr b off e
      exact if_neg (by omega)
  · cases hc
open Classical in
noncomputable def decodeX (a : List T) (h : Hp) : Option (T × Hp) :=
  match a with
  | [⟨.one, [.c (.fz 1 es)]⟩] =>
    if hh : ∃ b : List UInt8, es = encL tY b ∧ b.length ≤ 140737488351232 then
      some (⟨.tup [(true, 1), (false, 1)], [.c (.fz 11 (encL tF (decodeR hh.choose).1)), .c (.v (.int .i64 (decodeR hh.choose).2))]⟩, h)
    else none
  | _ => none
theorem decodeX_of {b : List UInt8} {h : Hp} (h1 : b.length ≤ 140737488351232) :
    decodeX [⟨.one, [.c (.fz 1 (encL tY b))]⟩] h = some (⟨.tup [(true, 1), (false, 1)], [.c (.fz 11 (encL tF (decodeR b).1)), .c (.v (.int .i64 (decodeR b).2))]⟩, h) := by
  have hh : ∃ c : List UInt8, encL tY b = encL tY c ∧ c.length ≤ 140737488351232 := ⟨b, rfl, h1⟩
  have he : hh.choose = b := (encL_inj hh.choose_spec.1).symm
  simp only [decodeX]
  rw [dif_pos hh, he]
open Classical in
theorem decode_ok : KOk Tryz.prog fun f a h => if f = 27 then decodeX a h else none := fun f a h res h' hc => by
  simp only at hc
  split at hc
  case isFalse => cases hc
  rename_i hf
  subst hf
  refine ⟨⟨_, Tryz.func27, by kernel_rfl, by kernel_rfl⟩, fun W who L vs H hl R => ?_⟩
  unfold decodeX at hc
  split at hc
  · rename_i es
    split at hc
    case isFalse => cases hc
    rename_i hh
    obtain ⟨g1, g2⟩ := hh.choose_spec
    generalize hh.choose = b at *
    subst g1
    cases hc
    obtain ⟨v, rfl⟩ : ∃ v, vs = [v] := by
      match vs, hl with
      | [v], _ => exact ⟨v, rfl⟩
    obtain ⟨x, hx1, hx2⟩ := R 0 _ v rfl rfl
    cases hx1
    have hr : RepC W who (.fz 1 (encL tY b)) v := hx2
    obtain ⟨ao, cap, rfl, hcap, hC, hfz⟩ : ∃ ao cap, v = .slice ao b.length cap ∧ b.length ≤ cap ∧ Cells W ao (b.map byteC) ∧ (b ≠ [] → ∀ k off, ao = some ⟨k, off, none⟩ → who k = .frozen) := by
      obtain ⟨es, he⟩ : ∃ es, es = encL tY b := ⟨_, rfl⟩
      have hel : es.length = b.length := by rw [he, encL_len]
      rw [← he] at hr
      cases hr with
      | fz _ cap _ ao us hu hcp ha hw hrg hl2 hrep =>
        have hub := reps_bytes (W := W) (who := who) (l := b) (us := us) (by rw [← he]; exact ⟨hl2, hrep⟩)
        subst hub
        refine ⟨ao, cap, by rw [hel], by rw [← hel]; exact hcp, ⟨fun hne => ha fun h0 => hne (by rw [h0] at hel; simp at hel; rw [List.eq_nil_of_length_eq_zero hel.symm]; rfl), fun k off e j u hj => hrg k off e j u hj⟩, fun hne k off e => (hw k off (fun h0 => hne (List.eq_nil_of_length_eq_zero (by rw [← hel, h0]; rfl))) e).1⟩
    refine (decode_walk (fun k => decide (who k = .frozen)) ao cap b W hC hcap g2 fun hb k off e => decide_eq_true (hfz hb k off e)).mono fun e W' ⟨hx, u, he, who2, hw2, hru⟩ => ?_
    obtain ⟨H', S'⟩ := ext_frozen H hx
    refine ⟨_, _, L, he, ⟨_, rfl, _, _, rfl, Nat.le_succ _, ⟨_, rfl, rfl, fun i x v h1 h2 => ?_⟩, _, _, rfl, Nat.le_refl _, ⟨_, rfl, .v _ rfl⟩, rfl, rfl⟩, H', S'.any⟩
    have hrep : RepC W' (whoN W who) (.fz 11 (encL tF (decodeR b).1)) u := hru.mono fun k hk => by
      by_cases hlt : k < W.heap.size
      · refine (if_pos hlt).trans ?_
        by_cases hf : who k = .frozen
        · exact hf
        · have := hw2 k (decide_eq_false hf) hlt
          rw [hk] at this
          cases this
      · exact if_neg hlt
    match i with
    | 0 => cases h1; cases h2; exact ⟨hrep, hrep.one⟩
    | i + 1 => simp at h1
  · cases hc
end Go.Proofs.YtkdnbnkbnegckaaGreat
namespace Go.Proofs.YtkdnbnkbnegckaaGreat
open Go.RowKit
set_option maxRecDepth 20000
theorem sp_Eq_api_Type {l m : List Int} (hl : l.length ≤ 1000000000000000000) : S_slices_Equal_api_Type_api_Type l m = some (eqD l m, ()) := by
  refine u_slices_Equal_api_Type_api_Type (N := l.length + 1) ?_
  simp [M_slices_Equal_api_Type_api_Type]
  by_cases h : l.length = m.length
  · have := iter_same (f := fun x y => decide (x = y)) (fun x y => (eqD_d (a := x) (b := y)).symm) hl h
    simpa [h] using this
  · simp [len_ne h, show ¬(l.length : Int) = m.length by omega]
theorem sp_Eq_int {l m : List Int} (hl : l.length ≤ 1000000000000000000) : S_slices_Equal_int_int l m = some (eqD l m, ()) := by
  refine u_slices_Equal_int_int (N := l.length + 1) ?_
  simp [M_slices_Equal_int_int]
  by_cases h : l.length = m.length
  · have := iter_same (f := fun x y => decide (x = y)) (fun x y => (eqD_d (a := x) (b := y)).symm) hl h
    simpa [h] using this
  · simp [len_ne h, show ¬(l.length : Int) = m.length by omega]
theorem sp_Eq_api_Instr {l m : List (Int × Int)} (hl : l.length ≤ 1000000000000000000) : S_slices_Equal_api_Instr_api_Instr l m = some (eqD l m, ()) := by
  refine u_slices_Equal_api_Instr_api_Instr (N := l.length + 1) ?_
  simp [M_slices_Equal_api_Instr_api_Instr]
  by_cases h : l.length = m.length
  · have := iter_same (f := fun (p q : Int × Int) => eqL [p.1, p.2] [q.1, q.2]) (fun p q => by
      obtain ⟨a, b⟩ := p
      obtain ⟨a', b'⟩ := q
      simp [eqL, eqD]) hl h
    simpa [h] using this
  · simp [len_ne h, show ¬(l.length : Int) = m.length by omega]
theorem sp_Eq_api_Node {l m : List Nd} (hl : l.length ≤ 1000000000000000000) : S_slices_Equal_api_Node_api_Node l m = some (eqD l m, ()) := by
  refine u_slices_Equal_api_Node_api_Node (N := l.length + 1) ?_
  simp [M_slices_Equal_api_Node_api_Node]
  by_cases h : l.length = m.length
  · have := iter_same (f := fun (p q : Nd) => eqL [p.1, p.2.1, p.2.2.1, p.2.2.2.1, p.2.2.2.2.1, p.2.2.2.2.2.1, p.2.2.2.2.2.2] [q.1, q.2.1, q.2.2.1, q.2.2.2.1, q.2.2.2.2.1, q.2.2.2.2.2.1, q.2.2.2.2.2.2]) (fun p q => by
      obtain ⟨a, b, c, d, e, f, g⟩ := p
      obtain ⟨a', b', c', d', e', f', g'⟩ := q
      simp [eqL, eqD]) hl h
    simpa [h] using this
  · simp [len_ne h, show ¬(l.length : Int) = m.length by omega]
theorem sp_Eq_api_Set {l m : List St} (hl : l.length ≤ 1000000000000000000) : S_slices_Equal_api_Set_api_Set l m = some (eqD l m, ()) := by
  refine u_slices_Equal_api_Set_api_Set (N := l.length + 1) ?_
  simp [M_slices_Equal_api_Set_api_Set]
  by_cases h : l.length = m.length
  · have := iter_same (f := fun (p q : St) => eqL [p.1, p.2.1, p.2.2.1, p.2.2.2] [q.1, q.2.1, q.2.2.1, q.2.2.2]) (fun p q => by
      obtain ⟨a, b, c, d⟩ := p
      obtain ⟨a', b', c', d'⟩ := q
      simp [eqL, eqD]) hl h
    simpa [h] using this
  · simp [len_ne h, show ¬(l.length : Int) = m.length by omega]
theorem sp_sigSame {l m : List Int} (hl : l.length ≤ 1000000000000000000) : S_sig_Same l m = some (eqD l m, ()) := u_sig_Same (N := 0) (by simp [M_sig_Same, sp_Eq_api_Type hl])
theorem sp_Dfnc {name name2 : List UInt8} {inner inner2 : Bool} {outer params results locals lines at' outer2 params2 results2 locals2 lines2 at2 : List Int} {code code2 : List (Int × Int)} {nodes nodes2 : List Nd} {live live2 : List St}
    (h2 : outer.length ≤ 1000000000) (h3 : params.length ≤ 1000000000) (h4 : results.length ≤ 1000000000) (h5 : locals.length ≤ 1000000000) (h6 : code.length ≤ 1000000000) (h7 : lines.length ≤ 1000000000) (h8 : nodes.length ≤ 1000000000) (h9 : at'.length ≤ 1000000000) (h10 : live.length ≤ 1000000000) :
    S_fnc_Same name inner outer params results locals code lines nodes at' live name2 inner2 outer2 params2 results2 locals2 code2 lines2 nodes2 at2 live2 = some (eqD ((name, inner, outer, params, results, locals, code, lines, nodes, at', live) : Fn) (name2, inner2, outer2, params2, results2, locals2, code2, lines2, nodes2, at2, live2), ()) := by
  refine u_fnc_Same (N := 0) ?_
  have hF : eqD ((name, inner, outer, params, results, locals, code, lines, nodes, at', live) : Fn) (name2, inner2, outer2, params2, results2, locals2, code2, lines2, nodes2, at2, live2) = (decide (name = name2) && (decide (inner = inner2) && (eqD outer outer2 && (eqD params params2 && (eqD results results2 && (eqD locals locals2 && (eqD code code2 && (eqD lines lines2 && (eqD nodes nodes2 && (eqD at' at2 && (eqD live live2))))))))))) := by
    rw [Bool.eq_iff_iff]
    simp only [eqD, decide_eq_true_eq, Bool.and_eq_true, Prod.mk.injEq]
  rw [hF]
  by_cases h0 : name = name2
  case neg =>
    simp [M_fnc_Same, h0, sp_sigSame (l := outer) (m := outer2) (by omega), sp_sigSame (l := params) (m := params2) (by omega), sp_sigSame (l := results) (m := results2) (by omega), sp_sigSame (l := locals) (m := locals2) (by omega), sp_Eq_api_Instr (l := code) (m := code2) (by omega), sp_Eq_int (l := lines) (m := lines2) (by omega), sp_Eq_api_Node (l := nodes) (m := nodes2) (by omega), sp_Eq_int (l := at') (m := at2) (by omega), sp_Eq_api_Set (l := live) (m := live2) (by omega)]
    clear hF; generalize eqD outer outer2 = b2; generalize eqD params params2 = b3; generalize eqD results results2 = b4; generalize eqD locals locals2 = b5; generalize eqD code code2 = b6; generalize eqD lines lines2 = b7; generalize eqD nodes nodes2 = b8; generalize eqD at' at2 = b9; generalize eqD live live2 = b10; revert b2 b3 b4 b5 b6 b7 b8 b9 b10; decide
  simp [M_fnc_Same, h0, sp_sigSame (l := outer) (m := outer2) (by omega), sp_sigSame (l := params) (m := params2) (by omega), sp_sigSame (l := results) (m := results2) (by omega), sp_sigSame (l := locals) (m := locals2) (by omega), sp_Eq_api_Instr (l := code) (m := code2) (by omega), sp_Eq_int (l := lines) (m := lines2) (by omega), sp_Eq_api_Node (l := nodes) (m := nodes2) (by omega), sp_Eq_int (l := at') (m := at2) (by omega), sp_Eq_api_Set (l := live) (m := live2) (by omega)]
  clear hF
  generalize eqD outer outer2 = b2; generalize eqD params params2 = b3; generalize eqD results results2 = b4; generalize eqD locals locals2 = b5; generalize eqD code code2 = b6; generalize eqD lines lines2 = b7; generalize eqD nodes nodes2 = b8; generalize eqD at' at2 = b9; generalize eqD live live2 = b10
  revert inner inner2 b2 b3 b4 b5 b6 b7 b8 b9 b10
  decide
theorem sp_Dref15 {name name2 : List UInt8} {inner inner2 : Bool} {outer params results locals lines at' outer2 params2 results2 locals2 lines2 at2 : List Int} {code code2 : List (Int × Int)} {nodes nodes2 : List Nd} {live live2 : List St}
    (h2 : outer.length ≤ 1000000000) (h3 : params.length ≤ 1000000000) (h4 : results.length ≤ 1000000000) (h5 : locals.length ≤ 1000000000) (h6 : code.length ≤ 1000000000) (h7 : lines.length ≤ 1000000000) (h8 : nodes.length ≤ 1000000000) (h9 : at'.length ≤ 1000000000) (h10 : live.length ≤ 1000000000) :
    S_ref15_Same name inner outer params results locals code lines nodes at' live name2 inner2 outer2 params2 results2 locals2 code2 lines2 nodes2 at2 live2 = some (eqD ((name, inner, outer, params, results, locals, code, lines, nodes, at', live) : Fn) (name2, inner2, outer2, params2, results2, locals2, code2, lines2, nodes2, at2, live2), ()) := by
  refine u_ref15_Same (N := 0) ?_
  have hF : eqD ((name, inner, outer, params, results, locals, code, lines, nodes, at', live) : Fn) (name2, inner2, outer2, params2, results2, locals2, code2, lines2, nodes2, at2, live2) = (decide (name = name2) && (decide (inner = inner2) && (eqD outer outer2 && (eqD params params2 && (eqD results results2 && (eqD locals locals2 && (eqD code code2 && (eqD lines lines2 && (eqD nodes nodes2 && (eqD at' at2 && (eqD live live2))))))))))) := by
    rw [Bool.eq_iff_iff]
    simp only [eqD, decide_eq_true_eq, Bool.and_eq_true, Prod.mk.injEq]
  rw [hF]
  by_cases h0 : name = name2
  case neg =>
    simp [M_ref15_Same, h0, sp_Same11 (l := outer) (m := outer2) (by omega), sp_Same11 (l := params) (m := params2) (by omega), sp_Same11 (l := results) (m := results2) (by omega), sp_Same11 (l := locals) (m := locals2) (by omega), sp_Code (l := code) (m := code2) (by omega), sp_Ints (l := lines) (m := lines2) (by omega), sp_Same13 (l := nodes) (m := nodes2) (by omega), sp_Ints (l := at') (m := at2) (by omega), sp_Same14 (l := live) (m := live2) (by omega)]
  simp [M_ref15_Same, h0, sp_Same11 (l := outer) (m := outer2) (by omega), sp_Same11 (l := params) (m := params2) (by omega), sp_Same11 (l := results) (m := results2) (by omega), sp_Same11 (l := locals) (m := locals2) (by omega), sp_Code (l := code) (m := code2) (by omega), sp_Ints (l := lines) (m := lines2) (by omega), sp_Same13 (l := nodes) (m := nodes2) (by omega), sp_Ints (l := at') (m := at2) (by omega), sp_Same14 (l := live) (m := live2) (by omega)]
  clear hF
  generalize eqD outer outer2 = b2; generalize eqD params params2 = b3; generalize eqD results results2 = b4; generalize eqD locals locals2 = b5; generalize eqD code code2 = b6; generalize eqD lines lines2 = b7; generalize eqD nodes nodes2 = b8; generalize eqD at' at2 = b9; generalize eqD live live2 = b10
  revert inner inner2 b2 b3 b4 b5 b6 b7 b8 b9 b10
  decide
end Go.Proofs.YtkdnbnkbnegckaaGreat
namespace Go.Proofs.YtkdnbnkbnegckaaGreat
open Go.RowKit
end Go.Proofs.YtkdnbnkbnegckaaGreat
namespace Go.Proofs.YtkdnbnkbnegckaaGreat
open Go.RowKit
end Go.Proofs.YtkdnbnkbnegckaaGreat
namespace Go.Proofs.YtkdnbnkbnegckaaGreat
open Go.RowKit
set_option maxRecDepth 8000
section
variable {name : List UInt8} {inner : Bool} {outer params results locals lines at' : List Int} {code : List (Int × Int)} {nodes : List Nd} {live : List St}
def smallB (outer params results locals lines at' : List Int) (code : List (Int × Int)) (nodes : List Nd) (live : List St) : Bool :=
  decide (code.length ≤ 150 ∧ lines.length ≤ 150 ∧ nodes.length ≤ 20 ∧ at'.length ≤ 150 ∧ live.length ≤ 150 ∧ params.length + results.length + locals.length + outer.length ≤ 300)
theorem sp_Small (h1 : outer.length ≤ 140737488351232) (h2 : params.length ≤ 140737488351232) (h3 : results.length ≤ 140737488351232) (h4 : locals.length ≤ 140737488351232) : S_law15_Small name inner outer params results locals code lines nodes at' live = some (smallB outer params results locals lines at' code nodes live, ()) := by
  refine u_law15_Small (N := 0) ?_
  have w1 : wrp .i64 ((params.length : Int) + results.length) = (params.length : Int) + results.length := wi64 (by omega) (by omega)
  have w2 : wrp .i64 ((params.length : Int) + results.length + locals.length) = (params.length : Int) + results.length + locals.length := wi64 (by omega) (by omega)
  have w3 : wrp .i64 ((params.length : Int) + results.length + locals.length + outer.length) = (params.length : Int) + results.length + locals.length + outer.length := wi64 (by omega) (by omega)
  have c1 : ((code.length : Int) ≤ 150) ↔ code.length ≤ 150 := by omega
  have c2 : ((lines.length : Int) ≤ 150) ↔ lines.length ≤ 150 := by omega
  have c3 : ((nodes.length : Int) ≤ 20) ↔ nodes.length ≤ 20 := by omega
  have c4 : ((at'.length : Int) ≤ 150) ↔ at'.length ≤ 150 := by omega
  have c5 : ((live.length : Int) ≤ 150) ↔ live.length ≤ 150 := by omega
  have c6 : ((params.length : Int) + results.length + locals.length + outer.length ≤ 300) ↔ params.length + results.length + locals.length + outer.length ≤ 300 := by omega
  simp [M_law15_Small, smallB, w1, w2, w3, c1, c2, c3, c4, c5, c6]
  by_cases d1 : code.length ≤ 150 <;> by_cases d2 : lines.length ≤ 150 <;> by_cases d3 : nodes.length ≤ 20 <;> by_cases d4 : at'.length ≤ 150 <;> by_cases d5 : live.length ≤ 150 <;> simp [d1, d2, d3, d4, d5]
theorem small_len (h : smallB outer params results locals lines at' code nodes live = true) : LenF outer params results locals code lines nodes at' live ∧ nodes.length ≤ 20 := by
  simp only [smallB, decide_eq_true_eq] at h
  unfold LenF
  omega
/-- Data of a function. -/
def FnD : Ty := .pr .str (.pr .bool (.pr (.sl 1 tI) (.pr (.sl 1 tI) (.pr (.sl 1 tI) (.pr (.sl 1 tI) (.pr (.sl 2 tC) (.pr (.sl 1 tI) (.pr (.sl 7 tN) (.pr (.sl 1 tI) (.sl 4 tS))))))))))
theorem okD_dat (h : OkD FnD (name, inner, outer, params, results, locals, code, lines, nodes, at', live)) : Len name ∧ outer.length ≤ 140737488351232 ∧ params.length ≤ 140737488351232 ∧ results.length ≤ 140737488351232 ∧ locals.length ≤ 140737488351232 ∧ DatF code lines nodes at' live := by
  obtain ⟨h1, -, ⟨h2, -⟩, ⟨h3, -⟩, ⟨h4, -⟩, ⟨h5, -⟩, ⟨-, h6⟩, ⟨-, h7⟩, ⟨-, h8⟩, ⟨-, h9⟩, ⟨-, h10⟩⟩ := h
  exact ⟨h1, h2, h3, h4, h5, fun p hp => (h6 p hp).2, h7, h8, h9, h10⟩
end
end Go.Proofs.YtkdnbnkbnegckaaGreat
namespace Go.Proofs.YtkdnbnkbnegckaaGreat
open Go.RowKit
set_option maxRecDepth 20000
theorem sp_fileSame {l m : List Fn} (hl : ∀ f ∈ l, LenV f) (hn : l.length ≤ 1000000) : S_file_Same l m = some (eqD l m, ()) := by
  refine u_file_Same (N := l.length + 1) ?_
  by_cases hlen : l.length = m.length
  case neg => simp [M_file_Same, len_ne hlen, show ¬(l.length : Int) = m.length by omega]
  simp [M_file_Same, show (l.length : Int) = m.length by omega]
  refine iter_to (fun d => l.length - d.2.2.1.toNat) (fun d => ∃ k : Nat, d = (l, m, (k : Int), ()) ∧ k ≤ l.length ∧ eqD l m = eqD (l.drop k) (m.drop k)) ?_ _ _ ⟨0, by simp, Nat.zero_le _, rfl⟩ (by simp)
  rintro _ again ⟨k, rfl, hk, hr⟩ ih
  by_cases h : k < l.length
  · have h2 : k < m.length := by omega
    have hw : wrp .i64 ((k : Int) + 1) = (k : Int) + 1 := wi64 (by omega) (by omega)
    obtain ⟨g1, ⟨p1, p2, p3, p4, p5, p6, p7, p8, p9⟩, g3⟩ := hl l[k] (List.getElem_mem h)
    have hS := sp_Dfnc (name := l[k].1) (inner := l[k].2.1) (name2 := m[k].1) (inner2 := m[k].2.1) (outer2 := m[k].2.2.1) (params2 := m[k].2.2.2.1) (results2 := m[k].2.2.2.2.1) (locals2 := m[k].2.2.2.2.2.1) (code2 := m[k].2.2.2.2.2.2.1) (lines2 := m[k].2.2.2.2.2.2.2.1) (nodes2 := m[k].2.2.2.2.2.2.2.2.1) (at2 := m[k].2.2.2.2.2.2.2.2.2.1) (live2 := m[k].2.2.2.2.2.2.2.2.2.2) p1 p2 p3 p4 p5 p6 p7 p8 p9
    rw [List.drop_eq_getElem_cons h, List.drop_eq_getElem_cons h2, eqD_cons] at hr
    have hS : S_fnc_Same l[k].1 l[k].2.1 l[k].2.2.1 l[k].2.2.2.1 l[k].2.2.2.2.1 l[k].2.2.2.2.2.1 l[k].2.2.2.2.2.2.1 l[k].2.2.2.2.2.2.2.1 l[k].2.2.2.2.2.2.2.2.1 l[k].2.2.2.2.2.2.2.2.2.1 l[k].2.2.2.2.2.2.2.2.2.2 m[k].1 m[k].2.1 m[k].2.2.1 m[k].2.2.2.1 m[k].2.2.2.2.1 m[k].2.2.2.2.2.1 m[k].2.2.2.2.2.2.1 m[k].2.2.2.2.2.2.2.1 m[k].2.2.2.2.2.2.2.2.1 m[k].2.2.2.2.2.2.2.2.2.1 m[k].2.2.2.2.2.2.2.2.2.2 = some (eqD l[k] m[k], ()) := hS
    simp [h, h2, bnd_get h, bnd_get h2, hw, hS]
    cases he : eqD l[k] m[k] with
    | true =>
      rw [he] at hr
      have := ih (l, m, (k : Int) + 1, ()) ⟨k + 1, rfl, h, by simpa using hr⟩ (by simp; omega)
      simpa [← hlen] using this
    | false =>
      rw [he] at hr
      simp [hr]
  · have : k = l.length := by omega
    subst this
    rw [hr, List.drop_eq_nil_of_le (Nat.le_refl _), List.drop_eq_nil_of_le (show m.length ≤ l.length by omega)]
    simp [hlen]
theorem sp_ref16Same {l m : List Fn} (hl : ∀ f ∈ l, LenV f) (hn : l.length ≤ 1000000) : S_ref16_Same l m = some (eqD l m, ()) := by
  refine u_ref16_Same (N := l.length + 1) ?_
  by_cases hlen : l.length = m.length
  case neg => simp [M_ref16_Same, len_ne hlen, show ¬(l.length : Int) = m.length by omega]
  simp [M_ref16_Same, show (l.length : Int) = m.length by omega]
  refine iter_to (fun d => l.length - d.1.toNat) (fun d => ∃ k : Nat, d = ((k : Int), ()) ∧ k ≤ l.length ∧ eqD l m = eqD (l.drop k) (m.drop k)) ?_ _ _ ⟨0, by simp, Nat.zero_le _, rfl⟩ (by simp)
  rintro _ again ⟨k, rfl, hk, hr⟩ ih
  by_cases h : k < l.length
  · have h2 : k < m.length := by omega
    have hw : wrp .i64 ((k : Int) + 1) = (k : Int) + 1 := wi64 (by omega) (by omega)
    obtain ⟨g1, ⟨p1, p2, p3, p4, p5, p6, p7, p8, p9⟩, g3⟩ := hl l[k] (List.getElem_mem h)
    have hS : S_ref15_Same l[k].1 l[k].2.1 l[k].2.2.1 l[k].2.2.2.1 l[k].2.2.2.2.1 l[k].2.2.2.2.2.1 l[k].2.2.2.2.2.2.1 l[k].2.2.2.2.2.2.2.1 l[k].2.2.2.2.2.2.2.2.1 l[k].2.2.2.2.2.2.2.2.2.1 l[k].2.2.2.2.2.2.2.2.2.2 m[k].1 m[k].2.1 m[k].2.2.1 m[k].2.2.2.1 m[k].2.2.2.2.1 m[k].2.2.2.2.2.1 m[k].2.2.2.2.2.2.1 m[k].2.2.2.2.2.2.2.1 m[k].2.2.2.2.2.2.2.2.1 m[k].2.2.2.2.2.2.2.2.2.1 m[k].2.2.2.2.2.2.2.2.2.2 = some (eqD l[k] m[k], ()) :=
      sp_Dref15 (name := l[k].1) (inner := l[k].2.1) (name2 := m[k].1) (inner2 := m[k].2.1) (outer2 := m[k].2.2.1) (params2 := m[k].2.2.2.1) (results2 := m[k].2.2.2.2.1) (locals2 := m[k].2.2.2.2.2.1) (code2 := m[k].2.2.2.2.2.2.1) (lines2 := m[k].2.2.2.2.2.2.2.1) (nodes2 := m[k].2.2.2.2.2.2.2.2.1) (at2 := m[k].2.2.2.2.2.2.2.2.2.1) (live2 := m[k].2.2.2.2.2.2.2.2.2.2) p1 p2 p3 p4 p5 p6 p7 p8 p9
    rw [List.drop_eq_getElem_cons h, List.drop_eq_getElem_cons h2, eqD_cons] at hr
    simp [h, h2, bnd_get h, bnd_get h2, hw, hS]
    cases he : eqD l[k] m[k] with
    | true =>
      rw [he] at hr
      have := ih ((k : Int) + 1, ()) ⟨k + 1, rfl, h, by simpa using hr⟩ (by simp; omega)
      simpa [← hlen] using this
    | false =>
      rw [he] at hr
      simp [hr]
  · have : k = l.length := by omega
    subst this
    rw [hr, List.drop_eq_nil_of_le (Nat.le_refl _), List.drop_eq_nil_of_le (show m.length ≤ l.length by omega)]
    simp [hlen]
/-! Small programs -/
def smallV (f : Fn) : Bool := smallB f.2.2.1 f.2.2.2.1 f.2.2.2.2.1 f.2.2.2.2.2.1 f.2.2.2.2.2.2.2.1 f.2.2.2.2.2.2.2.2.2.1 f.2.2.2.2.2.2.1 f.2.2.2.2.2.2.2.2.1 f.2.2.2.2.2.2.2.2.2.2
def smallsB (fs : List Fn) : Bool := decide (fs.length ≤ 50) && fs.all smallV
def BoundV (f : Fn) : Prop := f.2.2.1.length ≤ 140737488351232 ∧ f.2.2.2.1.length ≤ 140737488351232 ∧ f.2.2.2.2.1.length ≤ 140737488351232 ∧ f.2.2.2.2.2.1.length ≤ 140737488351232
theorem sp_Small16 {fs : List Fn} (hl : ∀ f ∈ fs, BoundV f) : S_law16_Small fs = some (smallsB fs, ()) := by
  refine u_law16_Small (N := 52) ?_
  simp [M_law16_Small]
  refine iter_join (fun d => fs.length + 51 - d.1.toNat - fs.length) (fun d => ∃ k : Nat, d = ((k : Int), ()) ∧ k ≤ fs.length ∧ k ≤ 50 ∧ (fs.take k).all smallV = true) ?_ _ _ ⟨0, rfl, Nat.zero_le _, by omega, by simp⟩ (by simp)
  rintro _ again ⟨k, rfl, hk, hk2, hr⟩ ih
  by_cases h : k < fs.length
  · by_cases h5 : k < 50
    · have hw : wrp .i64 ((k : Int) + 1) = (k : Int) + 1 := wi64 (by omega) (by omega)
      obtain ⟨p1, p2, p3, p4⟩ := hl fs[k] (List.getElem_mem h)
      have hS : S_law15_Small fs[k].1 fs[k].2.1 fs[k].2.2.1 fs[k].2.2.2.1 fs[k].2.2.2.2.1 fs[k].2.2.2.2.2.1 fs[k].2.2.2.2.2.2.1 fs[k].2.2.2.2.2.2.2.1 fs[k].2.2.2.2.2.2.2.2.1 fs[k].2.2.2.2.2.2.2.2.2.1 fs[k].2.2.2.2.2.2.2.2.2.2 = some (smallV fs[k], ()) := sp_Small p1 p2 p3 p4
      have h50 : (k : Int) < 50 := by omega
      simp [h, h50, bnd_get h, hw, hS]
      cases he : smallV fs[k] with
      | true => exact ih ((k : Int) + 1, ()) ⟨k + 1, rfl, h, h5, by rw [List.take_succ_eq_append_getElem h, List.all_append, hr]; simp [he]⟩ (by simp; omega)
      | false =>
        have : smallsB fs = false := by
          have : fs.all smallV = false := by
            cases hq : fs.all smallV with
            | false => rfl
            | true => rw [List.all_eq_true] at hq; rw [hq _ (List.getElem_mem h)] at he; cases he
          rw [smallsB, this]; simp
        simp [this]
    · have h50 : ¬(k : Int) < 50 := by omega
      have hb : ¬fs.length ≤ 50 := by omega
      have hb2 : ¬(fs.length : Int) ≤ 50 := by omega
      simp [h, h50, smallsB, hb, hb2]
  · have : k = fs.length := by omega
    subst this
    rw [List.take_length] at hr
    simp [smallsB, hr]
    omega
theorem smallsB_len {fs : List Fn} (h : smallsB fs = true) : fs.length ≤ 50 ∧ ∀ f ∈ fs, (f.1.length ≤ 140737488351232 → LenV f) := by
  simp only [smallsB, Bool.and_eq_true, decide_eq_true_eq, List.all_eq_true] at h
  refine ⟨h.1, fun f hf hn => ?_⟩
  obtain ⟨h1, h2⟩ := small_len (h.2 f hf)
  exact ⟨by unfold Len; omega, h1, by omega⟩
end Go.Proofs.YtkdnbnkbnegckaaGreat
