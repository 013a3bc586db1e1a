/- file.Encode and file.Decode as operations of the second machine. Whether functions and programs are the same: what the lifted functions come to. What a law says of examples: by the second machine. From a lifted law to its walk. The law FncBack: what it comes to. Programs: whether they are the same, whether they are small. What functions come to: templates, and contracts. Functions, lifted: what the program comes to by them. All lifted functions. -/
import Derived.Test.YtkdnbnkbnegckaaGreatLiv
import Derived.Test.YtkdnbnkbnegckaaGreatLp1
import Derived.Test.YtkdnbnkbnegckaaGreatEnd
import Derived.Test.YtkdnbnkbnegckaaGreatSpC
import Derived.Test.YtkdnbnkbnegckaaGreatClo
import Derived.Test.YtkdnbnkbnegckaaGreatSpB
import Derived.Test.YtkdnbnkbnegckaaGreatDec
import Derived.Test.YtkdnbnkbnegckaaGreatLq
namespace Go.Proofs.YtkdnbnkbnegckaaGreat
open Go.RowKit
set_option maxRecDepth 20000
open Classical in
noncomputable def encodeX (a : List T) (h : Hp) : Option (T × Hp) :=
  match a with
  | [⟨.agg, [.c (.fz 11 es)]⟩] =>
    if hh : ∃ fs : List Fn, es = encL tF fs ∧ (∀ f ∈ fs, LenV f) ∧ (∀ f ∈ fs, DatV f) ∧ fs.length ≤ 1000000 then
      some (⟨.tup [(false, 1), (false, 1)], [.c (.fz 1 (encL tY (encodeR hh.choose).1)), .c (.v (.int .i64 (encodeR hh.choose).2))]⟩, h)
    else none
  | _ => none
theorem encodeX_of {fs : List Fn} {h : Hp} (h1 : ∀ f ∈ fs, LenV f) (h2 : ∀ f ∈ fs, DatV f) (h3 : fs.length ≤ 1000000) :
    encodeX [⟨.agg, [.c (.fz 11 (encL tF fs))]⟩] h = some (⟨.tup [(false, 1), (false, 1)], [.c (.fz 1 (encL tY (encodeR fs).1)), .c (.v (.int .i64 (encodeR fs).2))]⟩, h) := by
  have hh : ∃ gs : List Fn, encL tF fs = encL tF gs ∧ (∀ f ∈ gs, LenV f) ∧ (∀ f ∈ gs, DatV f) ∧ gs.length ≤ 1000000 := ⟨fs, rfl, h1, h2, h3⟩
  have he : hh.choose = fs := (encL_inj hh.choose_spec.1).symm
  simp only [encodeX]
  rw [dif_pos hh, he]
theorem encode_ok : KOk Tryz.prog fun f a h => if f = 24 then encodeX a h else none := fun f a h res h' hc => by
  simp only at hc
  split at hc
  case isFalse => cases hc
  rename_i hf
  subst hf
  refine ⟨⟨_, Tryz.func24, by kernel_rfl, by kernel_rfl⟩, fun W who L vs H hl R => ?_⟩
  unfold encodeX at hc
  split at hc
  · rename_i es
    split at hc
    case isFalse => cases hc
    rename_i hh
    obtain ⟨g1, g2, g3, g4⟩ := hh.choose_spec
    generalize hh.choose = fs at *
    subst g1
    cases hc
    obtain ⟨v, rfl⟩ : ∃ v, vs = [v] := by
      match vs, hl with
      | [v], _ => exact ⟨v, rfl⟩
    obtain ⟨us, hu, hx1, hx2⟩ := R 0 _ v rfl rfl
    obtain ⟨u, rfl⟩ : ∃ u, us = [u] := by
      match us, hx1 with
      | [u], _ => exact ⟨u, rfl⟩
    subst hu
    have hr : RepC W who (.fz 11 (encL tF fs)) u := (hx2 0 _ u rfl rfl).1
    refine (encode_walk fs u W (hr.mono fun _ _ => rfl) g2 g3 g4).mono fun e W' ⟨hx, ao, cap, he, hc, hcap, hfr⟩ => ?_
    obtain ⟨H', S'⟩ := ext_frozen H hx
    refine ⟨_, _, L, he, ⟨_, rfl, _, _, rfl, Nat.le_succ _, ⟨_, rfl, ?_⟩, _, _, rfl, Nat.le_refl _, ⟨_, rfl, .v _ rfl⟩, rfl, rfl⟩, H', S'.any⟩
    have := repC_inW (W := W') (who := whoN W who) (sz := 1) (cap := cap) (es := encL tY (encodeR fs).1) (ao := ao) (by decide) (fun e he => by obtain ⟨x, _, rfl⟩ := List.mem_map.1 he; rfl) (by rw [encL_len]; exact hcap) hc (fun b off e => ?_) (bytes_reps _)
    · rw [encL_len] at this
      exact this
    · have := hfr b off e
      exact if_neg (by omega)
  · cases hc
open Classical in
noncomputable def decodeX (a : List T) (h : Hp) : Option (T × Hp) :=
  match a with
  | [⟨.one, [.c (.fz 1 es)]⟩] =>
    if hh : ∃ b : List UInt8, es = encL tY b ∧ b.length ≤ 140737488351232 then
      some (⟨.tup [(true, 1), (false, 1)], [.c (.fz 11 (encL tF (decodeR hh.choose).1)), .c (.v (.int .i64 (decodeR hh.choose).2))]⟩, h)
    else none
  | _ => none
theorem decodeX_of {b : List UInt8} {h : Hp} (h1 : b.length ≤ 140737488351232) :
    decodeX [⟨.one, [.c (.fz 1 (encL tY b))]⟩] h = some (⟨.tup [(true, 1), (false, 1)], [.c (.fz 11 (encL tF (decodeR b).1)), .c (.v (.int .i64 (decodeR b).2))]⟩, h) := by
  have hh : ∃ c : List UInt8, encL tY b = encL tY c ∧ c.length ≤ 140737488351232 := ⟨b, rfl, h1⟩
  have he : hh.choose = b := (encL_inj hh.choose_spec.1).symm
  simp only [decodeX]
  rw [dif_pos hh, he]
open Classical in
theorem decode_ok : KOk Tryz.prog fun f a h => if f = 27 then decodeX a h else none := fun f a h res h' hc => by
  simp only at hc
  split at hc
  case isFalse => cases hc
  rename_i hf
  subst hf
  refine ⟨⟨_, Tryz.func27, by kernel_rfl, by kernel_rfl⟩, fun W who L vs H hl R => ?_⟩
  unfold decodeX at hc
  split at hc
  · rename_i es
    split at hc
    case isFalse => cases hc
    rename_i hh
    obtain ⟨g1, g2⟩ := hh.choose_spec
    generalize hh.choose = b at *
    subst g1
    cases hc
    obtain ⟨v, rfl⟩ : ∃ v, vs = [v] := by
      match vs, hl with
      | [v], _ => exact ⟨v, rfl⟩
    obtain ⟨x, hx1, hx2⟩ := R 0 _ v rfl rfl
    cases hx1
    have hr : RepC W who (.fz 1 (encL tY b)) v := hx2
    obtain ⟨ao, cap, rfl, hcap, hC, hfz⟩ : ∃ ao cap, v = .slice ao b.length cap ∧ b.length ≤ cap ∧ Cells W ao (b.map byteC) ∧ (b ≠ [] → ∀ k off, ao = some ⟨k, off, none⟩ → who k = .frozen) := by
      obtain ⟨es, he⟩ : ∃ es, es = encL tY b := ⟨_, rfl⟩
      have hel : es.length = b.length := by rw [he, encL_len]
      rw [← he] at hr
      cases hr with
      | fz _ cap _ ao us hu hcp ha hw hrg hl2 hrep =>
        have hub := reps_bytes (W := W) (who := who) (l := b) (us := us) (by rw [← he]; exact ⟨hl2, hrep⟩)
        subst hub
        refine ⟨ao, cap, by rw [hel], by rw [← hel]; exact hcp, ⟨fun hne => ha fun h0 => hne (by rw [h0] at hel; simp at hel; rw [List.eq_nil_of_length_eq_zero hel.symm]; rfl), fun k off e j u hj => hrg k off e j u hj⟩, fun hne k off e => (hw k off (fun h0 => hne (List.eq_nil_of_length_eq_zero (by rw [← hel, h0]; rfl))) e).1⟩
    refine (decode_walk (fun k => decide (who k = .frozen)) ao cap b W hC hcap g2 fun hb k off e => decide_eq_true (hfz hb k off e)).mono fun e W' ⟨hx, u, he, who2, hw2, hru⟩ => ?_
    obtain ⟨H', S'⟩ := ext_frozen H hx
    refine ⟨_, _, L, he, ⟨_, rfl, _, _, rfl, Nat.le_succ _, ⟨_, rfl, rfl, fun i x v h1 h2 => ?_⟩, _, _, rfl, Nat.le_refl _, ⟨_, rfl, .v _ rfl⟩, rfl, rfl⟩, H', S'.any⟩
    have hrep : RepC W' (whoN W who) (.fz 11 (encL tF (decodeR b).1)) u := hru.mono fun k hk => by
      by_cases hlt : k < W.heap.size
      · refine (if_pos hlt).trans ?_
        by_cases hf : who k = .frozen
        · exact hf
        · have := hw2 k (decide_eq_false hf) hlt
          rw [hk] at this
          cases this
      · exact if_neg hlt
    match i with
    | 0 => cases h1; cases h2; exact ⟨hrep, hrep.one⟩
    | i + 1 => simp at h1
  · cases hc
end Go.Proofs.YtkdnbnkbnegckaaGreat
namespace Go.Proofs.YtkdnbnkbnegckaaGreat
open Go.RowKit
set_option maxRecDepth 20000
theorem sp_Dref15 {name name2 : List UInt8} {inner inner2 : Bool} {outer params results locals lines at' outer2 params2 results2 locals2 lines2 at2 : List Int} {code code2 : List (Int × Int)} {nodes nodes2 : List Nd} {live live2 : List St}
    (h2 : outer.length ≤ 1000000000) (h3 : params.length ≤ 1000000000) (h4 : results.length ≤ 1000000000) (h5 : locals.length ≤ 1000000000) (h6 : code.length ≤ 1000000000) (h7 : lines.length ≤ 1000000000) (h8 : nodes.length ≤ 1000000000) (h9 : at'.length ≤ 1000000000) (h10 : live.length ≤ 1000000000) :
    S_ref15_Same name inner outer params results locals code lines nodes at' live name2 inner2 outer2 params2 results2 locals2 code2 lines2 nodes2 at2 live2 = some (eqD ((name, inner, outer, params, results, locals, code, lines, nodes, at', live) : Fn) (name2, inner2, outer2, params2, results2, locals2, code2, lines2, nodes2, at2, live2), ()) := by
  refine u_ref15_Same (N := 0) ?_
  have hF : eqD ((name, inner, outer, params, results, locals, code, lines, nodes, at', live) : Fn) (name2, inner2, outer2, params2, results2, locals2, code2, lines2, nodes2, at2, live2) = (decide (name = name2) && (decide (inner = inner2) && (eqD outer outer2 && (eqD params params2 && (eqD results results2 && (eqD locals locals2 && (eqD code code2 && (eqD lines lines2 && (eqD nodes nodes2 && (eqD at' at2 && (eqD live live2))))))))))) := by
    rw [Bool.eq_iff_iff]
    simp only [eqD, decide_eq_true_eq, Bool.and_eq_true, Prod.mk.injEq]
  rw [hF]
  by_cases h0 : name = name2
  case neg =>
    simp [M_ref15_Same, h0, sp_Same11 (l := outer) (m := outer2) (by omega), sp_Same11 (l := params) (m := params2) (by omega), sp_Same11 (l := results) (m := results2) (by omega), sp_Same11 (l := locals) (m := locals2) (by omega), sp_Code (l := code) (m := code2) (by omega), sp_Ints (l := lines) (m := lines2) (by omega), sp_Same13 (l := nodes) (m := nodes2) (by omega), sp_Ints (l := at') (m := at2) (by omega), sp_Same14 (l := live) (m := live2) (by omega)]
  simp [M_ref15_Same, h0, sp_Same11 (l := outer) (m := outer2) (by omega), sp_Same11 (l := params) (m := params2) (by omega), sp_Same11 (l := results) (m := results2) (by omega), sp_Same11 (l := locals) (m := locals2) (by omega), sp_Code (l := code) (m := code2) (by omega), sp_Ints (l := lines) (m := lines2) (by omega), sp_Same13 (l := nodes) (m := nodes2) (by omega), sp_Ints (l := at') (m := at2) (by omega), sp_Same14 (l := live) (m := live2) (by omega)]
  clear hF
  generalize eqD outer outer2 = b2; generalize eqD params params2 = b3; generalize eqD results results2 = b4; generalize eqD locals locals2 = b5; generalize eqD code code2 = b6; generalize eqD lines lines2 = b7; generalize eqD nodes nodes2 = b8; generalize eqD at' at2 = b9; generalize eqD live live2 = b10
  revert inner inner2 b2 b3 b4 b5 b6 b7 b8 b9 b10
  decide
end Go.Proofs.YtkdnbnkbnegckaaGreat
namespace Go.Proofs.YtkdnbnkbnegckaaGreat
open Go.RowKit
end Go.Proofs.YtkdnbnkbnegckaaGreat
namespace Go.Proofs.YtkdnbnkbnegckaaGreat
open Go.RowKit
end Go.Proofs.YtkdnbnkbnegckaaGreat
namespace Go.Proofs.YtkdnbnkbnegckaaGreat
open Go.RowKit
set_option maxRecDepth 8000
section
variable {name : List UInt8} {inner : Bool} {outer params results locals lines at' : List Int} {code : List (Int × Int)} {nodes : List Nd} {live : List St}
end
end Go.Proofs.YtkdnbnkbnegckaaGreat
namespace Go.Proofs.YtkdnbnkbnegckaaGreat
open Go.RowKit
set_option maxRecDepth 20000
theorem sp_ref16Same {l m : List Fn} (hl : ∀ f ∈ l, LenV f) (hn : l.length ≤ 1000000) : S_ref16_Same l m = some (eqD l m, ()) := by
  refine u_ref16_Same (N := l.length + 1) ?_
  by_cases hlen : l.length = m.length
  case neg => simp [M_ref16_Same, len_ne hlen, show ¬(l.length : Int) = m.length by omega]
  simp [M_ref16_Same, show (l.length : Int) = m.length by omega]
  refine iter_to (fun d => l.length - d.1.toNat) (fun d => ∃ k : Nat, d = ((k : Int), ()) ∧ k ≤ l.length ∧ eqD l m = eqD (l.drop k) (m.drop k)) ?_ _ _ ⟨0, by simp, Nat.zero_le _, rfl⟩ (by simp)
  rintro _ again ⟨k, rfl, hk, hr⟩ ih
  by_cases h : k < l.length
  · have h2 : k < m.length := by omega
    have hw : wrp .i64 ((k : Int) + 1) = (k : Int) + 1 := wi64 (by omega) (by omega)
    obtain ⟨g1, ⟨p1, p2, p3, p4, p5, p6, p7, p8, p9⟩, g3⟩ := hl l[k] (List.getElem_mem h)
    have hS : S_ref15_Same l[k].1 l[k].2.1 l[k].2.2.1 l[k].2.2.2.1 l[k].2.2.2.2.1 l[k].2.2.2.2.2.1 l[k].2.2.2.2.2.2.1 l[k].2.2.2.2.2.2.2.1 l[k].2.2.2.2.2.2.2.2.1 l[k].2.2.2.2.2.2.2.2.2.1 l[k].2.2.2.2.2.2.2.2.2.2 m[k].1 m[k].2.1 m[k].2.2.1 m[k].2.2.2.1 m[k].2.2.2.2.1 m[k].2.2.2.2.2.1 m[k].2.2.2.2.2.2.1 m[k].2.2.2.2.2.2.2.1 m[k].2.2.2.2.2.2.2.2.1 m[k].2.2.2.2.2.2.2.2.2.1 m[k].2.2.2.2.2.2.2.2.2.2 = some (eqD l[k] m[k], ()) :=
      sp_Dref15 (name := l[k].1) (inner := l[k].2.1) (name2 := m[k].1) (inner2 := m[k].2.1) (outer2 := m[k].2.2.1) (params2 := m[k].2.2.2.1) (results2 := m[k].2.2.2.2.1) (locals2 := m[k].2.2.2.2.2.1) (code2 := m[k].2.2.2.2.2.2.1) (lines2 := m[k].2.2.2.2.2.2.2.1) (nodes2 := m[k].2.2.2.2.2.2.2.2.1) (at2 := m[k].2.2.2.2.2.2.2.2.2.1) (live2 := m[k].2.2.2.2.2.2.2.2.2.2) p1 p2 p3 p4 p5 p6 p7 p8 p9
    rw [List.drop_eq_getElem_cons h, List.drop_eq_getElem_cons h2, eqD_cons] at hr
    simp [h, h2, bnd_get h, bnd_get h2, hw, hS]
    cases he : eqD l[k] m[k] with
    | true =>
      rw [he] at hr
      have := ih ((k : Int) + 1, ()) ⟨k + 1, rfl, h, by simpa using hr⟩ (by simp; omega)
      simpa [← hlen] using this
    | false =>
      rw [he] at hr
      simp [hr]
  · have : k = l.length := by omega
    subst this
    rw [hr, List.drop_eq_nil_of_le (Nat.le_refl _), List.drop_eq_nil_of_le (show m.length ≤ l.length by omega)]
    simp [hlen]
/-! Small programs -/
end Go.Proofs.YtkdnbnkbnegckaaGreat
namespace Go.Proofs.YtkdnbnkbnegckaaGreat
open Go.RowKit
set_option maxRecDepth 100000
def i_ref16_Names : Tpl := ⟨[], [], [(.agg, [.hole (.sl 11 tF)])]⟩
def o_ref16_Names : Tpl := ⟨[], [], [(.one, [.hole (.sl 1 .str)])]⟩
noncomputable def S_ref16_Names (a0 : LF) : Option ((List LB) × Unit) := Sof Tryz.prog annX plansX 81 i_ref16_Names o_ref16_Names (a0, ())
noncomputable def c_ref16_Names : Ctr := ⟨81, i_ref16_Names, o_ref16_Names, fun d => S_ref16_Names d.1⟩
theorem k_ref16_Names : (c_ref16_Names).ok Tryz.prog annX plansX := ctr_ok (tin := i_ref16_Names) (tout := o_ref16_Names)
def i_ref05_Find : Tpl := ⟨[], [], [(.one, [.hole (.sl 1 .str)]), (.one, [.hole .str])]⟩
def o_ref05_Find : Tpl := ⟨[], [], [(.one, [.hole tI])]⟩
noncomputable def S_ref05_Find (a0 : (List LB)) (a1 : LB) : Option (Int × Unit) := Sof Tryz.prog annX plansX 131 i_ref05_Find o_ref05_Find (a0, (a1, ()))
noncomputable def c_ref05_Find : Ctr := ⟨131, i_ref05_Find, o_ref05_Find, fun d => S_ref05_Find d.1 d.2.1⟩
theorem k_ref05_Find : (c_ref05_Find).ok Tryz.prog annX plansX := ctr_ok (tin := i_ref05_Find) (tout := o_ref05_Find)
def i_ref05_Unlike : Tpl := ⟨[], [], [(.one, [.hole (.sl 1 .str)])]⟩
def o_ref05_Unlike : Tpl := ⟨[], [], [(.one, [.hole .bool])]⟩
noncomputable def S_ref05_Unlike (a0 : (List LB)) : Option (Bool × Unit) := Sof Tryz.prog annX plansX 80 i_ref05_Unlike o_ref05_Unlike (a0, ())
noncomputable def c_ref05_Unlike : Ctr := ⟨80, i_ref05_Unlike, o_ref05_Unlike, fun d => S_ref05_Unlike d.1⟩
theorem k_ref05_Unlike : (c_ref05_Unlike).ok Tryz.prog annX plansX := ctr_ok (tin := i_ref05_Unlike) (tout := o_ref05_Unlike)
end Go.Proofs.YtkdnbnkbnegckaaGreat
namespace Go.Proofs.YtkdnbnkbnegckaaGreat
open Go.RowKit
set_option maxRecDepth 100000
set_option linter.unusedVariables false
noncomputable def M_ref16_Names (N : Nat) (l_0 : LF) : Option ((List LB) × Unit) :=
 decL .str [] <| fun l1 =>
 qS (eF l_0) <|
 iter (fun (d2 : ((List LB) × (Int × Unit))) again3 =>
  cnd (ltI d2.2.1 (vlen (eF l_0)))
   (chk (leI 0 d2.2.1) <|
   getE tF (eF l_0) (natI d2.2.1) <| fun p4 =>
   qN (vnum (encL .str d2.1)) <|
   chk (room (vnum (encL .str d2.1)) (vnum (vcut [[(C.v (Go.Value.string (ByteArray.mk (Array.mk p4.1))))]] 0 1)) 16) <|
   decL .str (vapp (encL .str d2.1) (vcut [[(C.v (Go.Value.string (ByteArray.mk (Array.mk p4.1))))]] 0 1)) <| fun l5 =>
   qS (eF l_0) <|
   chk (eqN (addN (vnum (encL .str d2.1)) (vnum (vcut [[(C.v (Go.Value.string (ByteArray.mk (Array.mk p4.1))))]] 0 1))) (vnum (vapp (encL .str d2.1) (vcut [[(C.v (Go.Value.string (ByteArray.mk (Array.mk p4.1))))]] 0 1)))) <|
   again3 (l5, ((wrp .i64 (addI d2.2.1 1)), ())))
   (chk (leN (addN 0 (vnum (encL .str d2.1))) (vnum (encL .str d2.1))) <|
   decL .str (vcut (encL .str d2.1) 0 (vnum (encL .str d2.1))) <| fun l6 =>
   some (l6, ()))) N (l1, (0, ()))
noncomputable def q_ref16_Names : Lift := ⟨tyX, look2 .todo (α := LoopAs) (.n 81 [(3, (.as ⟨[.mu 9 1 .str], [[.fix]], (.one, [.junk]) :: (.one, [.stat (.ptr 0 0)]) :: (.one, [.junk]) :: (.one, [.own 0]) :: (.one, [.hole tI]) :: rp 17 (.one, [.junk]) ([])⟩))] .o .o), [], bsX⟩
theorem u_ref16_Names {N : Nat} {a0 : LF} {q : ((List LB) × Unit)} (h : M_ref16_Names N a0 = some q) : S_ref16_Names a0 = some q :=
 Sof_of (Q := q_ref16_Names) (N := N) (n := 3) (f := 81) (tin := i_ref16_Names) (tout := o_ref16_Names) (d := (a0, ())) all0 bs_ok (by kernel_rfl) (by kernel_rfl) (by kernel_rfl) (Eq.trans (b := M_ref16_Names N a0) (by kernel_rfl) h)

noncomputable def M_ref05_Find (N : Nat) (l_0 : (List LB)) (l_1 : LB) : Option (Int × Unit) :=
 qS (encL .str l_0) <|
 qB (ByteArray.mk (Array.mk l_1)) <|
 iter (fun (d1 : (Int × Unit)) again2 =>
  cnd (ltI d1.1 (vlen (encL .str l_0)))
   (chk (leI 0 d1.1) <|
   getE .str (encL .str l_0) (natI d1.1) <| fun l3 =>
   cnd (seq2 (ByteArray.mk (Array.mk l3)) (ByteArray.mk (Array.mk l_1)))
    (some (d1.1, ()))
    (qS (encL .str l_0) <|
    qB (ByteArray.mk (Array.mk l_1)) <|
    again2 ((wrp .i64 (addI d1.1 1)), ())))
   (some ((-1), ()))) N (0, ())
noncomputable def q_ref05_Find : Lift := ⟨tyX, look2 .todo (α := LoopAs) (.n 131 [(2, (.as ⟨[], [], (.one, [.fix]) :: (.one, [.fix]) :: (.one, [.junk]) :: (.one, [.junk]) :: (.one, [.junk]) :: (.one, [.hole tI]) :: rp 13 (.one, [.junk]) ([])⟩))] .o .o), [], bsX⟩
theorem u_ref05_Find {N : Nat} {a0 : (List LB)} {a1 : LB} {q : (Int × Unit)} (h : M_ref05_Find N a0 a1 = some q) : S_ref05_Find a0 a1 = some q :=
 Sof_of (Q := q_ref05_Find) (N := N) (n := 3) (f := 131) (tin := i_ref05_Find) (tout := o_ref05_Find) (d := (a0, (a1, ()))) all0 bs_ok (by kernel_rfl) (by kernel_rfl) (by kernel_rfl) (Eq.trans (b := M_ref05_Find N a0 a1) (by kernel_rfl) h)

noncomputable def M_ref05_Unlike (N : Nat) (l_0 : (List LB)) : Option (Bool × Unit) :=
 qS (encL .str l_0) <|
 iter (fun (d1 : (Int × Unit)) again2 =>
  cnd (ltI d1.1 (vlen (encL .str l_0)))
   (chk (leI 0 d1.1) <|
   getE .str (encL .str l_0) (natI d1.1) <| fun l3 =>
   decL .str (encL .str l_0) <| fun l4 =>
   bnd (S_ref05_Find l4 l3) <| fun p5 =>
   cnd (notB (eqI p5.1 d1.1))
    (some (false, ()))
    (qS (encL .str l_0) <|
    again2 ((wrp .i64 (addI d1.1 1)), ())))
   (some (true, ()))) N (0, ())
noncomputable def q_ref05_Unlike : Lift := ⟨tyX, look2 .todo (α := LoopAs) (.n 80 [(2, (.as ⟨[], [], (.one, [.fix]) :: (.one, [.junk]) :: (.one, [.junk]) :: (.one, [.hole tI]) :: rp 14 (.one, [.junk]) ([])⟩))] .o .o), [c_ref05_Find], bsX⟩
theorem u_ref05_Unlike {N : Nat} {a0 : (List LB)} {q : (Bool × Unit)} (h : M_ref05_Unlike N a0 = some q) : S_ref05_Unlike a0 = some q :=
 Sof_of (Q := q_ref05_Unlike) (N := N) (n := 3) (f := 80) (tin := i_ref05_Unlike) (tout := o_ref05_Unlike) (d := (a0, ())) (all1 k_ref05_Find all0) bs_ok (by kernel_rfl) (by kernel_rfl) (by kernel_rfl) (Eq.trans (b := M_ref05_Unlike N a0) (by kernel_rfl) h)

end Go.Proofs.YtkdnbnkbnegckaaGreat

