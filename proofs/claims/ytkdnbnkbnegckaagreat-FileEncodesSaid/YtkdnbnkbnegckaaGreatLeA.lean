/- file.Encode and file.Decode as operations of the second machine. Whether functions and programs are the same: what the lifted functions come to. What a law says of examples: by the second machine. From a lifted law to its walk. The law FncBack: what it comes to. Programs: whether they are the same, whether they are small. What functions come to: templates, and contracts. Functions, lifted: what the program comes to by them. All lifted functions. What functions come to: templates, and contracts. -/
import Derived.Test.YtkdnbnkbnegckaaGreatLiv
import Derived.Test.YtkdnbnkbnegckaaGreatLpA
import Derived.Test.YtkdnbnkbnegckaaGreatEnd
import Derived.Test.YtkdnbnkbnegckaaGreatSpT
import Derived.Test.YtkdnbnkbnegckaaGreatEvQ
import Derived.Test.YtkdnbnkbnegckaaGreatSpB
import Derived.Test.YtkdnbnkbnegckaaGreatDec
import Derived.Test.YtkdnbnkbnegckaaGreatLq
namespace Go.Proofs.YtkdnbnkbnegckaaGreat
open Go.RowKit
set_option maxRecDepth 20000
open Classical in
noncomputable def encodeX (a : List T) (h : Hp) : Option (T × Hp) :=
  match a with
  | [⟨.agg, [.c (.fz 11 es)]⟩] =>
    if hh : ∃ fs : List Fn, es = encL tF fs ∧ (∀ f ∈ fs, LenV f) ∧ (∀ f ∈ fs, DatV f) ∧ fs.length ≤ 1000000 then
      some (⟨.tup [(false, 1), (false, 1)], [.c (.fz 1 (encL tY (encodeR hh.choose).1)), .c (.v (.int .i64 (encodeR hh.choose).2))]⟩, h)
    else none
  | _ => none
theorem encodeX_of {fs : List Fn} {h : Hp} (h1 : ∀ f ∈ fs, LenV f) (h2 : ∀ f ∈ fs, DatV f) (h3 : fs.length ≤ 1000000) :
    encodeX [⟨.agg, [.c (.fz 11 (encL tF fs))]⟩] h = some (⟨.tup [(false, 1), (false, 1)], [.c (.fz 1 (encL tY (encodeR fs).1)), .c (.v (.int .i64 (encodeR fs).2))]⟩, h) := by
  have hh : ∃ gs : List Fn, encL tF fs = encL tF gs ∧ (∀ f ∈ gs, LenV f) ∧ (∀ f ∈ gs, DatV f) ∧ gs.length ≤ 1000000 := ⟨fs, rfl, h1, h2, h3⟩
  have he : hh.choose = fs := (encL_inj hh.choose_spec.1).symm
  simp only [encodeX]
  rw [dif_pos hh, he]
theorem encode_ok : KOk Tryz.prog fun f a h => if f = 24 then encodeX a h else none := fun f a h res h' hc => by
  simp only at hc
  split at hc
  case isFalse => cases hc
  rename_i hf
  subst hf
  refine ⟨⟨_, Tryz.func24, by kernel_rfl, by kernel_rfl⟩, fun W who L vs H hl R => ?_⟩
  unfold encodeX at hc
  split at hc
  · rename_i es
    split at hc
    case isFalse => cases hc
    rename_i hh
    obtain ⟨g1, g2, g3, g4⟩ := hh.choose_spec
    generalize hh.choose = fs at *
    subst g1
    cases hc
    obtain ⟨v, rfl⟩ : ∃ v, vs = [v] := by
      match vs, hl with
      | [v], _ => exact ⟨v, rfl⟩
    obtain ⟨us, hu, hx1, hx2⟩ := R 0 _ v rfl rfl
    obtain ⟨u, rfl⟩ : ∃ u, us = [u] := by
      match us, hx1 with
      | [u], _ => exact ⟨u, rfl⟩
    subst hu
    have hr : RepC W who (.fz 11 (encL tF fs)) u := (hx2 0 _ u rfl rfl).1
    refine (encode_walk fs u W (hr.mono fun _ _ => rfl) g2 g3 g4).mono fun e W' ⟨hx, ao, cap, he, hc, hcap, hfr⟩ => ?_
    obtain ⟨H', S'⟩ := ext_frozen H hx
    refine ⟨_, _, L, he, ⟨_, rfl, _, _, rfl, Nat.le_succ _, ⟨_, rfl, ?_⟩, _, _, rfl, Nat.le_refl _, ⟨_, rfl, .v _ rfl⟩, rfl, rfl⟩, H', S'.any⟩
    have := repC_inW (W := W') (who := whoN W who) (sz := 1) (cap := cap) (es := encL tY (encodeR fs).1) (ao := ao) (by decide) (fun e he => by obtain ⟨x, _, rfl⟩ := List.mem_map.1 he; rfl) (by rw [encL_len]; exact hcap) hc (fun b off e => ?_) (bytes_reps _)
    · rw [encL_len] at this
      exact this
    · have := hfr b off e
      exact if_neg (by omega)
  · cases hc
open Classical in
noncomputable def decodeX (a : List T) (h : Hp) : Option (T × Hp) :=
  match a with
  | [⟨.one, [.c (.fz 1 es)]⟩] =>
    if hh : ∃ b : List UInt8, es = encL tY b ∧ b.length ≤ 140737488351232 then
      some (⟨.tup [(true, 1), (false, 1)], [.c (.fz 11 (encL tF (decodeR hh.choose).1)), .c (.v (.int .i64 (decodeR hh.choose).2))]⟩, h)
    else none
  | _ => none
open Classical in
theorem decode_ok : KOk Tryz.prog fun f a h => if f = 27 then decodeX a h else none := fun f a h res h' hc => by
  simp only at hc
  split at hc
  case isFalse => cases hc
  rename_i hf
  subst hf
  refine ⟨⟨_, Tryz.func27, by kernel_rfl, by kernel_rfl⟩, fun W who L vs H hl R => ?_⟩
  unfold decodeX at hc
  split at hc
  · rename_i es
    split at hc
    case isFalse => cases hc
    rename_i hh
    obtain ⟨g1, g2⟩ := hh.choose_spec
    generalize hh.choose = b at *
    subst g1
    cases hc
    obtain ⟨v, rfl⟩ : ∃ v, vs = [v] := by
      match vs, hl with
      | [v], _ => exact ⟨v, rfl⟩
    obtain ⟨x, hx1, hx2⟩ := R 0 _ v rfl rfl
    cases hx1
    have hr : RepC W who (.fz 1 (encL tY b)) v := hx2
    obtain ⟨ao, cap, rfl, hcap, hC, hfz⟩ : ∃ ao cap, v = .slice ao b.length cap ∧ b.length ≤ cap ∧ Cells W ao (b.map byteC) ∧ (b ≠ [] → ∀ k off, ao = some ⟨k, off, none⟩ → who k = .frozen) := by
      obtain ⟨es, he⟩ : ∃ es, es = encL tY b := ⟨_, rfl⟩
      have hel : es.length = b.length := by rw [he, encL_len]
      rw [← he] at hr
      cases hr with
      | fz _ cap _ ao us hu hcp ha hw hrg hl2 hrep =>
        have hub := reps_bytes (W := W) (who := who) (l := b) (us := us) (by rw [← he]; exact ⟨hl2, hrep⟩)
        subst hub
        refine ⟨ao, cap, by rw [hel], by rw [← hel]; exact hcp, ⟨fun hne => ha fun h0 => hne (by rw [h0] at hel; simp at hel; rw [List.eq_nil_of_length_eq_zero hel.symm]; rfl), fun k off e j u hj => hrg k off e j u hj⟩, fun hne k off e => (hw k off (fun h0 => hne (List.eq_nil_of_length_eq_zero (by rw [← hel, h0]; rfl))) e).1⟩
    refine (decode_walk (fun k => decide (who k = .frozen)) ao cap b W hC hcap g2 fun hb k off e => decide_eq_true (hfz hb k off e)).mono fun e W' ⟨hx, u, he, who2, hw2, hru⟩ => ?_
    obtain ⟨H', S'⟩ := ext_frozen H hx
    refine ⟨_, _, L, he, ⟨_, rfl, _, _, rfl, Nat.le_succ _, ⟨_, rfl, rfl, fun i x v h1 h2 => ?_⟩, _, _, rfl, Nat.le_refl _, ⟨_, rfl, .v _ rfl⟩, rfl, rfl⟩, H', S'.any⟩
    have hrep : RepC W' (whoN W who) (.fz 11 (encL tF (decodeR b).1)) u := hru.mono fun k hk => by
      by_cases hlt : k < W.heap.size
      · refine (if_pos hlt).trans ?_
        by_cases hf : who k = .frozen
        · exact hf
        · have := hw2 k (decide_eq_false hf) hlt
          rw [hk] at this
          cases this
      · exact if_neg hlt
    match i with
    | 0 => cases h1; cases h2; exact ⟨hrep, hrep.one⟩
    | i + 1 => simp at h1
  · cases hc
end Go.Proofs.YtkdnbnkbnegckaaGreat
namespace Go.Proofs.YtkdnbnkbnegckaaGreat
open Go.RowKit
set_option maxRecDepth 20000
end Go.Proofs.YtkdnbnkbnegckaaGreat
namespace Go.Proofs.YtkdnbnkbnegckaaGreat
open Go.RowKit
end Go.Proofs.YtkdnbnkbnegckaaGreat
namespace Go.Proofs.YtkdnbnkbnegckaaGreat
open Go.RowKit
end Go.Proofs.YtkdnbnkbnegckaaGreat
namespace Go.Proofs.YtkdnbnkbnegckaaGreat
open Go.RowKit
set_option maxRecDepth 8000
section
variable {name : List UInt8} {inner : Bool} {outer params results locals lines at' : List Int} {code : List (Int × Int)} {nodes : List Nd} {live : List St}
def smallB (outer params results locals lines at' : List Int) (code : List (Int × Int)) (nodes : List Nd) (live : List St) : Bool :=
  decide (code.length ≤ 150 ∧ lines.length ≤ 150 ∧ nodes.length ≤ 20 ∧ at'.length ≤ 150 ∧ live.length ≤ 150 ∧ params.length + results.length + locals.length + outer.length ≤ 300)
theorem sp_Small (h1 : outer.length ≤ 140737488351232) (h2 : params.length ≤ 140737488351232) (h3 : results.length ≤ 140737488351232) (h4 : locals.length ≤ 140737488351232) : S_law15_Small name inner outer params results locals code lines nodes at' live = some (smallB outer params results locals lines at' code nodes live, ()) := by
  refine u_law15_Small (N := 0) ?_
  have w1 : wrp .i64 ((params.length : Int) + results.length) = (params.length : Int) + results.length := wi64 (by omega) (by omega)
  have w2 : wrp .i64 ((params.length : Int) + results.length + locals.length) = (params.length : Int) + results.length + locals.length := wi64 (by omega) (by omega)
  have w3 : wrp .i64 ((params.length : Int) + results.length + locals.length + outer.length) = (params.length : Int) + results.length + locals.length + outer.length := wi64 (by omega) (by omega)
  have c1 : ((code.length : Int) ≤ 150) ↔ code.length ≤ 150 := by omega
  have c2 : ((lines.length : Int) ≤ 150) ↔ lines.length ≤ 150 := by omega
  have c3 : ((nodes.length : Int) ≤ 20) ↔ nodes.length ≤ 20 := by omega
  have c4 : ((at'.length : Int) ≤ 150) ↔ at'.length ≤ 150 := by omega
  have c5 : ((live.length : Int) ≤ 150) ↔ live.length ≤ 150 := by omega
  have c6 : ((params.length : Int) + results.length + locals.length + outer.length ≤ 300) ↔ params.length + results.length + locals.length + outer.length ≤ 300 := by omega
  simp [M_law15_Small, smallB, w1, w2, w3, c1, c2, c3, c4, c5, c6]
  by_cases d1 : code.length ≤ 150 <;> by_cases d2 : lines.length ≤ 150 <;> by_cases d3 : nodes.length ≤ 20 <;> by_cases d4 : at'.length ≤ 150 <;> by_cases d5 : live.length ≤ 150 <;> simp [d1, d2, d3, d4, d5]
theorem small_len (h : smallB outer params results locals lines at' code nodes live = true) : LenF outer params results locals code lines nodes at' live ∧ nodes.length ≤ 20 := by
  simp only [smallB, decide_eq_true_eq] at h
  unfold LenF
  omega
/-- Data of a function. -/
def FnD : Ty := .pr .str (.pr .bool (.pr (.sl 1 tI) (.pr (.sl 1 tI) (.pr (.sl 1 tI) (.pr (.sl 1 tI) (.pr (.sl 2 tC) (.pr (.sl 1 tI) (.pr (.sl 7 tN) (.pr (.sl 1 tI) (.sl 4 tS))))))))))
theorem okD_dat (h : OkD FnD (name, inner, outer, params, results, locals, code, lines, nodes, at', live)) : Len name ∧ outer.length ≤ 140737488351232 ∧ params.length ≤ 140737488351232 ∧ results.length ≤ 140737488351232 ∧ locals.length ≤ 140737488351232 ∧ DatF code lines nodes at' live := by
  obtain ⟨h1, -, ⟨h2, -⟩, ⟨h3, -⟩, ⟨h4, -⟩, ⟨h5, -⟩, ⟨-, h6⟩, ⟨-, h7⟩, ⟨-, h8⟩, ⟨-, h9⟩, ⟨-, h10⟩⟩ := h
  exact ⟨h1, h2, h3, h4, h5, fun p hp => (h6 p hp).2, h7, h8, h9, h10⟩
end
end Go.Proofs.YtkdnbnkbnegckaaGreat
namespace Go.Proofs.YtkdnbnkbnegckaaGreat
open Go.RowKit
set_option maxRecDepth 20000
/-! Small programs -/
def smallV (f : Fn) : Bool := smallB f.2.2.1 f.2.2.2.1 f.2.2.2.2.1 f.2.2.2.2.2.1 f.2.2.2.2.2.2.2.1 f.2.2.2.2.2.2.2.2.2.1 f.2.2.2.2.2.2.1 f.2.2.2.2.2.2.2.2.1 f.2.2.2.2.2.2.2.2.2.2
def smallsB (fs : List Fn) : Bool := decide (fs.length ≤ 50) && fs.all smallV
def BoundV (f : Fn) : Prop := f.2.2.1.length ≤ 140737488351232 ∧ f.2.2.2.1.length ≤ 140737488351232 ∧ f.2.2.2.2.1.length ≤ 140737488351232 ∧ f.2.2.2.2.2.1.length ≤ 140737488351232
theorem sp_Small16 {fs : List Fn} (hl : ∀ f ∈ fs, BoundV f) : S_law16_Small fs = some (smallsB fs, ()) := by
  refine u_law16_Small (N := 52) ?_
  simp [M_law16_Small]
  refine iter_join (fun d => fs.length + 51 - d.1.toNat - fs.length) (fun d => ∃ k : Nat, d = ((k : Int), ()) ∧ k ≤ fs.length ∧ k ≤ 50 ∧ (fs.take k).all smallV = true) ?_ _ _ ⟨0, rfl, Nat.zero_le _, by omega, by simp⟩ (by simp)
  rintro _ again ⟨k, rfl, hk, hk2, hr⟩ ih
  by_cases h : k < fs.length
  · by_cases h5 : k < 50
    · have hw : wrp .i64 ((k : Int) + 1) = (k : Int) + 1 := wi64 (by omega) (by omega)
      obtain ⟨p1, p2, p3, p4⟩ := hl fs[k] (List.getElem_mem h)
      have hS : S_law15_Small fs[k].1 fs[k].2.1 fs[k].2.2.1 fs[k].2.2.2.1 fs[k].2.2.2.2.1 fs[k].2.2.2.2.2.1 fs[k].2.2.2.2.2.2.1 fs[k].2.2.2.2.2.2.2.1 fs[k].2.2.2.2.2.2.2.2.1 fs[k].2.2.2.2.2.2.2.2.2.1 fs[k].2.2.2.2.2.2.2.2.2.2 = some (smallV fs[k], ()) := sp_Small p1 p2 p3 p4
      have h50 : (k : Int) < 50 := by omega
      simp [h, h50, bnd_get h, hw, hS]
      cases he : smallV fs[k] with
      | true => exact ih ((k : Int) + 1, ()) ⟨k + 1, rfl, h, h5, by rw [List.take_succ_eq_append_getElem h, List.all_append, hr]; simp [he]⟩ (by simp; omega)
      | false =>
        have : smallsB fs = false := by
          have : fs.all smallV = false := by
            cases hq : fs.all smallV with
            | false => rfl
            | true => rw [List.all_eq_true] at hq; rw [hq _ (List.getElem_mem h)] at he; cases he
          rw [smallsB, this]; simp
        simp [this]
    · have h50 : ¬(k : Int) < 50 := by omega
      have hb : ¬fs.length ≤ 50 := by omega
      have hb2 : ¬(fs.length : Int) ≤ 50 := by omega
      simp [h, h50, smallsB, hb, hb2]
  · have : k = fs.length := by omega
    subst this
    rw [List.take_length] at hr
    simp [smallsB, hr]
    omega
theorem smallsB_len {fs : List Fn} (h : smallsB fs = true) : fs.length ≤ 50 ∧ ∀ f ∈ fs, (f.1.length ≤ 140737488351232 → LenV f) := by
  simp only [smallsB, Bool.and_eq_true, decide_eq_true_eq, List.all_eq_true] at h
  refine ⟨h.1, fun f hf hn => ?_⟩
  obtain ⟨h1, h2⟩ := small_len (h.2 f hf)
  exact ⟨by unfold Len; omega, h1, by omega⟩
end Go.Proofs.YtkdnbnkbnegckaaGreat
namespace Go.Proofs.YtkdnbnkbnegckaaGreat
open Go.RowKit
set_option maxRecDepth 100000
def i_ref16_Names : Tpl := ⟨[], [], [(.agg, [.hole (.sl 11 tF)])]⟩
def o_ref16_Names : Tpl := ⟨[], [], [(.one, [.hole (.sl 1 .str)])]⟩
noncomputable def S_ref16_Names (a0 : LF) : Option ((List LB) × Unit) := Sof Tryz.prog annX plansX 81 i_ref16_Names o_ref16_Names (a0, ())
noncomputable def c_ref16_Names : Ctr := ⟨81, i_ref16_Names, o_ref16_Names, fun d => S_ref16_Names d.1⟩
theorem k_ref16_Names : (c_ref16_Names).ok Tryz.prog annX plansX := ctr_ok (tin := i_ref16_Names) (tout := o_ref16_Names)
def i_ref05_Find : Tpl := ⟨[], [], [(.one, [.hole (.sl 1 .str)]), (.one, [.hole .str])]⟩
def o_ref05_Find : Tpl := ⟨[], [], [(.one, [.hole tI])]⟩
noncomputable def S_ref05_Find (a0 : (List LB)) (a1 : LB) : Option (Int × Unit) := Sof Tryz.prog annX plansX 131 i_ref05_Find o_ref05_Find (a0, (a1, ()))
noncomputable def c_ref05_Find : Ctr := ⟨131, i_ref05_Find, o_ref05_Find, fun d => S_ref05_Find d.1 d.2.1⟩
theorem k_ref05_Find : (c_ref05_Find).ok Tryz.prog annX plansX := ctr_ok (tin := i_ref05_Find) (tout := o_ref05_Find)
def i_ref05_Unlike : Tpl := ⟨[], [], [(.one, [.hole (.sl 1 .str)])]⟩
def o_ref05_Unlike : Tpl := ⟨[], [], [(.one, [.hole .bool])]⟩
noncomputable def S_ref05_Unlike (a0 : (List LB)) : Option (Bool × Unit) := Sof Tryz.prog annX plansX 80 i_ref05_Unlike o_ref05_Unlike (a0, ())
noncomputable def c_ref05_Unlike : Ctr := ⟨80, i_ref05_Unlike, o_ref05_Unlike, fun d => S_ref05_Unlike d.1⟩
theorem k_ref05_Unlike : (c_ref05_Unlike).ok Tryz.prog annX plansX := ctr_ok (tin := i_ref05_Unlike) (tout := o_ref05_Unlike)
def i_ref16_Can : Tpl := ⟨[], [], [(.agg, [.hole (.sl 11 tF)])]⟩
def o_ref16_Can : Tpl := ⟨[], [], [(.one, [.hole tI])]⟩
noncomputable def S_ref16_Can (a0 : LF) : Option (Int × Unit) := Sof Tryz.prog annX plansX 30 i_ref16_Can o_ref16_Can (a0, ())
noncomputable def c_ref16_Can : Ctr := ⟨30, i_ref16_Can, o_ref16_Can, fun d => S_ref16_Can d.1⟩
theorem k_ref16_Can : (c_ref16_Can).ok Tryz.prog annX plansX := ctr_ok (tin := i_ref16_Can) (tout := o_ref16_Can)
end Go.Proofs.YtkdnbnkbnegckaaGreat
namespace Go.Proofs.YtkdnbnkbnegckaaGreat
open Go.RowKit
set_option maxRecDepth 100000
set_option linter.unusedVariables false
noncomputable def M_ref16_Names (N : Nat) (l_0 : LF) : Option ((List LB) × Unit) :=
 decL .str [] <| fun l1 =>
 qS (eF l_0) <|
 iter (fun (d2 : ((List LB) × (Int × Unit))) again3 =>
  cnd (ltI d2.2.1 (vlen (eF l_0)))
   (chk (leI 0 d2.2.1) <|
   getE tF (eF l_0) (natI d2.2.1) <| fun p4 =>
   qN (vnum (encL .str d2.1)) <|
   chk (room (vnum (encL .str d2.1)) (vnum (vcut [[(C.v (Go.Value.string (ByteArray.mk (Array.mk p4.1))))]] 0 1)) 16) <|
   decL .str (vapp (encL .str d2.1) (vcut [[(C.v (Go.Value.string (ByteArray.mk (Array.mk p4.1))))]] 0 1)) <| fun l5 =>
   qS (eF l_0) <|
   chk (eqN (addN (vnum (encL .str d2.1)) (vnum (vcut [[(C.v (Go.Value.string (ByteArray.mk (Array.mk p4.1))))]] 0 1))) (vnum (vapp (encL .str d2.1) (vcut [[(C.v (Go.Value.string (ByteArray.mk (Array.mk p4.1))))]] 0 1)))) <|
   again3 (l5, ((wrp .i64 (addI d2.2.1 1)), ())))
   (chk (leN (addN 0 (vnum (encL .str d2.1))) (vnum (encL .str d2.1))) <|
   decL .str (vcut (encL .str d2.1) 0 (vnum (encL .str d2.1))) <| fun l6 =>
   some (l6, ()))) N (l1, (0, ()))
noncomputable def q_ref16_Names : Lift := ⟨tyX, look2 .todo (α := LoopAs) (.n 81 [(3, (.as ⟨[.mu 9 1 .str], [[.fix]], (.one, [.junk]) :: (.one, [.stat (.ptr 0 0)]) :: (.one, [.junk]) :: (.one, [.own 0]) :: (.one, [.hole tI]) :: rp 17 (.one, [.junk]) ([])⟩))] .o .o), [], bsX⟩
theorem u_ref16_Names {N : Nat} {a0 : LF} {q : ((List LB) × Unit)} (h : M_ref16_Names N a0 = some q) : S_ref16_Names a0 = some q :=
 Sof_of (Q := q_ref16_Names) (N := N) (n := 3) (f := 81) (tin := i_ref16_Names) (tout := o_ref16_Names) (d := (a0, ())) all0 bs_ok (by kernel_rfl) (by kernel_rfl) (by kernel_rfl) (Eq.trans (b := M_ref16_Names N a0) (by kernel_rfl) h)

noncomputable def M_ref05_Find (N : Nat) (l_0 : (List LB)) (l_1 : LB) : Option (Int × Unit) :=
 qS (encL .str l_0) <|
 qB (ByteArray.mk (Array.mk l_1)) <|
 iter (fun (d1 : (Int × Unit)) again2 =>
  cnd (ltI d1.1 (vlen (encL .str l_0)))
   (chk (leI 0 d1.1) <|
   getE .str (encL .str l_0) (natI d1.1) <| fun l3 =>
   cnd (seq2 (ByteArray.mk (Array.mk l3)) (ByteArray.mk (Array.mk l_1)))
    (some (d1.1, ()))
    (qS (encL .str l_0) <|
    qB (ByteArray.mk (Array.mk l_1)) <|
    again2 ((wrp .i64 (addI d1.1 1)), ())))
   (some ((-1), ()))) N (0, ())
noncomputable def q_ref05_Find : Lift := ⟨tyX, look2 .todo (α := LoopAs) (.n 131 [(2, (.as ⟨[], [], (.one, [.fix]) :: (.one, [.fix]) :: (.one, [.junk]) :: (.one, [.junk]) :: (.one, [.junk]) :: (.one, [.hole tI]) :: rp 13 (.one, [.junk]) ([])⟩))] .o .o), [], bsX⟩
theorem u_ref05_Find {N : Nat} {a0 : (List LB)} {a1 : LB} {q : (Int × Unit)} (h : M_ref05_Find N a0 a1 = some q) : S_ref05_Find a0 a1 = some q :=
 Sof_of (Q := q_ref05_Find) (N := N) (n := 3) (f := 131) (tin := i_ref05_Find) (tout := o_ref05_Find) (d := (a0, (a1, ()))) all0 bs_ok (by kernel_rfl) (by kernel_rfl) (by kernel_rfl) (Eq.trans (b := M_ref05_Find N a0 a1) (by kernel_rfl) h)

noncomputable def M_ref05_Unlike (N : Nat) (l_0 : (List LB)) : Option (Bool × Unit) :=
 qS (encL .str l_0) <|
 iter (fun (d1 : (Int × Unit)) again2 =>
  cnd (ltI d1.1 (vlen (encL .str l_0)))
   (chk (leI 0 d1.1) <|
   getE .str (encL .str l_0) (natI d1.1) <| fun l3 =>
   decL .str (encL .str l_0) <| fun l4 =>
   bnd (S_ref05_Find l4 l3) <| fun p5 =>
   cnd (notB (eqI p5.1 d1.1))
    (some (false, ()))
    (qS (encL .str l_0) <|
    again2 ((wrp .i64 (addI d1.1 1)), ())))
   (some (true, ()))) N (0, ())
noncomputable def q_ref05_Unlike : Lift := ⟨tyX, look2 .todo (α := LoopAs) (.n 80 [(2, (.as ⟨[], [], (.one, [.fix]) :: (.one, [.junk]) :: (.one, [.junk]) :: (.one, [.hole tI]) :: rp 14 (.one, [.junk]) ([])⟩))] .o .o), [c_ref05_Find], bsX⟩
theorem u_ref05_Unlike {N : Nat} {a0 : (List LB)} {q : (Bool × Unit)} (h : M_ref05_Unlike N a0 = some q) : S_ref05_Unlike a0 = some q :=
 Sof_of (Q := q_ref05_Unlike) (N := N) (n := 3) (f := 80) (tin := i_ref05_Unlike) (tout := o_ref05_Unlike) (d := (a0, ())) (all1 k_ref05_Find all0) bs_ok (by kernel_rfl) (by kernel_rfl) (by kernel_rfl) (Eq.trans (b := M_ref05_Unlike N a0) (by kernel_rfl) h)

noncomputable def M_ref16_Can (N : Nat) (l_0 : LF) : Option (Int × Unit) :=
 joinK (δ := Unit) (cnd (ltI (vlen (eF l_0)) 1)
   (rightK <| some (6, ()))
   (cnd (ltI 40 (vlen (eF l_0)))
    (rightK <| some (6, ()))
    (qS (eF l_0) <|
    leftK ())))
 <| fun x1 =>
 qS (eF l_0) <|
 iter (fun (d2 : (Int × Unit)) again3 =>
  cnd (ltI d2.1 (vlen (eF l_0)))
   (chk (leI 0 d2.1) <|
   getE tF (eF l_0) (natI d2.1) <| fun p4 =>
   dI p4.2.2.1 <| fun l5 =>
   dI p4.2.2.2.1 <| fun l6 =>
   dI p4.2.2.2.2.1 <| fun l7 =>
   dI p4.2.2.2.2.2.1 <| fun l8 =>
   dC p4.2.2.2.2.2.2.1 <| fun l9 =>
   dI p4.2.2.2.2.2.2.2.1 <| fun l10 =>
   dN p4.2.2.2.2.2.2.2.2.1 <| fun l11 =>
   dI p4.2.2.2.2.2.2.2.2.2.1 <| fun l12 =>
   dS p4.2.2.2.2.2.2.2.2.2.2 <| fun l13 =>
   bnd (S_ref15_Can p4.1 p4.2.1 l5 l6 l7 l8 l9 l10 l11 l12 l13) <| fun p14 =>
   cnd (notB (eqI p14.1 0))
    (some (p14.1, ()))
    (qS (eF l_0) <|
    again3 ((wrp .i64 (addI d2.1 1)), ())))
   (dF l_0 <| fun l15 =>
   bnd (S_ref16_Names l15) <| fun p16 =>
   decL .str (encL .str p16.1) <| fun l17 =>
   bnd (S_ref05_Unlike l17) <| fun p18 =>
   cnd (notB p18.1)
    (some (7, ()))
    (some (0, ())))) N (0, ())
noncomputable def q_ref16_Can : Lift := ⟨tyX, look2 .todo (α := LoopAs) (.n 30 [(4, (.as ⟨[], [[.fix]], (.one, [.junk]) :: (.one, [.stat (.ptr 0 0)]) :: (.one, [.junk]) :: (.one, [.hole tI]) :: rp 31 (.one, [.junk]) ([])⟩)), (1012292, (.as ⟨[], [[.fix]], (.one, [.junk]) :: (.one, [.stat (.ptr 0 0)]) :: rp 33 (.one, [.junk]) ([])⟩))] .o .o), [c_ref15_Can, c_ref16_Names, c_ref05_Unlike], bsX⟩
theorem u_ref16_Can {N : Nat} {a0 : LF} {q : (Int × Unit)} (h : M_ref16_Can N a0 = some q) : S_ref16_Can a0 = some q :=
 Sof_of (Q := q_ref16_Can) (N := N) (n := 3) (f := 30) (tin := i_ref16_Can) (tout := o_ref16_Can) (d := (a0, ())) (all1 k_ref15_Can (all1 k_ref16_Names (all1 k_ref05_Unlike all0))) bs_ok (by kernel_rfl) (by kernel_rfl) (by kernel_rfl) (Eq.trans (b := M_ref16_Can N a0) (by kernel_rfl) h)
end Go.Proofs.YtkdnbnkbnegckaaGreat

namespace Go.Proofs.YtkdnbnkbnegckaaGreat
open Go.RowKit
set_option maxRecDepth 100000
def i_ref01_Put : Tpl := ⟨[], [], [(.one, [.hole tW])]⟩
def o_ref01_Put : Tpl := ⟨[.mu 5 1 tY], [], [(.one, [.own 0])]⟩
noncomputable def S_ref01_Put (a0 : Int) : Option (LB × Unit) := Sof Tryz.prog annX plansX 74 i_ref01_Put o_ref01_Put (a0, ())
noncomputable def c_ref01_Put : Ctr := ⟨74, i_ref01_Put, o_ref01_Put, fun d => S_ref01_Put d.1⟩
theorem k_ref01_Put : (c_ref01_Put).ok Tryz.prog annX plansX := ctr_ok (tin := i_ref01_Put) (tout := o_ref01_Put)
def i_ref11_Put : Tpl := ⟨[], [], [(.one, [.hole (.sl 1 tI)])]⟩
def o_ref11_Put : Tpl := ⟨[], [], [(.one, [.hole (.sl 1 tY)])]⟩
noncomputable def S_ref11_Put (a0 : LI) : Option (LB × Unit) := Sof Tryz.prog annX plansX 122 i_ref11_Put o_ref11_Put (a0, ())
noncomputable def c_ref11_Put : Ctr := ⟨122, i_ref11_Put, o_ref11_Put, fun d => S_ref11_Put d.1⟩
theorem k_ref11_Put : (c_ref11_Put).ok Tryz.prog annX plansX := ctr_ok (tin := i_ref11_Put) (tout := o_ref11_Put)
def i_ref01_Fold : Tpl := ⟨[], [], [(.one, [.hole tI])]⟩
def o_ref01_Fold : Tpl := ⟨[], [], [(.one, [.hole tW])]⟩
noncomputable def S_ref01_Fold (a0 : Int) : Option (Int × Unit) := Sof Tryz.prog annX plansX 160 i_ref01_Fold o_ref01_Fold (a0, ())
noncomputable def c_ref01_Fold : Ctr := ⟨160, i_ref01_Fold, o_ref01_Fold, fun d => S_ref01_Fold d.1⟩
theorem k_ref01_Fold : (c_ref01_Fold).ok Tryz.prog annX plansX := ctr_ok (tin := i_ref01_Fold) (tout := o_ref01_Fold)
def i_ref10_Put : Tpl := ⟨[], [], [(.agg, [.hole tI, .hole tI])]⟩
def o_ref10_Put : Tpl := ⟨[], [], [(.one, [.hole (.sl 1 tY)])]⟩
noncomputable def S_ref10_Put (a0 : Int) (a1 : Int) : Option (LB × Unit) := Sof Tryz.prog annX plansX 123 i_ref10_Put o_ref10_Put (a0, (a1, ()))
noncomputable def c_ref10_Put : Ctr := ⟨123, i_ref10_Put, o_ref10_Put, fun d => S_ref10_Put d.1 d.2.1⟩
theorem k_ref10_Put : (c_ref10_Put).ok Tryz.prog annX plansX := ctr_ok (tin := i_ref10_Put) (tout := o_ref10_Put)
def i_ref04_Of : Tpl := ⟨[], [], [(.one, [.hole (.sl 1 tI)])]⟩
def o_ref04_Of : Tpl := ⟨[], [], [(.one, [.hole (.sl 2 tC)])]⟩
noncomputable def S_ref04_Of (a0 : LI) : Option (LC × Unit) := Sof Tryz.prog annX plansX 161 i_ref04_Of o_ref04_Of (a0, ())
noncomputable def c_ref04_Of : Ctr := ⟨161, i_ref04_Of, o_ref04_Of, fun d => S_ref04_Of d.1⟩
theorem k_ref04_Of : (c_ref04_Of).ok Tryz.prog annX plansX := ctr_ok (tin := i_ref04_Of) (tout := o_ref04_Of)
def i_ref04_Put : Tpl := ⟨[], [], [(.one, [.hole (.sl 1 tI)])]⟩
def o_ref04_Put : Tpl := ⟨[], [], [(.one, [.hole (.sl 1 tY)])]⟩
noncomputable def S_ref04_Put (a0 : LI) : Option (LB × Unit) := Sof Tryz.prog annX plansX 124 i_ref04_Put o_ref04_Put (a0, ())
noncomputable def c_ref04_Put : Ctr := ⟨124, i_ref04_Put, o_ref04_Put, fun d => S_ref04_Put d.1⟩
theorem k_ref04_Put : (c_ref04_Put).ok Tryz.prog annX plansX := ctr_ok (tin := i_ref04_Put) (tout := o_ref04_Put)
def i_ref13_Put : Tpl := ⟨[], [], [(.one, [.hole (.sl 7 tN)])]⟩
def o_ref13_Put : Tpl := ⟨[], [], [(.one, [.hole (.sl 1 tY)])]⟩
noncomputable def S_ref13_Put (a0 : LN) : Option (LB × Unit) := Sof Tryz.prog annX plansX 125 i_ref13_Put o_ref13_Put (a0, ())
noncomputable def c_ref13_Put : Ctr := ⟨125, i_ref13_Put, o_ref13_Put, fun d => S_ref13_Put d.1⟩
theorem k_ref13_Put : (c_ref13_Put).ok Tryz.prog annX plansX := ctr_ok (tin := i_ref13_Put) (tout := o_ref13_Put)
def i_ref14_Put : Tpl := ⟨[], [], [(.one, [.hole (.sl 4 tS)])]⟩
def o_ref14_Put : Tpl := ⟨[], [], [(.one, [.hole (.sl 1 tY)])]⟩
noncomputable def S_ref14_Put (a0 : LS) : Option (LB × Unit) := Sof Tryz.prog annX plansX 126 i_ref14_Put o_ref14_Put (a0, ())
noncomputable def c_ref14_Put : Ctr := ⟨126, i_ref14_Put, o_ref14_Put, fun d => S_ref14_Put d.1⟩
theorem k_ref14_Put : (c_ref14_Put).ok Tryz.prog annX plansX := ctr_ok (tin := i_ref14_Put) (tout := o_ref14_Put)
def i_ref15_Put : Tpl := ⟨[], [], [(.agg, [.hole .str, .hole .bool, .hole (.sl 1 tI), .hole (.sl 1 tI), .hole (.sl 1 tI), .hole (.sl 1 tI), .hole (.sl 2 tC), .hole (.sl 1 tI), .hole (.sl 7 tN), .hole (.sl 1 tI), .hole (.sl 4 tS)])]⟩
def o_ref15_Put : Tpl := ⟨[], [], [(.one, [.hole (.sl 1 tY)])]⟩
noncomputable def S_ref15_Put (a0 : LB) (a1 : Bool) (a2 : LI) (a3 : LI) (a4 : LI) (a5 : LI) (a6 : LC) (a7 : LI) (a8 : LN) (a9 : LI) (a10 : LS) : Option (LB × Unit) := Sof Tryz.prog annX plansX 75 i_ref15_Put o_ref15_Put (a0, (a1, (a2, (a3, (a4, (a5, (a6, (a7, (a8, (a9, (a10, ())))))))))))
noncomputable def c_ref15_Put : Ctr := ⟨75, i_ref15_Put, o_ref15_Put, fun d => S_ref15_Put d.1 d.2.1 d.2.2.1 d.2.2.2.1 d.2.2.2.2.1 d.2.2.2.2.2.1 d.2.2.2.2.2.2.1 d.2.2.2.2.2.2.2.1 d.2.2.2.2.2.2.2.2.1 d.2.2.2.2.2.2.2.2.2.1 d.2.2.2.2.2.2.2.2.2.2.1⟩
theorem k_ref15_Put : (c_ref15_Put).ok Tryz.prog annX plansX := ctr_ok (tin := i_ref15_Put) (tout := o_ref15_Put)
end Go.Proofs.YtkdnbnkbnegckaaGreat
