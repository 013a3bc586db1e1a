/- file.Encode and file.Decode as operations of the second machine. Whether functions and programs are the same: what the lifted functions come to. What a law says of examples: by the second machine. From a lifted law to its walk. The law FncBack: what it comes to. Programs: whether they are the same, whether they are small. What functions come to: templates, and contracts. -/
import Derived.Test.YtkdnbnkbnegckaaGreatLiv
import Derived.Test.YtkdnbnkbnegckaaGreatLpA
import Derived.Test.YtkdnbnkbnegckaaGreatEnd
import Derived.Test.YtkdnbnkbnegckaaGreatSpT
import Derived.Test.YtkdnbnkbnegckaaGreatEvQ
import Derived.Test.YtkdnbnkbnegckaaGreatSpB
import Derived.Test.YtkdnbnkbnegckaaGreatDec
import Derived.Test.YtkdnbnkbnegckaaGreatLq
namespace Go.Proofs.YtkdnbnkbnegckaaGreat
open Go.RowKit
set_option maxRecDepth 20000
open Classical in
noncomputable def encodeX (a : List T) (h : Hp) : Option (T × Hp) :=
  match a with
  | [⟨.agg, [.c (.fz 11 es)]⟩] =>
    if hh : ∃ fs : List Fn, es = encL tF fs ∧ (∀ f ∈ fs, LenV f) ∧ (∀ f ∈ fs, DatV f) ∧ fs.length ≤ 1000000 then
      some (⟨.tup [(false, 1), (false, 1)], [.c (.fz 1 (encL tY (encodeR hh.choose).1)), .c (.v (.int .i64 (encodeR hh.choose).2))]⟩, h)
    else none
  | _ => none
theorem encodeX_of {fs : List Fn} {h : Hp} (h1 : ∀ f ∈ fs, LenV f) (h2 : ∀ f ∈ fs, DatV f) (h3 : fs.length ≤ 1000000) :
    encodeX [⟨.agg, [.c (.fz 11 (encL tF fs))]⟩] h = some (⟨.tup [(false, 1), (false, 1)], [.c (.fz 1 (encL tY (encodeR fs).1)), .c (.v (.int .i64 (encodeR fs).2))]⟩, h) := by
  have hh : ∃ gs : List Fn, encL tF fs = encL tF gs ∧ (∀ f ∈ gs, LenV f) ∧ (∀ f ∈ gs, DatV f) ∧ gs.length ≤ 1000000 := ⟨fs, rfl, h1, h2, h3⟩
  have he : hh.choose = fs := (encL_inj hh.choose_spec.1).symm
  simp only [encodeX]
  rw [dif_pos hh, he]
theorem encode_ok : KOk Tryz.prog fun f a h => if f = 24 then encodeX a h else none := fun f a h res h' hc => by
  simp only at hc
  split at hc
  case isFalse => cases hc
  rename_i hf
  subst hf
  refine ⟨⟨_, Tryz.func24, by kernel_rfl, by kernel_rfl⟩, fun W who L vs H hl R => ?_⟩
  unfold encodeX at hc
  split at hc
  · rename_i es
    split at hc
    case isFalse => cases hc
    rename_i hh
    obtain ⟨g1, g2, g3, g4⟩ := hh.choose_spec
    generalize hh.choose = fs at *
    subst g1
    cases hc
    obtain ⟨v, rfl⟩ : ∃ v, vs = [v] := by
      match vs, hl with
      | [v], _ => exact ⟨v, rfl⟩
    obtain ⟨us, hu, hx1, hx2⟩ := R 0 _ v rfl rfl
    obtain ⟨u, rfl⟩ : ∃ u, us = [u] := by
      match us, hx1 with
      | [u], _ => exact ⟨u, rfl⟩
    subst hu
    have hr : RepC W who (.fz 11 (encL tF fs)) u := (hx2 0 _ u rfl rfl).1
    refine (encode_walk fs u W (hr.mono fun _ _ => rfl) g2 g3 g4).mono fun e W' ⟨hx, ao, cap, he, hc, hcap, hfr⟩ => ?_
    obtain ⟨H', S'⟩ := ext_frozen H hx
    refine ⟨_, _, L, he, ⟨_, rfl, _, _, rfl, Nat.le_succ _, ⟨_, rfl, ?_⟩, _, _, rfl, Nat.le_refl _, ⟨_, rfl, .v _ rfl⟩, rfl, rfl⟩, H', S'.any⟩
    have := repC_inW (W := W') (who := whoN W who) (sz := 1) (cap := cap) (es := encL tY (encodeR fs).1) (ao := ao) (by decide) (fun e he => by obtain ⟨x, _, rfl⟩ := List.mem_map.1 he; rfl) (by rw [encL_len]; exact hcap) hc (fun b off e => ?_) (bytes_reps _)
    · rw [encL_len] at this
      exact this
    · have := hfr b off e
      exact if_neg (by omega)
  · cases hc
open Classical in
noncomputable def decodeX (a : List T) (h : Hp) : Option (T × Hp) :=
  match a with
  | [⟨.one, [.c (.fz 1 es)]⟩] =>
    if hh : ∃ b : List UInt8, es = encL tY b ∧ b.length ≤ 140737488351232 then
      some (⟨.tup [(true, 1), (false, 1)], [.c (.fz 11 (encL tF (decodeR hh.choose).1)), .c (.v (.int .i64 (decodeR hh.choose).2))]⟩, h)
    else none
  | _ => none
theorem decodeX_of {b : List UInt8} {h : Hp} (h1 : b.length ≤ 140737488351232) :
    decodeX [⟨.one, [.c (.fz 1 (encL tY b))]⟩] h = some (⟨.tup [(true, 1), (false, 1)], [.c (.fz 11 (encL tF (decodeR b).1)), .c (.v (.int .i64 (decodeR b).2))]⟩, h) := by
  have hh : ∃ c : List UInt8, encL tY b = encL tY c ∧ c.length ≤ 140737488351232 := ⟨b, rfl, h1⟩
  have he : hh.choose = b := (encL_inj hh.choose_spec.1).symm
  simp only [decodeX]
  rw [dif_pos hh, he]
open Classical in
theorem decode_ok : KOk Tryz.prog fun f a h => if f = 27 then decodeX a h else none := fun f a h res h' hc => by
  simp only at hc
  split at hc
  case isFalse => cases hc
  rename_i hf
  subst hf
  refine ⟨⟨_, Tryz.func27, by kernel_rfl, by kernel_rfl⟩, fun W who L vs H hl R => ?_⟩
  unfold decodeX at hc
  split at hc
  · rename_i es
    split at hc
    case isFalse => cases hc
    rename_i hh
    obtain ⟨g1, g2⟩ := hh.choose_spec
    generalize hh.choose = b at *
    subst g1
    cases hc
    obtain ⟨v, rfl⟩ : ∃ v, vs = [v] := by
      match vs, hl with
      | [v], _ => exact ⟨v, rfl⟩
    obtain ⟨x, hx1, hx2⟩ := R 0 _ v rfl rfl
    cases hx1
    have hr : RepC W who (.fz 1 (encL tY b)) v := hx2
    obtain ⟨ao, cap, rfl, hcap, hC, hfz⟩ : ∃ ao cap, v = .slice ao b.length cap ∧ b.length ≤ cap ∧ Cells W ao (b.map byteC) ∧ (b ≠ [] → ∀ k off, ao = some ⟨k, off, none⟩ → who k = .frozen) := by
      obtain ⟨es, he⟩ : ∃ es, es = encL tY b := ⟨_, rfl⟩
      have hel : es.length = b.length := by rw [he, encL_len]
      rw [← he] at hr
      cases hr with
      | fz _ cap _ ao us hu hcp ha hw hrg hl2 hrep =>
        have hub := reps_bytes (W := W) (who := who) (l := b) (us := us) (by rw [← he]; exact ⟨hl2, hrep⟩)
        subst hub
        refine ⟨ao, cap, by rw [hel], by rw [← hel]; exact hcp, ⟨fun hne => ha fun h0 => hne (by rw [h0] at hel; simp at hel; rw [List.eq_nil_of_length_eq_zero hel.symm]; rfl), fun k off e j u hj => hrg k off e j u hj⟩, fun hne k off e => (hw k off (fun h0 => hne (List.eq_nil_of_length_eq_zero (by rw [← hel, h0]; rfl))) e).1⟩
    refine (decode_walk (fun k => decide (who k = .frozen)) ao cap b W hC hcap g2 fun hb k off e => decide_eq_true (hfz hb k off e)).mono fun e W' ⟨hx, u, he, who2, hw2, hru⟩ => ?_
    obtain ⟨H', S'⟩ := ext_frozen H hx
    refine ⟨_, _, L, he, ⟨_, rfl, _, _, rfl, Nat.le_succ _, ⟨_, rfl, rfl, fun i x v h1 h2 => ?_⟩, _, _, rfl, Nat.le_refl _, ⟨_, rfl, .v _ rfl⟩, rfl, rfl⟩, H', S'.any⟩
    have hrep : RepC W' (whoN W who) (.fz 11 (encL tF (decodeR b).1)) u := hru.mono fun k hk => by
      by_cases hlt : k < W.heap.size
      · refine (if_pos hlt).trans ?_
        by_cases hf : who k = .frozen
        · exact hf
        · have := hw2 k (decide_eq_false hf) hlt
          rw [hk] at this
          cases this
      · exact if_neg hlt
    match i with
    | 0 => cases h1; cases h2; exact ⟨hrep, hrep.one⟩
    | i + 1 => simp at h1
  · cases hc
end Go.Proofs.YtkdnbnkbnegckaaGreat
namespace Go.Proofs.YtkdnbnkbnegckaaGreat
open Go.RowKit
set_option maxRecDepth 20000
end Go.Proofs.YtkdnbnkbnegckaaGreat
namespace Go.Proofs.YtkdnbnkbnegckaaGreat
open Go.RowKit
end Go.Proofs.YtkdnbnkbnegckaaGreat
namespace Go.Proofs.YtkdnbnkbnegckaaGreat
open Go.RowKit
end Go.Proofs.YtkdnbnkbnegckaaGreat
namespace Go.Proofs.YtkdnbnkbnegckaaGreat
open Go.RowKit
set_option maxRecDepth 8000
section
variable {name : List UInt8} {inner : Bool} {outer params results locals lines at' : List Int} {code : List (Int × Int)} {nodes : List Nd} {live : List St}
def smallB (outer params results locals lines at' : List Int) (code : List (Int × Int)) (nodes : List Nd) (live : List St) : Bool :=
  decide (code.length ≤ 150 ∧ lines.length ≤ 150 ∧ nodes.length ≤ 20 ∧ at'.length ≤ 150 ∧ live.length ≤ 150 ∧ params.length + results.length + locals.length + outer.length ≤ 300)
theorem sp_Small (h1 : outer.length ≤ 140737488351232) (h2 : params.length ≤ 140737488351232) (h3 : results.length ≤ 140737488351232) (h4 : locals.length ≤ 140737488351232) : S_law15_Small name inner outer params results locals code lines nodes at' live = some (smallB outer params results locals lines at' code nodes live, ()) := by
  refine u_law15_Small (N := 0) ?_
  have w1 : wrp .i64 ((params.length : Int) + results.length) = (params.length : Int) + results.length := wi64 (by omega) (by omega)
  have w2 : wrp .i64 ((params.length : Int) + results.length + locals.length) = (params.length : Int) + results.length + locals.length := wi64 (by omega) (by omega)
  have w3 : wrp .i64 ((params.length : Int) + results.length + locals.length + outer.length) = (params.length : Int) + results.length + locals.length + outer.length := wi64 (by omega) (by omega)
  have c1 : ((code.length : Int) ≤ 150) ↔ code.length ≤ 150 := by omega
  have c2 : ((lines.length : Int) ≤ 150) ↔ lines.length ≤ 150 := by omega
  have c3 : ((nodes.length : Int) ≤ 20) ↔ nodes.length ≤ 20 := by omega
  have c4 : ((at'.length : Int) ≤ 150) ↔ at'.length ≤ 150 := by omega
  have c5 : ((live.length : Int) ≤ 150) ↔ live.length ≤ 150 := by omega
  have c6 : ((params.length : Int) + results.length + locals.length + outer.length ≤ 300) ↔ params.length + results.length + locals.length + outer.length ≤ 300 := by omega
  simp [M_law15_Small, smallB, w1, w2, w3, c1, c2, c3, c4, c5, c6]
  by_cases d1 : code.length ≤ 150 <;> by_cases d2 : lines.length ≤ 150 <;> by_cases d3 : nodes.length ≤ 20 <;> by_cases d4 : at'.length ≤ 150 <;> by_cases d5 : live.length ≤ 150 <;> simp [d1, d2, d3, d4, d5]
theorem small_len (h : smallB outer params results locals lines at' code nodes live = true) : LenF outer params results locals code lines nodes at' live ∧ nodes.length ≤ 20 := by
  simp only [smallB, decide_eq_true_eq] at h
  unfold LenF
  omega
/-- Data of a function. -/
def FnD : Ty := .pr .str (.pr .bool (.pr (.sl 1 tI) (.pr (.sl 1 tI) (.pr (.sl 1 tI) (.pr (.sl 1 tI) (.pr (.sl 2 tC) (.pr (.sl 1 tI) (.pr (.sl 7 tN) (.pr (.sl 1 tI) (.sl 4 tS))))))))))
theorem okD_dat (h : OkD FnD (name, inner, outer, params, results, locals, code, lines, nodes, at', live)) : Len name ∧ outer.length ≤ 140737488351232 ∧ params.length ≤ 140737488351232 ∧ results.length ≤ 140737488351232 ∧ locals.length ≤ 140737488351232 ∧ DatF code lines nodes at' live := by
  obtain ⟨h1, -, ⟨h2, -⟩, ⟨h3, -⟩, ⟨h4, -⟩, ⟨h5, -⟩, ⟨-, h6⟩, ⟨-, h7⟩, ⟨-, h8⟩, ⟨-, h9⟩, ⟨-, h10⟩⟩ := h
  exact ⟨h1, h2, h3, h4, h5, fun p hp => (h6 p hp).2, h7, h8, h9, h10⟩
end
end Go.Proofs.YtkdnbnkbnegckaaGreat
namespace Go.Proofs.YtkdnbnkbnegckaaGreat
open Go.RowKit
set_option maxRecDepth 20000
/-! Small programs -/
def smallV (f : Fn) : Bool := smallB f.2.2.1 f.2.2.2.1 f.2.2.2.2.1 f.2.2.2.2.2.1 f.2.2.2.2.2.2.2.1 f.2.2.2.2.2.2.2.2.2.1 f.2.2.2.2.2.2.1 f.2.2.2.2.2.2.2.2.1 f.2.2.2.2.2.2.2.2.2.2
def smallsB (fs : List Fn) : Bool := decide (fs.length ≤ 50) && fs.all smallV
def BoundV (f : Fn) : Prop := f.2.2.1.length ≤ 140737488351232 ∧ f.2.2.2.1.length ≤ 140737488351232 ∧ f.2.2.2.2.1.length ≤ 140737488351232 ∧ f.2.2.2.2.2.1.length ≤ 140737488351232
theorem sp_Small16 {fs : List Fn} (hl : ∀ f ∈ fs, BoundV f) : S_law16_Small fs = some (smallsB fs, ()) := by
  refine u_law16_Small (N := 52) ?_
  simp [M_law16_Small]
  refine iter_join (fun d => fs.length + 51 - d.1.toNat - fs.length) (fun d => ∃ k : Nat, d = ((k : Int), ()) ∧ k ≤ fs.length ∧ k ≤ 50 ∧ (fs.take k).all smallV = true) ?_ _ _ ⟨0, rfl, Nat.zero_le _, by omega, by simp⟩ (by simp)
  rintro _ again ⟨k, rfl, hk, hk2, hr⟩ ih
  by_cases h : k < fs.length
  · by_cases h5 : k < 50
    · have hw : wrp .i64 ((k : Int) + 1) = (k : Int) + 1 := wi64 (by omega) (by omega)
      obtain ⟨p1, p2, p3, p4⟩ := hl fs[k] (List.getElem_mem h)
      have hS : S_law15_Small fs[k].1 fs[k].2.1 fs[k].2.2.1 fs[k].2.2.2.1 fs[k].2.2.2.2.1 fs[k].2.2.2.2.2.1 fs[k].2.2.2.2.2.2.1 fs[k].2.2.2.2.2.2.2.1 fs[k].2.2.2.2.2.2.2.2.1 fs[k].2.2.2.2.2.2.2.2.2.1 fs[k].2.2.2.2.2.2.2.2.2.2 = some (smallV fs[k], ()) := sp_Small p1 p2 p3 p4
      have h50 : (k : Int) < 50 := by omega
      simp [h, h50, bnd_get h, hw, hS]
      cases he : smallV fs[k] with
      | true => exact ih ((k : Int) + 1, ()) ⟨k + 1, rfl, h, h5, by rw [List.take_succ_eq_append_getElem h, List.all_append, hr]; simp [he]⟩ (by simp; omega)
      | false =>
        have : smallsB fs = false := by
          have : fs.all smallV = false := by
            cases hq : fs.all smallV with
            | false => rfl
            | true => rw [List.all_eq_true] at hq; rw [hq _ (List.getElem_mem h)] at he; cases he
          rw [smallsB, this]; simp
        simp [this]
    · have h50 : ¬(k : Int) < 50 := by omega
      have hb : ¬fs.length ≤ 50 := by omega
      have hb2 : ¬(fs.length : Int) ≤ 50 := by omega
      simp [h, h50, smallsB, hb, hb2]
  · have : k = fs.length := by omega
    subst this
    rw [List.take_length] at hr
    simp [smallsB, hr]
    omega
theorem smallsB_len {fs : List Fn} (h : smallsB fs = true) : fs.length ≤ 50 ∧ ∀ f ∈ fs, (f.1.length ≤ 140737488351232 → LenV f) := by
  simp only [smallsB, Bool.and_eq_true, decide_eq_true_eq, List.all_eq_true] at h
  refine ⟨h.1, fun f hf hn => ?_⟩
  obtain ⟨h1, h2⟩ := small_len (h.2 f hf)
  exact ⟨by unfold Len; omega, h1, by omega⟩
end Go.Proofs.YtkdnbnkbnegckaaGreat
namespace Go.Proofs.YtkdnbnkbnegckaaGreat
open Go.RowKit
set_option maxRecDepth 100000
def i_ref16_Names : Tpl := ⟨[], [], [(.agg, [.hole (.sl 11 tF)])]⟩
def o_ref16_Names : Tpl := ⟨[], [], [(.one, [.hole (.sl 1 .str)])]⟩
noncomputable def S_ref16_Names (a0 : LF) : Option ((List LB) × Unit) := Sof Tryz.prog annX plansX 81 i_ref16_Names o_ref16_Names (a0, ())
noncomputable def c_ref16_Names : Ctr := ⟨81, i_ref16_Names, o_ref16_Names, fun d => S_ref16_Names d.1⟩
theorem k_ref16_Names : (c_ref16_Names).ok Tryz.prog annX plansX := ctr_ok (tin := i_ref16_Names) (tout := o_ref16_Names)
def i_ref05_Find : Tpl := ⟨[], [], [(.one, [.hole (.sl 1 .str)]), (.one, [.hole .str])]⟩
def o_ref05_Find : Tpl := ⟨[], [], [(.one, [.hole tI])]⟩
noncomputable def S_ref05_Find (a0 : (List LB)) (a1 : LB) : Option (Int × Unit) := Sof Tryz.prog annX plansX 131 i_ref05_Find o_ref05_Find (a0, (a1, ()))
noncomputable def c_ref05_Find : Ctr := ⟨131, i_ref05_Find, o_ref05_Find, fun d => S_ref05_Find d.1 d.2.1⟩
theorem k_ref05_Find : (c_ref05_Find).ok Tryz.prog annX plansX := ctr_ok (tin := i_ref05_Find) (tout := o_ref05_Find)
def i_ref05_Unlike : Tpl := ⟨[], [], [(.one, [.hole (.sl 1 .str)])]⟩
def o_ref05_Unlike : Tpl := ⟨[], [], [(.one, [.hole .bool])]⟩
noncomputable def S_ref05_Unlike (a0 : (List LB)) : Option (Bool × Unit) := Sof Tryz.prog annX plansX 80 i_ref05_Unlike o_ref05_Unlike (a0, ())
noncomputable def c_ref05_Unlike : Ctr := ⟨80, i_ref05_Unlike, o_ref05_Unlike, fun d => S_ref05_Unlike d.1⟩
theorem k_ref05_Unlike : (c_ref05_Unlike).ok Tryz.prog annX plansX := ctr_ok (tin := i_ref05_Unlike) (tout := o_ref05_Unlike)
def i_ref16_Can : Tpl := ⟨[], [], [(.agg, [.hole (.sl 11 tF)])]⟩
def o_ref16_Can : Tpl := ⟨[], [], [(.one, [.hole tI])]⟩
noncomputable def S_ref16_Can (a0 : LF) : Option (Int × Unit) := Sof Tryz.prog annX plansX 30 i_ref16_Can o_ref16_Can (a0, ())
noncomputable def c_ref16_Can : Ctr := ⟨30, i_ref16_Can, o_ref16_Can, fun d => S_ref16_Can d.1⟩
theorem k_ref16_Can : (c_ref16_Can).ok Tryz.prog annX plansX := ctr_ok (tin := i_ref16_Can) (tout := o_ref16_Can)
end Go.Proofs.YtkdnbnkbnegckaaGreat
