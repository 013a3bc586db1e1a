/- The document's answer's Encode as an operation of the second machine. The second annotation: what was walked by hand over what is lifted, as operations. What functions come to: templates, and contracts. Functions, lifted: what the program comes to by them. All lifted functions. What functions come to: templates, and contracts. Functions, lifted: what the program comes to by them. All lifted functions. How a function that came in is opened, as the second machine's data. The law FileSame: what it comes to. The law FileEncodes: what it comes to. FileEncodes: every input, by the walk of the law. -/
import Derived.Test.YtkdnbnkbnegckaaGreatLeA
import Derived.Test.YtkdnbnkbnegckaaGreatRen
import Derived.Test.YtkdnbnkbnegckaaGreatDec
import Derived.ProofKit
import Derived.OpenShut
import Derived.ShutString
import Derived.SizedLaws
import Derived.Deep.Slices
namespace Go.Proofs.YtkdnbnkbnegckaaGreat
open Go.RowKit
set_option maxRecDepth 20000
theorem rencode_ok : KOk Tryz.prog fun f a h => if f = 25 then encodeX a h else none := fun f a h res h' hc => by
  simp only at hc
  split at hc
  case isFalse => cases hc
  rename_i hf
  subst hf
  refine ⟨⟨_, Tryz.func25, by kernel_rfl, by kernel_rfl⟩, fun W who L vs H hl R => ?_⟩
  unfold encodeX at hc
  split at hc
  · rename_i es
    split at hc
    case isFalse => cases hc
    rename_i hh
    obtain ⟨g1, g2, g3, g4⟩ := hh.choose_spec
    generalize hh.choose = fs at *
    subst g1
    cases hc
    obtain ⟨v, rfl⟩ : ∃ v, vs = [v] := by
      match vs, hl with
      | [v], _ => exact ⟨v, rfl⟩
    obtain ⟨us, hu, hx1, hx2⟩ := R 0 _ v rfl rfl
    obtain ⟨u, rfl⟩ : ∃ u, us = [u] := by
      match us, hx1 with
      | [u], _ => exact ⟨u, rfl⟩
    subst hu
    have hr : RepC W who (.fz 11 (encL tF fs)) u := (hx2 0 _ u rfl rfl).1
    refine (rencode_walk fs u W (hr.mono fun _ _ => rfl) g2 g3 g4).mono fun e W' ⟨hx, ao, cap, he, hc, hcap, hfr⟩ => ?_
    obtain ⟨H', S'⟩ := ext_frozen H hx
    refine ⟨_, _, L, he, ⟨_, rfl, _, _, rfl, Nat.le_succ _, ⟨_, rfl, ?_⟩, _, _, rfl, Nat.le_refl _, ⟨_, rfl, .v _ rfl⟩, rfl, rfl⟩, H', S'.any⟩
    have := repC_inW (W := W') (who := whoN W who) (sz := 1) (cap := cap) (es := encL tY (encodeR fs).1) (ao := ao) (by decide) (fun e he => by obtain ⟨x, _, rfl⟩ := List.mem_map.1 he; rfl) (by rw [encL_len]; exact hcap) hc (fun b off e => ?_) (bytes_reps _)
    · rw [encL_len] at this
      exact this
    · have := hfr b off e
      exact if_neg (by omega)
  · cases hc
end Go.Proofs.YtkdnbnkbnegckaaGreat
namespace Go.Proofs.YtkdnbnkbnegckaaGreat
open Go.RowKit
set_option maxRecDepth 100000
def lawsY : FuncId → Bool := fun f => f == 5 || f == 6 || f == 9 || f == 8 || f == 7
def livesX (a : List T) (h : Hp) : Option (T × Hp) :=
  match a with
  | [] => some (⟨.one, [.c (.v (.bool true))]⟩, h)
  | _ => none
noncomputable def baseY : CallFn := fun f a h => if f = 23 then livesX a h else if f = 24 then encodeX a h else if f = 27 then decodeX a h else if f = 25 then encodeX a h else if lawsY f = true then none else callW Tryz.prog annX plansX f a h
noncomputable def annY : Ann := { annX with base := baseY }
theorem lives_ok : KOk Tryz.prog fun f a h => if f = 23 then livesX a h else none := fun f a h res h' hc => by
  simp only at hc
  split at hc
  case isFalse => cases hc
  rename_i hf
  subst hf
  refine ⟨⟨_, Tryz.func23, by kernel_rfl, by kernel_rfl⟩, fun W who L vs H hl R => ?_⟩
  unfold livesX at hc
  split at hc
  · cases hc
    obtain rfl : vs = [] := by simpa using hl.symm
    refine (lives_walk W).mono fun e W' ⟨he, hx⟩ => ?_
    obtain ⟨H', S'⟩ := ext_frozen H hx
    exact ⟨_, _, L, he, ⟨_, rfl, .v _ rfl⟩, H', S'.any⟩
  · cases hc
theorem baseY_ok : KOk Tryz.prog annY.base := fun f a h res h' hc => by
  have hc : baseY f a h = some (res, h') := hc
  unfold baseY at hc
  split at hc
  · rename_i hf
    exact lives_ok f a h res h' (by simp only [if_pos hf]; exact hc)
  · split at hc
    · rename_i hf
      exact encode_ok f a h res h' (by simp only [if_pos hf]; exact hc)
    split at hc
    · rename_i hf
      exact decode_ok f a h res h' (by simp only [if_pos hf]; exact hc)
    split at hc
    · rename_i hf
      exact rencode_ok f a h res h' (by simp only [if_pos hf]; exact hc)
    split at hc
    · cases hc
    · exact callW_ok (A := annX) base_ok prog_ok f a h res h' hc
def bsY : FuncId → Bool := fun f => f == 23 || f == 24 || f == 27 || f == 25 || !lawsY f
theorem bs_okY : ∀ f a h, (annY.base f a h).isSome = true → bsY f = true := fun f a h hh => by
  have hh : (baseY f a h).isSome = true := hh
  unfold baseY at hh
  unfold bsY
  split at hh
  · rename_i hf
    simp [hf]
  · split at hh
    · rename_i hf
      simp [hf]
    split at hh
    · rename_i hf
      simp [hf]
    split at hh
    · rename_i hf
      simp [hf]
    split at hh
    · cases hh
    · rename_i hl
      simp [hl]
theorem all0Y : ∀ c ∈ ([] : List Ctr), c.ok Tryz.prog annY plansX := fun _ h => by simp at h
theorem all1Y {c : Ctr} {cs : List Ctr} (h : c.ok Tryz.prog annY plansX) (hs : ∀ c ∈ cs, c.ok Tryz.prog annY plansX) : ∀ d ∈ c :: cs, d.ok Tryz.prog annY plansX := fun d hd => by
  rcases List.mem_cons.1 hd with rfl | hd
  · exact h
  · exact hs d hd
/-- What is lifted under the first annotation is so under the second. -/
theorem up {c : Ctr} (h : c.ok Tryz.prog annX plansX) (hf : (c.f == 23 || c.f == 24 || c.f == 27 || c.f == 25 || lawsY c.f) = false) (hw : ∀ d, wkL (annX.wk c.f) (unpack c.tin d).env = (unpack c.tin d).env) : c.ok Tryz.prog annY plansX := fun d q hs args0 ha => by
  have ha : wkL (annX.wk c.f) args0 = (unpack c.tin d).env := ha
  refine callW_base (A := annY) ?_
  show baseY c.f (wkL (annX.wk c.f) args0) _ = _
  rw [ha]
  simp only [Bool.or_eq_false_iff, beq_eq_false_iff_ne] at hf
  rw [baseY, if_neg hf.1.1.1.1, if_neg hf.1.1.1.2, if_neg hf.1.1.2, if_neg hf.1.2, if_neg (by rw [hf.2]; decide)]
  exact h d q hs _ (hw d)
def i_law16_lives : Tpl := ⟨[], [], []⟩
def o_law16_lives : Tpl := ⟨[], [], [(.one, [.hole .bool])]⟩
def S_law16_lives : Option (Bool × Unit) := some (true, ())
def c_law16_lives : Ctr := ⟨23, i_law16_lives, o_law16_lives, fun _ => S_law16_lives⟩
theorem k_law16_lives : (c_law16_lives).ok Tryz.prog annY plansX := fun d q hs args0 ha => by
  cases hs
  refine callW_base (A := annY) ?_
  have ha : wkL (annX.wk 23) args0 = [] := ha
  show baseY 23 (wkL (annX.wk 23) args0) _ = _
  rw [ha]
  rfl
def i_file_EncodeY : Tpl := ⟨[], [], [(.agg, [.hole (.sl 11 tF)])]⟩
def o_file_EncodeY : Tpl := ⟨[], [], [(.tup [(false, 1), (false, 1)], [.hole (.sl 1 tY), .hole tI])]⟩
open Classical in
noncomputable def S_file_EncodeY (a0 : LF) : Option (LB × (Int × Unit)) := if (∀ f ∈ a0, LenV f) ∧ (∀ f ∈ a0, DatV f) ∧ a0.length ≤ 1000000 then some ((encodeR a0).1, (encodeR a0).2, ()) else none
theorem sp_Encode {fs : List Fn} (h1 : ∀ f ∈ fs, LenV f) (h2 : ∀ f ∈ fs, DatV f) (h3 : fs.length ≤ 1000000) : S_file_EncodeY fs = some ((encodeR fs).1, (encodeR fs).2, ()) := if_pos ⟨h1, h2, h3⟩
noncomputable def c_file_EncodeY : Ctr := ⟨24, i_file_EncodeY, o_file_EncodeY, fun d => S_file_EncodeY d.1⟩
theorem k_file_EncodeY : (c_file_EncodeY).ok Tryz.prog annY plansX := fun d q hs args0 ha => by
  obtain ⟨fs, u⟩ := d
  have hs : S_file_EncodeY fs = some q := hs
  unfold S_file_EncodeY at hs
  split at hs
  case isFalse => cases hs
  rename_i hh
  cases hs
  refine callW_base (A := annY) ?_
  have ha : wkL (annX.wk 24) args0 = [⟨.agg, [.c (.fz 11 (encL tF fs))]⟩] := ha
  show baseY 24 (wkL (annX.wk 24) args0) _ = _
  rw [ha]
  exact encodeX_of hh.1 hh.2.1 hh.2.2
noncomputable def S_ref16_Encode (a0 : LF) : Option (LB × (Int × Unit)) := S_file_EncodeY a0
noncomputable def c_ref16_Encode : Ctr := ⟨25, i_file_EncodeY, o_file_EncodeY, fun d => S_ref16_Encode d.1⟩
theorem k_ref16_Encode : (c_ref16_Encode).ok Tryz.prog annY plansX := fun d q hs args0 ha => by
  obtain ⟨fs, u⟩ := d
  have hs : S_file_EncodeY fs = some q := hs
  unfold S_file_EncodeY at hs
  split at hs
  case isFalse => cases hs
  rename_i hh
  cases hs
  refine callW_base (A := annY) ?_
  have ha : wkL (annX.wk 25) args0 = [⟨.agg, [.c (.fz 11 (encL tF fs))]⟩] := ha
  show baseY 25 (wkL (annX.wk 25) args0) _ = _
  rw [ha]
  exact encodeX_of hh.1 hh.2.1 hh.2.2
theorem law_walkY {f : FuncId} {tin : Tpl} {d : DT tin} {args0 : List T} {vs : Array Value} {W : World} (h : Sof Tryz.prog annY plansX f tin ⟨[], [], [(.one, [.hole .bool])]⟩ d = some (true, ())) (hw : wkL (annY.wk f) args0 = (unpack tin d).env) (hh : (unpack tin d).h = ⟨[], []⟩)
    (hl : args0.length = vs.size) (hr : ∀ (i : Nat) t v, args0[i]? = some t → vs[i]? = some v → RepT W W0 L0 ⟨[], []⟩ t v) : Calls Tryz.prog f vs W fun e W' => e = .returned (.bool true) ∧ Ext W W' := by
  have h1 : callW Tryz.prog annY plansX f args0 (unpack tin d).h = some (⟨.one, [.c (.v (.bool true))]⟩, ⟨[], []⟩) := ctr_ok (P := Tryz.prog) (A := annY) (plans := plansX) (f := f) (tin := tin) (tout := ⟨[], [], [(.one, [.hole .bool])]⟩) d _ h _ hw
  rw [hh] at h1
  exact law_of baseY_ok prog_ok h1 hl hr
end Go.Proofs.YtkdnbnkbnegckaaGreat
namespace Go.Proofs.YtkdnbnkbnegckaaGreat
open Go.RowKit
set_option maxRecDepth 100000
def i_law16_FileEncodes : Tpl := ⟨[], [], [(.agg, [.hole (.sl 11 tF)])]⟩
def o_law16_FileEncodes : Tpl := ⟨[], [], [(.one, [.hole .bool])]⟩
noncomputable def S_law16_FileEncodes (a0 : LF) : Option (Bool × Unit) := Sof Tryz.prog annY plansX 5 i_law16_FileEncodes o_law16_FileEncodes (a0, ())
end Go.Proofs.YtkdnbnkbnegckaaGreat
namespace Go.Proofs.YtkdnbnkbnegckaaGreat
open Go.RowKit
set_option maxRecDepth 100000
set_option linter.unusedVariables false
noncomputable def M_law16_FileEncodes (N : Nat) (l_0 : LF) : Option (Bool × Unit) :=
 dF l_0 <| fun l1 =>
 bnd (S_law16_Small l1) <| fun p2 =>
 cnd (notB p2.1)
  (bnd (S_law16_lives) <| fun p3 =>
  some (p3.1, ()))
  (dF l_0 <| fun l4 =>
  bnd (S_file_EncodeY l4) <| fun p5 =>
  dF l_0 <| fun l6 =>
  bnd (S_ref16_Encode l6) <| fun p7 =>
  strK (eY p5.1) <| fun x8 =>
  strK (eY p7.1) <| fun x9 =>
  cnd (seq2 x8 x9)
   (cnd (eqI p5.2.1 p7.2.1)
    (dF l_0 <| fun l10 =>
    bnd (S_file_Can l10) <| fun p11 =>
    cnd (eqI p11.1 p7.2.1)
     (bnd (S_law16_lives) <| fun p12 =>
     some (p12.1, ()))
     (some (false, ())))
    (some (false, ())))
   (some (false, ())))
noncomputable def q_law16_FileEncodes : Lift := ⟨tyX, look2 .todo (α := LoopAs) (.o), [c_law16_Small, c_file_Can, c_file_EncodeY, c_law16_lives, c_ref16_Encode], bsY⟩
theorem u_law16_FileEncodes {N : Nat} {a0 : LF} {q : (Bool × Unit)} (h : M_law16_FileEncodes N a0 = some q) : S_law16_FileEncodes a0 = some q :=
 Sof_of (Q := q_law16_FileEncodes) (N := N) (n := 3) (f := 5) (tin := i_law16_FileEncodes) (tout := o_law16_FileEncodes) (d := (a0, ())) (all1Y (up k_law16_Small rfl fun _ => by kernel_rfl) (all1Y (up k_file_Can rfl fun _ => by kernel_rfl) (all1Y k_file_EncodeY (all1Y k_law16_lives (all1Y k_ref16_Encode all0Y))))) bs_okY (by kernel_rfl) (by kernel_rfl) (by kernel_rfl) (Eq.trans (b := M_law16_FileEncodes N a0) (by kernel_rfl) h)

end Go.Proofs.YtkdnbnkbnegckaaGreat

namespace Go.Proofs.YtkdnbnkbnegckaaGreat
open Go.RowKit
set_option maxRecDepth 100000
end Go.Proofs.YtkdnbnkbnegckaaGreat
namespace Go.Proofs.YtkdnbnkbnegckaaGreat
open Go.RowKit
set_option maxRecDepth 100000
set_option linter.unusedVariables false
end Go.Proofs.YtkdnbnkbnegckaaGreat

namespace Go.Proofs.YtkdnbnkbnegckaaGreat
open Go.RowKit Go.WideShapes
set_option maxRecDepth 20000
theorem opensD_types : OpensD Tryz.prog 25 (.sl 1 tI) := opensD_sl (by' := 8) Tryz.underlying25 (by kernel_rfl) (by kernel_rfl) rfl (by decide) (by decide) (opensD_i64 Tryz.underlying110)
theorem opensD_ints : OpensD Tryz.prog 27 (.sl 1 tI) := opensD_sl (by' := 8) Tryz.underlying27 (by kernel_rfl) (by kernel_rfl) rfl (by decide) (by decide) (opensD_i64 Tryz.underlying3)
theorem opensD_instr : OpensD Tryz.prog 78 tC := opensD_struct Tryz.underlying78 (by kernel_rfl) (opensFD_cons rfl (by kernel_rfl) (opensD_i64 Tryz.underlying76) (opensFD_one rfl (by kernel_rfl) (opensD_i64 Tryz.underlying3)))
theorem opensD_node : OpensD Tryz.prog 115 tN :=
  have hi : OpensD Tryz.prog 3 tI := opensD_i64 Tryz.underlying3
  opensD_struct Tryz.underlying115 (by kernel_rfl) (opensFD_cons rfl (by kernel_rfl) hi (opensFD_cons rfl (by kernel_rfl) hi (opensFD_cons rfl (by kernel_rfl) hi (opensFD_cons rfl (by kernel_rfl) hi (opensFD_cons rfl (by kernel_rfl) hi (opensFD_cons rfl (by kernel_rfl) hi (opensFD_one rfl (by kernel_rfl) hi)))))))
theorem opensD_set : OpensD Tryz.prog 118 tS := opensD_arr4 Tryz.underlying118 Tryz.underlying102 (by kernel_rfl) (by kernel_rfl)
theorem opensD_code : OpensD Tryz.prog 26 (.sl 2 tC) := opensD_sl (by' := 16) Tryz.underlying26 (by kernel_rfl) (by kernel_rfl) rfl (by decide) (by decide) opensD_instr
theorem opensD_nodes : OpensD Tryz.prog 28 (.sl 7 tN) := opensD_sl (by' := 56) Tryz.underlying28 (by kernel_rfl) (by kernel_rfl) rfl (by decide) (by decide) opensD_node
theorem opensD_sets : OpensD Tryz.prog 29 (.sl 4 tS) := opensD_sl (by' := 32) Tryz.underlying29 (by kernel_rfl) (by kernel_rfl) rfl (by decide) (by decide) opensD_set
theorem opensD_func : OpensD Tryz.prog 31 FnD :=
  opensD_struct Tryz.underlying31 (by kernel_rfl) (opensFD_cons rfl (by kernel_rfl) (opensD_str Tryz.underlying9) (opensFD_cons rfl (by kernel_rfl) (opensD_bool Tryz.underlying4) (opensFD_cons rfl (by kernel_rfl) opensD_types (opensFD_cons rfl (by kernel_rfl) opensD_types (opensFD_cons rfl (by kernel_rfl) opensD_types (opensFD_cons rfl (by kernel_rfl) opensD_types
    (opensFD_cons rfl (by kernel_rfl) opensD_code (opensFD_cons rfl (by kernel_rfl) opensD_ints (opensFD_cons rfl (by kernel_rfl) opensD_nodes (opensFD_cons rfl (by kernel_rfl) opensD_ints (opensFD_one rfl (by kernel_rfl) opensD_sets)))))))))))
end Go.Proofs.YtkdnbnkbnegckaaGreat
namespace Go.Proofs.YtkdnbnkbnegckaaGreat
open Go.RowKit
set_option maxRecDepth 20000
/-- Data of a program. -/
abbrev PrD : Ty := .sl 11 FnD
theorem opensD_prog : OpensD Tryz.prog 51 PrD :=
  opensD_struct Tryz.underlying51 (by kernel_rfl) (opensFD_one rfl (by kernel_rfl) (opensD_sl (by' := 240) Tryz.underlying49 (by kernel_rfl) (by kernel_rfl) rfl (by decide) (by decide) opensD_func))
theorem okP_fn {p : List Fn} (h : OkD PrD p) : ∀ f ∈ p, f.1.length ≤ 140737488351232 ∧ BoundV f ∧ DatV f := fun f hf => by
  obtain ⟨name, inner, outer, params, results, locals, code, lines, nodes, at', live⟩ := f
  obtain ⟨h1, h2, h3, h4, h5, h6⟩ := okD_dat (h.2 _ hf)
  exact ⟨h1, ⟨h2, h3, h4, h5⟩, h6⟩
theorem small_fn {p : List Fn} (h : OkD PrD p) (hs : smallsB p = true) : p.length ≤ 50 ∧ ∀ f ∈ p, LenV f := by
  obtain ⟨h1, h2⟩ := smallsB_len hs
  exact ⟨h1, fun f hf => h2 f hf (okP_fn h f hf).1⟩
end Go.Proofs.YtkdnbnkbnegckaaGreat
namespace Go.Proofs.YtkdnbnkbnegckaaGreat
open Go.RowKit
set_option maxRecDepth 20000
theorem law_FileEncodes {p : List Fn} (hp : OkD PrD p) : S_law16_FileEncodes p = some (true, ()) := by
  refine u_law16_FileEncodes (N := 0) ?_
  have hS := sp_Small16 fun f hf => (okP_fn hp f hf).2.1
  cases h1 : smallsB p with
  | false => rw [h1] at hS; simp [M_law16_FileEncodes, hS, S_law16_lives]
  | true =>
    rw [h1] at hS
    obtain ⟨g1, g2⟩ := small_fn hp h1
    have hd : ∀ f ∈ p, DatV f := fun f hf => (okP_fn hp f hf).2.2
    have hE := sp_Encode g2 hd (by omega)
    have hR : S_ref16_Encode p = _ := hE
    have hC := sp_fileCan g2 (by omega)
    have h2 : canP p = (encodeR p).2 := by
      rw [encodeR]
      split
      · assumption
      · rfl
    simp [M_law16_FileEncodes, hS, hE, hR, hC, h2, S_law16_lives]
theorem FileEncodes_walk (x0 : Data PrD) (cs0 : List Value) (w : World) (hx0 : DatR PrD w cs0 x0) :
    Calls Tryz.prog 5 #[.agg cs0.toArray] w fun e w' => e = .returned (.bool true) ∧ Ext w w' := by
  refine law_walkY (args0 := [argA PrD x0]) (law_FileEncodes hx0.2) (by kernel_rfl) rfl rfl fun i t v h1 h2 => ?_
  match i with
  | 0 =>
    cases h1
    cases h2
    exact rep_argA hx0
  | i + 1 => simp at h1
end Go.Proofs.YtkdnbnkbnegckaaGreat
namespace Go.Proofs.YtkdnbnkbnegckaaGreat.fileEncodes
open Go.ChangeShapes Go.WideShapes Go.ChangeAt Go.RowKit
open Go.ChangeMaps (open_string shut_string)
set_option linter.unusedVariables false

theorem own : ownKnob Tryz.prog.godebug = none := by kernel_rfl
theorem laidOut : laidOutB Tryz.prog = true := by kernel_rfl

set_option maxRecDepth 100000 in
theorem lifted (os : Os) (started : os.Started) (H : Type) (enc : TypeId × Value → H) :
    ReturnsInHanded {} Tryz.checked os 5 .any (Rows.fileEncodesSpec.pre6 enc Tryz.prog Tryz.f5 Rows.fileEncodesRow.domain false) (Rows.fileEncodesSpec.post enc Tryz.prog Tryz.f5 false true false false) := by
  refine returnsInHanded_of_change_sized (C := Tryz.checked) own started (by kernel_rfl) Tryz.func5
    (ChangeSpec.witness6 (enc := enc) (C := Tryz.checked) false ⟨#[], #[.agg #[.slice none 0 0]], []⟩ 8 (by kernel_rfl) (by kernel_rfl) (by kernel_rfl) (by kernel_rfl)) ?_
  intro W base args ds gs before hval0 hW hcnd hsz0 hholds
  have hval : ∀ (j : Nat) t v, Tryz.f5.params[j]? = some t → args[j]? = some v → Value.okWide Tryz.prog W .any base t v := hval0
  have hsz : (DataW.weightsEach Tryz.prog (Tryz.f5.params.toList ++ Rows.fileEncodesSpec.plain.varTypes Tryz.prog) (ds ++ gs)).all (· ≤ reachBytes) = true := hsz0
  have hW' := hW
  obtain ⟨p, q, hA0, hV, rfl, hfz, hnd⟩ := hW
  have hA : DataW.TrodAll enc Tryz.prog W 0 (fun _ => true) true Tryz.f5.params.toList args.toList ds p := hA0
  rw [Tryz.params5] at hA hval hsz
  obtain ⟨v0, vs0, d0, ds0, p0, q0, hargs, rfl, rfl, h0, r0⟩ := trodAll_cons hA
  obtain ⟨rfl, rfl, rfl⟩ := trodAll_nil r0
  obtain rfl : args = #[v0] := by cases args; simp_all
  obtain ⟨rfl, rfl⟩ := trodVars_none hV
  have k0 := h0
  have lt0 : ∀ x ∈ p0, x.block < W.heap.size := by obtain ⟨m, hm⟩ := k0; exact DataW.trod_lt m _ _ _ hm
  obtain ⟨cs0, rfl, _⟩ := okWide_struct Tryz.underlying51 (hval 0 51 v0 rfl rfl)
  obtain ⟨z0, w0⟩ := open_d opensD_prog hsz (j := 0) rfl rfl h0
  clear hA0 hval0
  refine (FileEncodes_walk (w := W) (x0 := z0) (cs0 := cs0.toList) (hx0 := w0)).mono fun e W' ⟨he, bel⟩ => ?_
  subst he
  exact ⟨_, rfl, _, _, _, [], _, [], hW', trodAll_mk1 (shut_bool Tryz.underlying4 _), (trodAll_cons_mk (Below.trod laidOut (by kernel_rfl) (of_decide_eq_true (by kernel_rfl)) k0 bel.b lt0) trodAll_mk0), rfl, bel.b.frame _, fun h => by cases h⟩

theorem FileEncodes_holds : Rows.FileEncodesSaid :=
  OpenClaim.holds_of_wide 5 Tryz.f5 rfl rfl rfl rfl rfl rfl rfl ⟨rfl, rfl, rfl, rfl, rfl⟩ rfl rfl rfl rfl rfl (by kernel_rfl) Tryz.func5 (by kernel_rfl)
    (of_decide_eq_true (by kernel_rfl)) (by unfold Func.isWrapper; first | (rw [if_pos (by decide +kernel)]; kernel_rfl) | (rw [if_neg (by decide +kernel)]; exact ⟨rfl, rfl⟩))
    (fun os started H enc _ => lifted os started H enc)
end Go.Proofs.YtkdnbnkbnegckaaGreat.fileEncodes

namespace Go.Proofs.YtkdnbnkbnegckaaGreat
theorem FileEncodes_proved : Rows.FileEncodesSaid := fileEncodes.FileEncodes_holds
#print axioms FileEncodes_proved
end Go.Proofs.YtkdnbnkbnegckaaGreat
