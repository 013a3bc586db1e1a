/- What functions come to: templates, and contracts. Functions, lifted: what the program comes to by them. All lifted functions. The second annotation: what was walked by hand over what is lifted, as operations. -/
import Derived.Test.YtkdnbnkbnegckaaGreatLq
import Derived.Test.YtkdnbnkbnegckaaGreatSpO
namespace Go.Proofs.YtkdnbnkbnegckaaGreat
open Go.RowKit
set_option maxRecDepth 100000
def i_ref16_Names : Tpl := ⟨[], [], [(.agg, [.hole (.sl 11 tF)])]⟩
def o_ref16_Names : Tpl := ⟨[], [], [(.one, [.hole (.sl 1 .str)])]⟩
noncomputable def S_ref16_Names (a0 : LF) : Option ((List LB) × Unit) := Sof Tryz.prog annX plansX 81 i_ref16_Names o_ref16_Names (a0, ())
noncomputable def c_ref16_Names : Ctr := ⟨81, i_ref16_Names, o_ref16_Names, fun d => S_ref16_Names d.1⟩
theorem k_ref16_Names : (c_ref16_Names).ok Tryz.prog annX plansX := ctr_ok (tin := i_ref16_Names) (tout := o_ref16_Names)
def i_ref05_Find : Tpl := ⟨[], [], [(.one, [.hole (.sl 1 .str)]), (.one, [.hole .str])]⟩
def o_ref05_Find : Tpl := ⟨[], [], [(.one, [.hole tI])]⟩
noncomputable def S_ref05_Find (a0 : (List LB)) (a1 : LB) : Option (Int × Unit) := Sof Tryz.prog annX plansX 131 i_ref05_Find o_ref05_Find (a0, (a1, ()))
noncomputable def c_ref05_Find : Ctr := ⟨131, i_ref05_Find, o_ref05_Find, fun d => S_ref05_Find d.1 d.2.1⟩
theorem k_ref05_Find : (c_ref05_Find).ok Tryz.prog annX plansX := ctr_ok (tin := i_ref05_Find) (tout := o_ref05_Find)
def i_ref05_Unlike : Tpl := ⟨[], [], [(.one, [.hole (.sl 1 .str)])]⟩
def o_ref05_Unlike : Tpl := ⟨[], [], [(.one, [.hole .bool])]⟩
noncomputable def S_ref05_Unlike (a0 : (List LB)) : Option (Bool × Unit) := Sof Tryz.prog annX plansX 80 i_ref05_Unlike o_ref05_Unlike (a0, ())
noncomputable def c_ref05_Unlike : Ctr := ⟨80, i_ref05_Unlike, o_ref05_Unlike, fun d => S_ref05_Unlike d.1⟩
theorem k_ref05_Unlike : (c_ref05_Unlike).ok Tryz.prog annX plansX := ctr_ok (tin := i_ref05_Unlike) (tout := o_ref05_Unlike)
def i_ref16_Can : Tpl := ⟨[], [], [(.agg, [.hole (.sl 11 tF)])]⟩
def o_ref16_Can : Tpl := ⟨[], [], [(.one, [.hole tI])]⟩
noncomputable def S_ref16_Can (a0 : LF) : Option (Int × Unit) := Sof Tryz.prog annX plansX 30 i_ref16_Can o_ref16_Can (a0, ())
noncomputable def c_ref16_Can : Ctr := ⟨30, i_ref16_Can, o_ref16_Can, fun d => S_ref16_Can d.1⟩
theorem k_ref16_Can : (c_ref16_Can).ok Tryz.prog annX plansX := ctr_ok (tin := i_ref16_Can) (tout := o_ref16_Can)
end Go.Proofs.YtkdnbnkbnegckaaGreat
namespace Go.Proofs.YtkdnbnkbnegckaaGreat
open Go.RowKit
set_option maxRecDepth 100000
set_option linter.unusedVariables false
noncomputable def M_ref16_Names (N : Nat) (l_0 : LF) : Option ((List LB) × Unit) :=
 decL .str [] <| fun l1 =>
 qS (eF l_0) <|
 iter (fun (d2 : ((List LB) × (Int × Unit))) again3 =>
  cnd (ltI d2.2.1 (vlen (eF l_0)))
   (chk (leI 0 d2.2.1) <|
   getE tF (eF l_0) (natI d2.2.1) <| fun p4 =>
   qN (vnum (encL .str d2.1)) <|
   chk (room (vnum (encL .str d2.1)) (vnum (vcut [[(C.v (Go.Value.string (ByteArray.mk (Array.mk p4.1))))]] 0 1)) 16) <|
   decL .str (vapp (encL .str d2.1) (vcut [[(C.v (Go.Value.string (ByteArray.mk (Array.mk p4.1))))]] 0 1)) <| fun l5 =>
   qS (eF l_0) <|
   chk (eqN (addN (vnum (encL .str d2.1)) (vnum (vcut [[(C.v (Go.Value.string (ByteArray.mk (Array.mk p4.1))))]] 0 1))) (vnum (vapp (encL .str d2.1) (vcut [[(C.v (Go.Value.string (ByteArray.mk (Array.mk p4.1))))]] 0 1)))) <|
   again3 (l5, ((wrp .i64 (addI d2.2.1 1)), ())))
   (chk (leN (addN 0 (vnum (encL .str d2.1))) (vnum (encL .str d2.1))) <|
   decL .str (vcut (encL .str d2.1) 0 (vnum (encL .str d2.1))) <| fun l6 =>
   some (l6, ()))) N (l1, (0, ()))
noncomputable def q_ref16_Names : Lift := ⟨tyX, look2 .todo (α := LoopAs) (.n 81 [(3, (.as ⟨[.mu 9 1 .str], [[.fix]], (.one, [.junk]) :: (.one, [.stat (.ptr 0 0)]) :: (.one, [.junk]) :: (.one, [.own 0]) :: (.one, [.hole tI]) :: rp 17 (.one, [.junk]) ([])⟩))] .o .o), [], bsX⟩
theorem u_ref16_Names {N : Nat} {a0 : LF} {q : ((List LB) × Unit)} (h : M_ref16_Names N a0 = some q) : S_ref16_Names a0 = some q :=
 Sof_of (Q := q_ref16_Names) (N := N) (n := 3) (f := 81) (tin := i_ref16_Names) (tout := o_ref16_Names) (d := (a0, ())) all0 bs_ok (by kernel_rfl) (by kernel_rfl) (by kernel_rfl) (Eq.trans (b := M_ref16_Names N a0) (by kernel_rfl) h)

noncomputable def M_ref05_Find (N : Nat) (l_0 : (List LB)) (l_1 : LB) : Option (Int × Unit) :=
 qS (encL .str l_0) <|
 qB (ByteArray.mk (Array.mk l_1)) <|
 iter (fun (d1 : (Int × Unit)) again2 =>
  cnd (ltI d1.1 (vlen (encL .str l_0)))
   (chk (leI 0 d1.1) <|
   getE .str (encL .str l_0) (natI d1.1) <| fun l3 =>
   cnd (seq2 (ByteArray.mk (Array.mk l3)) (ByteArray.mk (Array.mk l_1)))
    (some (d1.1, ()))
    (qS (encL .str l_0) <|
    qB (ByteArray.mk (Array.mk l_1)) <|
    again2 ((wrp .i64 (addI d1.1 1)), ())))
   (some ((-1), ()))) N (0, ())
noncomputable def q_ref05_Find : Lift := ⟨tyX, look2 .todo (α := LoopAs) (.n 131 [(2, (.as ⟨[], [], (.one, [.fix]) :: (.one, [.fix]) :: (.one, [.junk]) :: (.one, [.junk]) :: (.one, [.junk]) :: (.one, [.hole tI]) :: rp 13 (.one, [.junk]) ([])⟩))] .o .o), [], bsX⟩
theorem u_ref05_Find {N : Nat} {a0 : (List LB)} {a1 : LB} {q : (Int × Unit)} (h : M_ref05_Find N a0 a1 = some q) : S_ref05_Find a0 a1 = some q :=
 Sof_of (Q := q_ref05_Find) (N := N) (n := 3) (f := 131) (tin := i_ref05_Find) (tout := o_ref05_Find) (d := (a0, (a1, ()))) all0 bs_ok (by kernel_rfl) (by kernel_rfl) (by kernel_rfl) (Eq.trans (b := M_ref05_Find N a0 a1) (by kernel_rfl) h)

noncomputable def M_ref05_Unlike (N : Nat) (l_0 : (List LB)) : Option (Bool × Unit) :=
 qS (encL .str l_0) <|
 iter (fun (d1 : (Int × Unit)) again2 =>
  cnd (ltI d1.1 (vlen (encL .str l_0)))
   (chk (leI 0 d1.1) <|
   getE .str (encL .str l_0) (natI d1.1) <| fun l3 =>
   decL .str (encL .str l_0) <| fun l4 =>
   bnd (S_ref05_Find l4 l3) <| fun p5 =>
   cnd (notB (eqI p5.1 d1.1))
    (some (false, ()))
    (qS (encL .str l_0) <|
    again2 ((wrp .i64 (addI d1.1 1)), ())))
   (some (true, ()))) N (0, ())
noncomputable def q_ref05_Unlike : Lift := ⟨tyX, look2 .todo (α := LoopAs) (.n 80 [(2, (.as ⟨[], [], (.one, [.fix]) :: (.one, [.junk]) :: (.one, [.junk]) :: (.one, [.hole tI]) :: rp 14 (.one, [.junk]) ([])⟩))] .o .o), [c_ref05_Find], bsX⟩
theorem u_ref05_Unlike {N : Nat} {a0 : (List LB)} {q : (Bool × Unit)} (h : M_ref05_Unlike N a0 = some q) : S_ref05_Unlike a0 = some q :=
 Sof_of (Q := q_ref05_Unlike) (N := N) (n := 3) (f := 80) (tin := i_ref05_Unlike) (tout := o_ref05_Unlike) (d := (a0, ())) (all1 k_ref05_Find all0) bs_ok (by kernel_rfl) (by kernel_rfl) (by kernel_rfl) (Eq.trans (b := M_ref05_Unlike N a0) (by kernel_rfl) h)

noncomputable def M_ref16_Can (N : Nat) (l_0 : LF) : Option (Int × Unit) :=
 joinK (δ := Unit) (cnd (ltI (vlen (eF l_0)) 1)
   (rightK <| some (6, ()))
   (cnd (ltI 40 (vlen (eF l_0)))
    (rightK <| some (6, ()))
    (qS (eF l_0) <|
    leftK ())))
 <| fun x1 =>
 qS (eF l_0) <|
 iter (fun (d2 : (Int × Unit)) again3 =>
  cnd (ltI d2.1 (vlen (eF l_0)))
   (chk (leI 0 d2.1) <|
   getE tF (eF l_0) (natI d2.1) <| fun p4 =>
   dI p4.2.2.1 <| fun l5 =>
   dI p4.2.2.2.1 <| fun l6 =>
   dI p4.2.2.2.2.1 <| fun l7 =>
   dI p4.2.2.2.2.2.1 <| fun l8 =>
   dC p4.2.2.2.2.2.2.1 <| fun l9 =>
   dI p4.2.2.2.2.2.2.2.1 <| fun l10 =>
   dN p4.2.2.2.2.2.2.2.2.1 <| fun l11 =>
   dI p4.2.2.2.2.2.2.2.2.2.1 <| fun l12 =>
   dS p4.2.2.2.2.2.2.2.2.2.2 <| fun l13 =>
   bnd (S_ref15_Can p4.1 p4.2.1 l5 l6 l7 l8 l9 l10 l11 l12 l13) <| fun p14 =>
   cnd (notB (eqI p14.1 0))
    (some (p14.1, ()))
    (qS (eF l_0) <|
    again3 ((wrp .i64 (addI d2.1 1)), ())))
   (dF l_0 <| fun l15 =>
   bnd (S_ref16_Names l15) <| fun p16 =>
   decL .str (encL .str p16.1) <| fun l17 =>
   bnd (S_ref05_Unlike l17) <| fun p18 =>
   cnd (notB p18.1)
    (some (7, ()))
    (some (0, ())))) N (0, ())
noncomputable def q_ref16_Can : Lift := ⟨tyX, look2 .todo (α := LoopAs) (.n 30 [(4, (.as ⟨[], [[.fix]], (.one, [.junk]) :: (.one, [.stat (.ptr 0 0)]) :: (.one, [.junk]) :: (.one, [.hole tI]) :: rp 31 (.one, [.junk]) ([])⟩)), (1012292, (.as ⟨[], [[.fix]], (.one, [.junk]) :: (.one, [.stat (.ptr 0 0)]) :: rp 33 (.one, [.junk]) ([])⟩))] .o .o), [c_ref15_Can, c_ref16_Names, c_ref05_Unlike], bsX⟩
theorem u_ref16_Can {N : Nat} {a0 : LF} {q : (Int × Unit)} (h : M_ref16_Can N a0 = some q) : S_ref16_Can a0 = some q :=
 Sof_of (Q := q_ref16_Can) (N := N) (n := 3) (f := 30) (tin := i_ref16_Can) (tout := o_ref16_Can) (d := (a0, ())) (all1 k_ref15_Can (all1 k_ref16_Names (all1 k_ref05_Unlike all0))) bs_ok (by kernel_rfl) (by kernel_rfl) (by kernel_rfl) (Eq.trans (b := M_ref16_Can N a0) (by kernel_rfl) h)
end Go.Proofs.YtkdnbnkbnegckaaGreat

namespace Go.Proofs.YtkdnbnkbnegckaaGreat
open Go.RowKit
set_option maxRecDepth 100000
def lawsY : FuncId → Bool := fun f => f == 5 || f == 6 || f == 9 || f == 8 || f == 7
def livesX (a : List T) (h : Hp) : Option (T × Hp) :=
  match a with
  | [] => some (⟨.one, [.c (.v (.bool true))]⟩, h)
  | _ => none
noncomputable def baseY : CallFn := fun f a h => if f = 23 then livesX a h else if f = 24 then encodeX a h else if f = 27 then decodeX a h else if lawsY f = true then none else callW Tryz.prog annX plansX f a h
noncomputable def annY : Ann := { annX with base := baseY }
theorem lives_ok : KOk Tryz.prog fun f a h => if f = 23 then livesX a h else none := fun f a h res h' hc => by
  simp only at hc
  split at hc
  case isFalse => cases hc
  rename_i hf
  subst hf
  refine ⟨⟨_, Tryz.func23, by kernel_rfl, by kernel_rfl⟩, fun W who L vs H hl R => ?_⟩
  unfold livesX at hc
  split at hc
  · cases hc
    obtain rfl : vs = [] := by simpa using hl.symm
    refine (lives_walk W).mono fun e W' ⟨he, hx⟩ => ?_
    obtain ⟨H', S'⟩ := ext_frozen H hx
    exact ⟨_, _, L, he, ⟨_, rfl, .v _ rfl⟩, H', S'.any⟩
  · cases hc
theorem baseY_ok : KOk Tryz.prog annY.base := fun f a h res h' hc => by
  have hc : baseY f a h = some (res, h') := hc
  unfold baseY at hc
  split at hc
  · rename_i hf
    exact lives_ok f a h res h' (by simp only [if_pos hf]; exact hc)
  · split at hc
    · rename_i hf
      exact encode_ok f a h res h' (by simp only [if_pos hf]; exact hc)
    split at hc
    · rename_i hf
      exact decode_ok f a h res h' (by simp only [if_pos hf]; exact hc)
    split at hc
    · cases hc
    · exact callW_ok (A := annX) base_ok prog_ok f a h res h' hc
def bsY : FuncId → Bool := fun f => f == 23 || f == 24 || f == 27 || !lawsY f
theorem bs_okY : ∀ f a h, (annY.base f a h).isSome = true → bsY f = true := fun f a h hh => by
  have hh : (baseY f a h).isSome = true := hh
  unfold baseY at hh
  unfold bsY
  split at hh
  · rename_i hf
    simp [hf]
  · split at hh
    · rename_i hf
      simp [hf]
    split at hh
    · rename_i hf
      simp [hf]
    split at hh
    · cases hh
    · rename_i hl
      simp [hl]
theorem all0Y : ∀ c ∈ ([] : List Ctr), c.ok Tryz.prog annY plansX := fun _ h => by simp at h
theorem all1Y {c : Ctr} {cs : List Ctr} (h : c.ok Tryz.prog annY plansX) (hs : ∀ c ∈ cs, c.ok Tryz.prog annY plansX) : ∀ d ∈ c :: cs, d.ok Tryz.prog annY plansX := fun d hd => by
  rcases List.mem_cons.1 hd with rfl | hd
  · exact h
  · exact hs d hd
/-- What is lifted under the first annotation is so under the second. -/
theorem up {c : Ctr} (h : c.ok Tryz.prog annX plansX) (hf : (c.f == 23 || c.f == 24 || c.f == 27 || lawsY c.f) = false) (hw : ∀ d, wkL (annX.wk c.f) (unpack c.tin d).env = (unpack c.tin d).env) : c.ok Tryz.prog annY plansX := fun d q hs args0 ha => by
  have ha : wkL (annX.wk c.f) args0 = (unpack c.tin d).env := ha
  refine callW_base (A := annY) ?_
  show baseY c.f (wkL (annX.wk c.f) args0) _ = _
  rw [ha]
  simp only [Bool.or_eq_false_iff, beq_eq_false_iff_ne] at hf
  rw [baseY, if_neg hf.1.1.1, if_neg hf.1.1.2, if_neg hf.1.2, if_neg (by rw [hf.2]; decide)]
  exact h d q hs _ (hw d)
def i_law16_lives : Tpl := ⟨[], [], []⟩
def o_law16_lives : Tpl := ⟨[], [], [(.one, [.hole .bool])]⟩
def S_law16_lives : Option (Bool × Unit) := some (true, ())
def c_law16_lives : Ctr := ⟨23, i_law16_lives, o_law16_lives, fun _ => S_law16_lives⟩
theorem k_law16_lives : (c_law16_lives).ok Tryz.prog annY plansX := fun d q hs args0 ha => by
  cases hs
  refine callW_base (A := annY) ?_
  have ha : wkL (annX.wk 23) args0 = [] := ha
  show baseY 23 (wkL (annX.wk 23) args0) _ = _
  rw [ha]
  rfl
def i_file_EncodeY : Tpl := ⟨[], [], [(.agg, [.hole (.sl 11 tF)])]⟩
def o_file_EncodeY : Tpl := ⟨[], [], [(.tup [(false, 1), (false, 1)], [.hole (.sl 1 tY), .hole tI])]⟩
open Classical in
noncomputable def S_file_EncodeY (a0 : LF) : Option (LB × (Int × Unit)) := if (∀ f ∈ a0, LenV f) ∧ (∀ f ∈ a0, DatV f) ∧ a0.length ≤ 1000000 then some ((encodeR a0).1, (encodeR a0).2, ()) else none
theorem sp_Encode {fs : List Fn} (h1 : ∀ f ∈ fs, LenV f) (h2 : ∀ f ∈ fs, DatV f) (h3 : fs.length ≤ 1000000) : S_file_EncodeY fs = some ((encodeR fs).1, (encodeR fs).2, ()) := if_pos ⟨h1, h2, h3⟩
noncomputable def c_file_EncodeY : Ctr := ⟨24, i_file_EncodeY, o_file_EncodeY, fun d => S_file_EncodeY d.1⟩
theorem k_file_EncodeY : (c_file_EncodeY).ok Tryz.prog annY plansX := fun d q hs args0 ha => by
  obtain ⟨fs, u⟩ := d
  have hs : S_file_EncodeY fs = some q := hs
  unfold S_file_EncodeY at hs
  split at hs
  case isFalse => cases hs
  rename_i hh
  cases hs
  refine callW_base (A := annY) ?_
  have ha : wkL (annX.wk 24) args0 = [⟨.agg, [.c (.fz 11 (encL tF fs))]⟩] := ha
  show baseY 24 (wkL (annX.wk 24) args0) _ = _
  rw [ha]
  exact encodeX_of hh.1 hh.2.1 hh.2.2
def i_file_Decode : Tpl := ⟨[], [], [(.one, [.hole (.sl 1 tY)])]⟩
def o_file_Decode : Tpl := ⟨[], [], [(.tup [(true, 1), (false, 1)], [.hole (.sl 11 tF), .hole tI])]⟩
noncomputable def S_file_Decode (a0 : LB) : Option (LF × (Int × Unit)) := if a0.length ≤ 140737488351232 then some ((decodeR a0).1, (decodeR a0).2, ()) else none
theorem sp_Decode {b : List UInt8} (h1 : b.length ≤ 140737488351232) : S_file_Decode b = some ((decodeR b).1, (decodeR b).2, ()) := if_pos h1
noncomputable def c_file_Decode : Ctr := ⟨27, i_file_Decode, o_file_Decode, fun d => S_file_Decode d.1⟩
theorem k_file_Decode : (c_file_Decode).ok Tryz.prog annY plansX := fun d q hs args0 ha => by
  obtain ⟨b, u⟩ := d
  have hs : S_file_Decode b = some q := hs
  unfold S_file_Decode at hs
  split at hs
  case isFalse => cases hs
  rename_i hh
  cases hs
  refine callW_base (A := annY) ?_
  have ha : wkL (annX.wk 27) args0 = [⟨.one, [.c (.fz 1 (encL tY b))]⟩] := ha
  show baseY 27 (wkL (annX.wk 27) args0) _ = _
  rw [ha]
  exact decodeX_of hh
theorem law_walkY {f : FuncId} {tin : Tpl} {d : DT tin} {args0 : List T} {vs : Array Value} {W : World} (h : Sof Tryz.prog annY plansX f tin ⟨[], [], [(.one, [.hole .bool])]⟩ d = some (true, ())) (hw : wkL (annY.wk f) args0 = (unpack tin d).env) (hh : (unpack tin d).h = ⟨[], []⟩)
    (hl : args0.length = vs.size) (hr : ∀ (i : Nat) t v, args0[i]? = some t → vs[i]? = some v → RepT W W0 L0 ⟨[], []⟩ t v) : Calls Tryz.prog f vs W fun e W' => e = .returned (.bool true) ∧ Ext W W' := by
  have h1 : callW Tryz.prog annY plansX f args0 (unpack tin d).h = some (⟨.one, [.c (.v (.bool true))]⟩, ⟨[], []⟩) := ctr_ok (P := Tryz.prog) (A := annY) (plans := plansX) (f := f) (tin := tin) (tout := ⟨[], [], [(.one, [.hole .bool])]⟩) d _ h _ hw
  rw [hh] at h1
  exact law_of baseY_ok prog_ok h1 hl hr
end Go.Proofs.YtkdnbnkbnegckaaGreat
