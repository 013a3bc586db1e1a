/- Functions, lifted: what the program comes to by them. All lifted functions. The second annotation: what was walked by hand over what is lifted, as operations. What functions come to: templates, and contracts. Functions, lifted: what the program comes to by them. All lifted functions. The reference's Can of programs: what the lifted functions come to. What functions come to: templates, and contracts. Functions, lifted: what the program comes to by them. All lifted functions. How a function that came in is opened, as the second machine's data. The law FileSame: what it comes to. -/
import Derived.Test.YtkdnbnkbnegckaaGreatLrA
import Derived.Test.YtkdnbnkbnegckaaGreatEnd
import Derived.Test.YtkdnbnkbnegckaaGreatDec
namespace Go.Proofs.YtkdnbnkbnegckaaGreat
open Go.RowKit
set_option maxRecDepth 100000
set_option linter.unusedVariables false
noncomputable def M_ref16_Names (N : Nat) (l_0 : LF) : Option ((List LB) × Unit) :=
 decL .str [] <| fun l1 =>
 qS (eF l_0) <|
 iter (fun (d2 : ((List LB) × (Int × Unit))) again3 =>
  cnd (ltI d2.2.1 (vlen (eF l_0)))
   (chk (leI 0 d2.2.1) <|
   getE tF (eF l_0) (natI d2.2.1) <| fun p4 =>
   qN (vnum (encL .str d2.1)) <|
   chk (room (vnum (encL .str d2.1)) (vnum (vcut [[(C.v (Go.Value.string (ByteArray.mk (Array.mk p4.1))))]] 0 1)) 16) <|
   decL .str (vapp (encL .str d2.1) (vcut [[(C.v (Go.Value.string (ByteArray.mk (Array.mk p4.1))))]] 0 1)) <| fun l5 =>
   qS (eF l_0) <|
   chk (eqN (addN (vnum (encL .str d2.1)) (vnum (vcut [[(C.v (Go.Value.string (ByteArray.mk (Array.mk p4.1))))]] 0 1))) (vnum (vapp (encL .str d2.1) (vcut [[(C.v (Go.Value.string (ByteArray.mk (Array.mk p4.1))))]] 0 1)))) <|
   again3 (l5, ((wrp .i64 (addI d2.2.1 1)), ())))
   (chk (leN (addN 0 (vnum (encL .str d2.1))) (vnum (encL .str d2.1))) <|
   decL .str (vcut (encL .str d2.1) 0 (vnum (encL .str d2.1))) <| fun l6 =>
   some (l6, ()))) N (l1, (0, ()))
noncomputable def q_ref16_Names : Lift := ⟨tyX, look2 .todo (α := LoopAs) (.n 81 [(3, (.as ⟨[.mu 9 1 .str], [[.fix]], (.one, [.junk]) :: (.one, [.stat (.ptr 0 0)]) :: (.one, [.junk]) :: (.one, [.own 0]) :: (.one, [.hole tI]) :: rp 17 (.one, [.junk]) ([])⟩))] .o .o), [], bsX⟩
theorem u_ref16_Names {N : Nat} {a0 : LF} {q : ((List LB) × Unit)} (h : M_ref16_Names N a0 = some q) : S_ref16_Names a0 = some q :=
 Sof_of (Q := q_ref16_Names) (N := N) (n := 3) (f := 81) (tin := i_ref16_Names) (tout := o_ref16_Names) (d := (a0, ())) all0 bs_ok (by kernel_rfl) (by kernel_rfl) (by kernel_rfl) (Eq.trans (b := M_ref16_Names N a0) (by kernel_rfl) h)

noncomputable def M_ref05_Find (N : Nat) (l_0 : (List LB)) (l_1 : LB) : Option (Int × Unit) :=
 qS (encL .str l_0) <|
 qB (ByteArray.mk (Array.mk l_1)) <|
 iter (fun (d1 : (Int × Unit)) again2 =>
  cnd (ltI d1.1 (vlen (encL .str l_0)))
   (chk (leI 0 d1.1) <|
   getE .str (encL .str l_0) (natI d1.1) <| fun l3 =>
   cnd (seq2 (ByteArray.mk (Array.mk l3)) (ByteArray.mk (Array.mk l_1)))
    (some (d1.1, ()))
    (qS (encL .str l_0) <|
    qB (ByteArray.mk (Array.mk l_1)) <|
    again2 ((wrp .i64 (addI d1.1 1)), ())))
   (some ((-1), ()))) N (0, ())
noncomputable def q_ref05_Find : Lift := ⟨tyX, look2 .todo (α := LoopAs) (.n 131 [(2, (.as ⟨[], [], (.one, [.fix]) :: (.one, [.fix]) :: (.one, [.junk]) :: (.one, [.junk]) :: (.one, [.junk]) :: (.one, [.hole tI]) :: rp 13 (.one, [.junk]) ([])⟩))] .o .o), [], bsX⟩
theorem u_ref05_Find {N : Nat} {a0 : (List LB)} {a1 : LB} {q : (Int × Unit)} (h : M_ref05_Find N a0 a1 = some q) : S_ref05_Find a0 a1 = some q :=
 Sof_of (Q := q_ref05_Find) (N := N) (n := 3) (f := 131) (tin := i_ref05_Find) (tout := o_ref05_Find) (d := (a0, (a1, ()))) all0 bs_ok (by kernel_rfl) (by kernel_rfl) (by kernel_rfl) (Eq.trans (b := M_ref05_Find N a0 a1) (by kernel_rfl) h)

noncomputable def M_ref05_Unlike (N : Nat) (l_0 : (List LB)) : Option (Bool × Unit) :=
 qS (encL .str l_0) <|
 iter (fun (d1 : (Int × Unit)) again2 =>
  cnd (ltI d1.1 (vlen (encL .str l_0)))
   (chk (leI 0 d1.1) <|
   getE .str (encL .str l_0) (natI d1.1) <| fun l3 =>
   decL .str (encL .str l_0) <| fun l4 =>
   bnd (S_ref05_Find l4 l3) <| fun p5 =>
   cnd (notB (eqI p5.1 d1.1))
    (some (false, ()))
    (qS (encL .str l_0) <|
    again2 ((wrp .i64 (addI d1.1 1)), ())))
   (some (true, ()))) N (0, ())
noncomputable def q_ref05_Unlike : Lift := ⟨tyX, look2 .todo (α := LoopAs) (.n 80 [(2, (.as ⟨[], [], (.one, [.fix]) :: (.one, [.junk]) :: (.one, [.junk]) :: (.one, [.hole tI]) :: rp 14 (.one, [.junk]) ([])⟩))] .o .o), [c_ref05_Find], bsX⟩
theorem u_ref05_Unlike {N : Nat} {a0 : (List LB)} {q : (Bool × Unit)} (h : M_ref05_Unlike N a0 = some q) : S_ref05_Unlike a0 = some q :=
 Sof_of (Q := q_ref05_Unlike) (N := N) (n := 3) (f := 80) (tin := i_ref05_Unlike) (tout := o_ref05_Unlike) (d := (a0, ())) (all1 k_ref05_Find all0) bs_ok (by kernel_rfl) (by kernel_rfl) (by kernel_rfl) (Eq.trans (b := M_ref05_Unlike N a0) (by kernel_rfl) h)

noncomputable def M_ref16_Can (N : Nat) (l_0 : LF) : Option (Int × Unit) :=
 joinK (δ := Unit) (cnd (ltI (vlen (eF l_0)) 1)
   (rightK <| some (6, ()))
   (cnd (ltI 40 (vlen (eF l_0)))
    (rightK <| some (6, ()))
    (qS (eF l_0) <|
    leftK ())))
 <| fun x1 =>
 qS (eF l_0) <|
 iter (fun (d2 : (Int × Unit)) again3 =>
  cnd (ltI d2.1 (vlen (eF l_0)))
   (chk (leI 0 d2.1) <|
   getE tF (eF l_0) (natI d2.1) <| fun p4 =>
   dI p4.2.2.1 <| fun l5 =>
   dI p4.2.2.2.1 <| fun l6 =>
   dI p4.2.2.2.2.1 <| fun l7 =>
   dI p4.2.2.2.2.2.1 <| fun l8 =>
   dC p4.2.2.2.2.2.2.1 <| fun l9 =>
   dI p4.2.2.2.2.2.2.2.1 <| fun l10 =>
   dN p4.2.2.2.2.2.2.2.2.1 <| fun l11 =>
   dI p4.2.2.2.2.2.2.2.2.2.1 <| fun l12 =>
   dS p4.2.2.2.2.2.2.2.2.2.2 <| fun l13 =>
   bnd (S_ref15_Can p4.1 p4.2.1 l5 l6 l7 l8 l9 l10 l11 l12 l13) <| fun p14 =>
   cnd (notB (eqI p14.1 0))
    (some (p14.1, ()))
    (qS (eF l_0) <|
    again3 ((wrp .i64 (addI d2.1 1)), ())))
   (dF l_0 <| fun l15 =>
   bnd (S_ref16_Names l15) <| fun p16 =>
   decL .str (encL .str p16.1) <| fun l17 =>
   bnd (S_ref05_Unlike l17) <| fun p18 =>
   cnd (notB p18.1)
    (some (7, ()))
    (some (0, ())))) N (0, ())
noncomputable def q_ref16_Can : Lift := ⟨tyX, look2 .todo (α := LoopAs) (.n 30 [(4, (.as ⟨[], [[.fix]], (.one, [.junk]) :: (.one, [.stat (.ptr 0 0)]) :: (.one, [.junk]) :: (.one, [.hole tI]) :: rp 31 (.one, [.junk]) ([])⟩)), (1012292, (.as ⟨[], [[.fix]], (.one, [.junk]) :: (.one, [.stat (.ptr 0 0)]) :: rp 33 (.one, [.junk]) ([])⟩))] .o .o), [c_ref15_Can, c_ref16_Names, c_ref05_Unlike], bsX⟩
theorem u_ref16_Can {N : Nat} {a0 : LF} {q : (Int × Unit)} (h : M_ref16_Can N a0 = some q) : S_ref16_Can a0 = some q :=
 Sof_of (Q := q_ref16_Can) (N := N) (n := 3) (f := 30) (tin := i_ref16_Can) (tout := o_ref16_Can) (d := (a0, ())) (all1 k_ref15_Can (all1 k_ref16_Names (all1 k_ref05_Unlike all0))) bs_ok (by kernel_rfl) (by kernel_rfl) (by kernel_rfl) (Eq.trans (b := M_ref16_Can N a0) (by kernel_rfl) h)
end Go.Proofs.YtkdnbnkbnegckaaGreat

namespace Go.Proofs.YtkdnbnkbnegckaaGreat
open Go.RowKit
set_option maxRecDepth 100000
def lawsY : FuncId → Bool := fun f => f == 5 || f == 6 || f == 9 || f == 8 || f == 7
def livesX (a : List T) (h : Hp) : Option (T × Hp) :=
  match a with
  | [] => some (⟨.one, [.c (.v (.bool true))]⟩, h)
  | _ => none
noncomputable def baseY : CallFn := fun f a h => if f = 23 then livesX a h else if f = 24 then encodeX a h else if f = 27 then decodeX a h else if lawsY f = true then none else callW Tryz.prog annX plansX f a h
noncomputable def annY : Ann := { annX with base := baseY }
theorem lives_ok : KOk Tryz.prog fun f a h => if f = 23 then livesX a h else none := fun f a h res h' hc => by
  simp only at hc
  split at hc
  case isFalse => cases hc
  rename_i hf
  subst hf
  refine ⟨⟨_, Tryz.func23, by kernel_rfl, by kernel_rfl⟩, fun W who L vs H hl R => ?_⟩
  unfold livesX at hc
  split at hc
  · cases hc
    obtain rfl : vs = [] := by simpa using hl.symm
    refine (lives_walk W).mono fun e W' ⟨he, hx⟩ => ?_
    obtain ⟨H', S'⟩ := ext_frozen H hx
    exact ⟨_, _, L, he, ⟨_, rfl, .v _ rfl⟩, H', S'.any⟩
  · cases hc
theorem baseY_ok : KOk Tryz.prog annY.base := fun f a h res h' hc => by
  have hc : baseY f a h = some (res, h') := hc
  unfold baseY at hc
  split at hc
  · rename_i hf
    exact lives_ok f a h res h' (by simp only [if_pos hf]; exact hc)
  · split at hc
    · rename_i hf
      exact encode_ok f a h res h' (by simp only [if_pos hf]; exact hc)
    split at hc
    · rename_i hf
      exact decode_ok f a h res h' (by simp only [if_pos hf]; exact hc)
    split at hc
    · cases hc
    · exact callW_ok (A := annX) base_ok prog_ok f a h res h' hc
def bsY : FuncId → Bool := fun f => f == 23 || f == 24 || f == 27 || !lawsY f
theorem bs_okY : ∀ f a h, (annY.base f a h).isSome = true → bsY f = true := fun f a h hh => by
  have hh : (baseY f a h).isSome = true := hh
  unfold baseY at hh
  unfold bsY
  split at hh
  · rename_i hf
    simp [hf]
  · split at hh
    · rename_i hf
      simp [hf]
    split at hh
    · rename_i hf
      simp [hf]
    split at hh
    · cases hh
    · rename_i hl
      simp [hl]
theorem all0Y : ∀ c ∈ ([] : List Ctr), c.ok Tryz.prog annY plansX := fun _ h => by simp at h
theorem all1Y {c : Ctr} {cs : List Ctr} (h : c.ok Tryz.prog annY plansX) (hs : ∀ c ∈ cs, c.ok Tryz.prog annY plansX) : ∀ d ∈ c :: cs, d.ok Tryz.prog annY plansX := fun d hd => by
  rcases List.mem_cons.1 hd with rfl | hd
  · exact h
  · exact hs d hd
/-- What is lifted under the first annotation is so under the second. -/
theorem up {c : Ctr} (h : c.ok Tryz.prog annX plansX) (hf : (c.f == 23 || c.f == 24 || c.f == 27 || lawsY c.f) = false) (hw : ∀ d, wkL (annX.wk c.f) (unpack c.tin d).env = (unpack c.tin d).env) : c.ok Tryz.prog annY plansX := fun d q hs args0 ha => by
  have ha : wkL (annX.wk c.f) args0 = (unpack c.tin d).env := ha
  refine callW_base (A := annY) ?_
  show baseY c.f (wkL (annX.wk c.f) args0) _ = _
  rw [ha]
  simp only [Bool.or_eq_false_iff, beq_eq_false_iff_ne] at hf
  rw [baseY, if_neg hf.1.1.1, if_neg hf.1.1.2, if_neg hf.1.2, if_neg (by rw [hf.2]; decide)]
  exact h d q hs _ (hw d)
def i_law16_lives : Tpl := ⟨[], [], []⟩
def o_law16_lives : Tpl := ⟨[], [], [(.one, [.hole .bool])]⟩
def S_law16_lives : Option (Bool × Unit) := some (true, ())
def c_law16_lives : Ctr := ⟨23, i_law16_lives, o_law16_lives, fun _ => S_law16_lives⟩
theorem k_law16_lives : (c_law16_lives).ok Tryz.prog annY plansX := fun d q hs args0 ha => by
  cases hs
  refine callW_base (A := annY) ?_
  have ha : wkL (annX.wk 23) args0 = [] := ha
  show baseY 23 (wkL (annX.wk 23) args0) _ = _
  rw [ha]
  rfl
def i_file_EncodeY : Tpl := ⟨[], [], [(.agg, [.hole (.sl 11 tF)])]⟩
def o_file_EncodeY : Tpl := ⟨[], [], [(.tup [(false, 1), (false, 1)], [.hole (.sl 1 tY), .hole tI])]⟩
open Classical in
noncomputable def S_file_EncodeY (a0 : LF) : Option (LB × (Int × Unit)) := if (∀ f ∈ a0, LenV f) ∧ (∀ f ∈ a0, DatV f) ∧ a0.length ≤ 1000000 then some ((encodeR a0).1, (encodeR a0).2, ()) else none
theorem sp_Encode {fs : List Fn} (h1 : ∀ f ∈ fs, LenV f) (h2 : ∀ f ∈ fs, DatV f) (h3 : fs.length ≤ 1000000) : S_file_EncodeY fs = some ((encodeR fs).1, (encodeR fs).2, ()) := if_pos ⟨h1, h2, h3⟩
noncomputable def c_file_EncodeY : Ctr := ⟨24, i_file_EncodeY, o_file_EncodeY, fun d => S_file_EncodeY d.1⟩
theorem k_file_EncodeY : (c_file_EncodeY).ok Tryz.prog annY plansX := fun d q hs args0 ha => by
  obtain ⟨fs, u⟩ := d
  have hs : S_file_EncodeY fs = some q := hs
  unfold S_file_EncodeY at hs
  split at hs
  case isFalse => cases hs
  rename_i hh
  cases hs
  refine callW_base (A := annY) ?_
  have ha : wkL (annX.wk 24) args0 = [⟨.agg, [.c (.fz 11 (encL tF fs))]⟩] := ha
  show baseY 24 (wkL (annX.wk 24) args0) _ = _
  rw [ha]
  exact encodeX_of hh.1 hh.2.1 hh.2.2
def i_file_Decode : Tpl := ⟨[], [], [(.one, [.hole (.sl 1 tY)])]⟩
def o_file_Decode : Tpl := ⟨[], [], [(.tup [(true, 1), (false, 1)], [.hole (.sl 11 tF), .hole tI])]⟩
noncomputable def S_file_Decode (a0 : LB) : Option (LF × (Int × Unit)) := if a0.length ≤ 140737488351232 then some ((decodeR a0).1, (decodeR a0).2, ()) else none
theorem sp_Decode {b : List UInt8} (h1 : b.length ≤ 140737488351232) : S_file_Decode b = some ((decodeR b).1, (decodeR b).2, ()) := if_pos h1
noncomputable def c_file_Decode : Ctr := ⟨27, i_file_Decode, o_file_Decode, fun d => S_file_Decode d.1⟩
theorem k_file_Decode : (c_file_Decode).ok Tryz.prog annY plansX := fun d q hs args0 ha => by
  obtain ⟨b, u⟩ := d
  have hs : S_file_Decode b = some q := hs
  unfold S_file_Decode at hs
  split at hs
  case isFalse => cases hs
  rename_i hh
  cases hs
  refine callW_base (A := annY) ?_
  have ha : wkL (annX.wk 27) args0 = [⟨.one, [.c (.fz 1 (encL tY b))]⟩] := ha
  show baseY 27 (wkL (annX.wk 27) args0) _ = _
  rw [ha]
  exact decodeX_of hh
theorem law_walkY {f : FuncId} {tin : Tpl} {d : DT tin} {args0 : List T} {vs : Array Value} {W : World} (h : Sof Tryz.prog annY plansX f tin ⟨[], [], [(.one, [.hole .bool])]⟩ d = some (true, ())) (hw : wkL (annY.wk f) args0 = (unpack tin d).env) (hh : (unpack tin d).h = ⟨[], []⟩)
    (hl : args0.length = vs.size) (hr : ∀ (i : Nat) t v, args0[i]? = some t → vs[i]? = some v → RepT W W0 L0 ⟨[], []⟩ t v) : Calls Tryz.prog f vs W fun e W' => e = .returned (.bool true) ∧ Ext W W' := by
  have h1 : callW Tryz.prog annY plansX f args0 (unpack tin d).h = some (⟨.one, [.c (.v (.bool true))]⟩, ⟨[], []⟩) := ctr_ok (P := Tryz.prog) (A := annY) (plans := plansX) (f := f) (tin := tin) (tout := ⟨[], [], [(.one, [.hole .bool])]⟩) d _ h _ hw
  rw [hh] at h1
  exact law_of baseY_ok prog_ok h1 hl hr
end Go.Proofs.YtkdnbnkbnegckaaGreat
namespace Go.Proofs.YtkdnbnkbnegckaaGreat
open Go.RowKit
set_option maxRecDepth 100000
def i_law16_FileCuts : Tpl := ⟨[], [], [(.agg, [.hole (.sl 11 tF)]), (.one, [.hole tI]), (.one, [.hole tY])]⟩
def o_law16_FileCuts : Tpl := ⟨[], [], [(.one, [.hole .bool])]⟩
noncomputable def S_law16_FileCuts (a0 : LF) (a1 : Int) (a2 : UInt8) : Option (Bool × Unit) := Sof Tryz.prog annY plansX 7 i_law16_FileCuts o_law16_FileCuts (a0, (a1, (a2, ())))
end Go.Proofs.YtkdnbnkbnegckaaGreat
namespace Go.Proofs.YtkdnbnkbnegckaaGreat
open Go.RowKit
set_option maxRecDepth 100000
set_option linter.unusedVariables false
noncomputable def M_law16_FileCuts (N : Nat) (l_0 : LF) (n_1 : Int) (x_2 : UInt8) : Option (Bool × Unit) :=
 joinK (δ := (Bool × Unit)) (dF l_0 <| fun l1 =>
  bnd (S_law16_Small l1) <| fun p2 =>
  cnd (notB p2.1)
   (qS (eF l_0) <|
   qI n_1 <|
   qI (u8I x_2) <|
   leftK (true, ()))
   (dF l_0 <| fun l3 =>
   bnd (S_ref16_Can l3) <| fun p4 =>
   qS (eF l_0) <|
   qI n_1 <|
   qI (u8I x_2) <|
   leftK ((notB (eqI p4.1 0)), ())))
 <| fun p5 =>
 cnd p5.1
  (bnd (S_law16_lives) <| fun p6 =>
  some (p6.1, ()))
  (dF l_0 <| fun l7 =>
  bnd (S_file_EncodeY l7) <| fun p8 =>
  joinK (δ := (Bool × Unit)) (cnd (notB (eqI p8.2.1 0))
    (qS (eF l_0) <|
    qI n_1 <|
    qI (u8I x_2) <|
    qS (eY p8.1) <|
    qI p8.2.1 <|
    leftK (true, ()))
    (cnd (ltI n_1 0)
     (qS (eF l_0) <|
     qI n_1 <|
     qI (u8I x_2) <|
     qS (eY p8.1) <|
     qI p8.2.1 <|
     leftK (true, ()))
     (qS (eF l_0) <|
     qI n_1 <|
     qI (u8I x_2) <|
     qS (eY p8.1) <|
     qI p8.2.1 <|
     leftK ((leI (vlen (eY p8.1)) n_1), ()))))
  <| fun p9 =>
  cnd p9.1
   (cnd (eqI p8.2.1 0)
    (bnd (S_law16_lives) <| fun p10 =>
    some (p10.1, ()))
    (some (false, ())))
   (chk (leI 0 n_1) <|
   chk (leI n_1 (vlen (eY p8.1))) <|
   decL tY (vcut (eY p8.1) 0 (subN n_1 0)) <| fun l11 =>
   bnd (S_file_Decode l11) <| fun p12 =>
   chk (room 0 (vnum (eY p8.1)) 1) <|
   chk (eqN (addN 0 (vnum (eY p8.1))) (vnum (eY p8.1))) <|
   chk (room (vnum (eY p8.1)) (vnum (vcut [[(C.v (Go.Value.int .u8 (u8I x_2)))]] 0 1)) 1) <|
   chk (leN (addN 0 (addN (vnum (eY p8.1)) (vnum (vcut [[(C.v (Go.Value.int .u8 (u8I x_2)))]] 0 1)))) (vnum (vapp (eY p8.1) (vcut [[(C.v (Go.Value.int .u8 (u8I x_2)))]] 0 1)))) <|
   decL tY (vcut (vapp (eY p8.1) (vcut [[(C.v (Go.Value.int .u8 (u8I x_2)))]] 0 1)) 0 (addN (vnum (eY p8.1)) (vnum (vcut [[(C.v (Go.Value.int .u8 (u8I x_2)))]] 0 1)))) <| fun l13 =>
   bnd (S_file_Decode l13) <| fun p14 =>
   cnd (notB (eqI p12.2.1 0))
    (cnd (eqI (vlen (eF p12.1)) 0)
     (cnd (eqI p14.2.1 4)
      (bnd (S_law16_lives) <| fun p15 =>
      some (p15.1, ()))
      (some (false, ())))
     (some (false, ())))
    (some (false, ()))))
noncomputable def q_law16_FileCuts : Lift := ⟨tyX, look2 .todo (α := LoopAs) (.n 7 [(1008195, (.as ⟨[], [[.fix]], (.one, [.junk]) :: (.one, [.fix]) :: (.one, [.fix]) :: (.one, [.stat (.ptr 0 0)]) :: rp 16 (.one, [.junk]) ((.one, [.hole .bool]) :: rp 55 (.one, [.junk]) ([]))⟩)), (1020486, (.as ⟨[], [[.fix]], (.one, [.junk]) :: (.one, [.fix]) :: (.one, [.fix]) :: rp 4 (.one, [.junk]) ((.one, [.fix]) :: (.one, [.fix]) :: rp 29 (.one, [.junk]) ((.one, [.hole .bool]) :: rp 37 (.one, [.junk]) ([])))⟩))] .o .o), [c_law16_Small, c_ref16_Can, c_file_EncodeY, c_file_Decode, c_law16_lives], bsY⟩
theorem u_law16_FileCuts {N : Nat} {a0 : LF} {a1 : Int} {a2 : UInt8} {q : (Bool × Unit)} (h : M_law16_FileCuts N a0 a1 a2 = some q) : S_law16_FileCuts a0 a1 a2 = some q :=
 Sof_of (Q := q_law16_FileCuts) (N := N) (n := 3) (f := 7) (tin := i_law16_FileCuts) (tout := o_law16_FileCuts) (d := (a0, (a1, (a2, ())))) (all1Y (up k_law16_Small rfl fun _ => by kernel_rfl) (all1Y (up k_ref16_Can rfl fun _ => by kernel_rfl) (all1Y k_file_EncodeY (all1Y k_file_Decode (all1Y k_law16_lives all0Y))))) bs_okY (by kernel_rfl) (by kernel_rfl) (by kernel_rfl) (Eq.trans (b := M_law16_FileCuts N a0 a1 a2) (by kernel_rfl) h)
end Go.Proofs.YtkdnbnkbnegckaaGreat

namespace Go.Proofs.YtkdnbnkbnegckaaGreat
open Go.RowKit
set_option maxRecDepth 20000
theorem sp_Names {fs : List Fn} (hl : fs.length ≤ 1000000) : S_ref16_Names fs = some (fs.map (·.1), ()) := by
  refine u_ref16_Names (N := fs.length + 1) ?_
  simp [M_ref16_Names]
  refine iter_to (fun d => fs.length - d.2.1.toNat) (fun d => ∃ k : Nat, d = ((fs.take k).map (·.1), (k : Int), ()) ∧ k ≤ fs.length) ?_ _ _ ⟨0, by simp, Nat.zero_le _⟩ (by simp)
  rintro _ again ⟨k, rfl, hk⟩ ih
  by_cases h : k < fs.length
  · have hw : wrp .i64 ((k : Int) + 1) = (k : Int) + 1 := wi64 (by omega) (by omega)
    have hr := room_t (a := k) (b := 1) (c := 16) (by omega) (by omega)
    have hm : min k fs.length = k := by omega
    have := ih ((fs.take (k + 1)).map (·.1), (k : Int) + 1, ()) ⟨k + 1, rfl, h⟩ (by simp; omega)
    have e : (fs.take k).map (·.1) ++ [fs[k].1] = (fs.take (k + 1)).map (·.1) := by rw [List.take_succ_eq_append_getElem h, List.map_append]; rfl
    rw [← e] at this
    simpa [h, bnd_get h, hw, hr, hm] using this
  · have : k = fs.length := by omega
    subst this
    simp
/-- Where a text comes first. -/
def findI : List (List UInt8) → List UInt8 → Nat → Int
  | [], _, _ => -1
  | x :: l, y, i => if x = y then i else findI l y (i + 1)
theorem sp_Find5 {l : List (List UInt8)} {y : List UInt8} (hl : l.length ≤ 1000000) : S_ref05_Find l y = some (findI l y 0, ()) := by
  refine u_ref05_Find (N := l.length + 1) ?_
  simp [M_ref05_Find]
  refine iter_to (fun d => l.length - d.1.toNat) (fun d => ∃ k : Nat, d = ((k : Int), ()) ∧ k ≤ l.length ∧ findI l y 0 = findI (l.drop k) y k) ?_ _ _ ⟨0, rfl, Nat.zero_le _, rfl⟩ (by simp)
  rintro _ again ⟨k, rfl, hk, hf⟩ ih
  by_cases h : k < l.length
  · have hw : wrp .i64 ((k : Int) + 1) = (k : Int) + 1 := wi64 (by omega) (by omega)
    rw [List.drop_eq_getElem_cons h, findI] at hf
    by_cases he : l[k] = y
    · rw [if_pos he] at hf
      rw [hf]
      simp [h, bnd_get h, he]
    · rw [if_neg he] at hf
      have := ih ((k : Int) + 1, ()) ⟨k + 1, rfl, h, hf⟩ (by simp; omega)
      simpa [h, bnd_get h, hw, he] using this
  · have : k = l.length := by omega
    subst this
    rw [hf]
    simp [findI]
theorem findI_at : ∀ {l : List (List UInt8)} {i k : Nat} (h : k < l.length), (∀ j (hj : j < k), l[j] ≠ l[k]) → findI l l[k] i = ((i + k : Nat) : Int)
  | x :: l, i, 0, h, _ => by simp [findI]
  | x :: l, i, k + 1, h, hh => by
    have h1 : x ≠ l[k]'(by simpa using h) := by simpa using hh 0 (by omega)
    show (if x = l[k]'(by simpa using h) then _ else findI l (l[k]'(by simpa using h)) (i + 1)) = _
    rw [if_neg h1, findI_at (by simpa using h) fun j hj => by simpa using hh (j + 1) (by omega)]
    omega
theorem findI_before : ∀ {l : List (List UInt8)} {i j k : Nat} (h : k < l.length) (hj : j < k), l[j]'(by omega) = l[k] → findI l l[k] i < ((i + k : Nat) : Int)
  | x :: l, i, j, 0, h, hj, _ => by omega
  | x :: l, i, j, k + 1, h, hj, he => by
    show (if x = l[k]'(by simpa using h) then (i : Int) else findI l (l[k]'(by simpa using h)) (i + 1)) < _
    by_cases hx : x = l[k]'(by simpa using h)
    · rw [if_pos hx]; omega
    · rw [if_neg hx]
      cases j with
      | zero => exact absurd (by simpa using he) hx
      | succ j =>
        have := findI_before (i := i + 1) (j := j) (k := k) (l := l) (by simpa using h) (by omega) (by simpa using he)
        omega
theorem sp_Unlike5 {l : List (List UInt8)} (hl : l.length ≤ 1000000) : S_ref05_Unlike l = some (decide l.Nodup, ()) := by
  refine u_ref05_Unlike (N := l.length + 1) ?_
  simp [M_ref05_Unlike]
  refine iter_to (fun d => l.length - d.1.toNat) (fun d => ∃ k : Nat, d = ((k : Int), ()) ∧ k ≤ l.length ∧ ∀ i j (hi : i < k) (hj : j < i) (hk : i < l.length), l[j] ≠ l[i]) ?_ _ _ ⟨0, rfl, Nat.zero_le _, fun i j hi => by omega⟩ (by simp)
  rintro _ again ⟨k, rfl, hk, hf⟩ ih
  by_cases h : k < l.length
  · have hw : wrp .i64 ((k : Int) + 1) = (k : Int) + 1 := wi64 (by omega) (by omega)
    by_cases hd : ∃ j, ∃ hj : j < k, l[j] = l[k]
    · obtain ⟨j, hj, he⟩ := hd
      have h1 := findI_before (i := 0) h hj he
      have hn : ¬l.Nodup := fun hn => by
        have := (List.nodup_iff_pairwise_ne.1 hn)
        exact (List.pairwise_iff_getElem.1 this j k (by omega) h hj) he
      have h2 : ¬findI l l[k] 0 = (k : Int) := by omega
      simp [h, bnd_get h, sp_Find5 hl, h2, hn]
    · have h1 := findI_at (i := 0) h fun j hj he => hd ⟨j, hj, he⟩
      have h2 : findI l l[k] 0 = (k : Int) := by rw [h1, Nat.zero_add]
      have := ih ((k : Int) + 1, ()) ⟨k + 1, rfl, h, fun i j hi hj hk2 he => by
        by_cases e : i = k
        · subst e; exact hd ⟨j, hj, he⟩
        · exact hf i j (by omega) hj hk2 he⟩ (by simp; omega)
      simpa [h, bnd_get h, hw, sp_Find5 hl, h2] using this
  · have : k = l.length := by omega
    subst this
    have hn : l.Nodup := List.nodup_iff_pairwise_ne.2 (List.pairwise_iff_getElem.2 fun i j hi hj hij => hf j i hj hij hj)
    simp [hn]
theorem sp_rfileCan {fs : List Fn} (hl : ∀ f ∈ fs, LenV f) (hn : fs.length ≤ 1000000) : S_ref16_Can fs = some (canP fs, ()) := by
  refine u_ref16_Can (N := fs.length + 1) ?_
  by_cases h1 : fs.length < 1
  · have h2 : (fs.length : Int) < 1 := by omega
    simp [M_ref16_Can, canP, h1, h2]
  have h2 : ¬(fs.length : Int) < 1 := by omega
  by_cases h3 : 40 < fs.length
  · have h4 : (40 : Int) < (fs.length : Int) := by omega
    simp [M_ref16_Can, canP, h1, h2, h3, h4]
  have h4 : ¬(40 : Int) < (fs.length : Int) := by omega
  simp [M_ref16_Can, canP, h1, h2, h3, h4]
  refine iter_to (fun d => fs.length - d.1.toNat) (fun d => ∃ k : Nat, d = ((k : Int), ()) ∧ k ≤ fs.length ∧ firstE fs = firstE (fs.drop k)) ?_ _ _ ⟨0, rfl, Nat.zero_le _, rfl⟩ (by simp)
  rintro _ again ⟨k, rfl, hk, hf⟩ ih
  by_cases h : k < fs.length
  · have hw : wrp .i64 ((k : Int) + 1) = (k : Int) + 1 := wi64 (by omega) (by omega)
    obtain ⟨g1, g2, g3⟩ := hl fs[k] (List.getElem_mem h)
    have hC : S_ref15_Can fs[k].1 fs[k].2.1 fs[k].2.2.1 fs[k].2.2.2.1 fs[k].2.2.2.2.1 fs[k].2.2.2.2.2.1 fs[k].2.2.2.2.2.2.1 fs[k].2.2.2.2.2.2.2.1 fs[k].2.2.2.2.2.2.2.2.1 fs[k].2.2.2.2.2.2.2.2.2.1 fs[k].2.2.2.2.2.2.2.2.2.2 = some (canV fs[k], ()) := sp_rCan (inner := fs[k].2.1) g1 g2
    have hd : fs.drop k = fs[k] :: fs.drop (k + 1) := List.drop_eq_getElem_cons h
    rw [hd, firstE] at hf
    by_cases hz : canV fs[k] = 0
    · rw [if_pos hz] at hf
      rw [hz] at hC
      have := ih ((k : Int) + 1, ()) ⟨k + 1, rfl, h, hf⟩ (by simp; omega)
      simpa [h, bnd_get h, hw, hC] using this
    · rw [if_neg hz] at hf
      have hf2 : ¬firstE fs = 0 := by rw [hf]; exact hz
      rw [if_neg hf2, hf]
      simp [h, bnd_get h, hC, hz]
  · have : k = fs.length := by omega
    subst this
    have hf0 : firstE fs = 0 := by rw [hf]; simp [firstE]
    by_cases hnd : (fs.map (·.1)).Nodup <;> simp [sp_Names hn, sp_Unlike5 (l := fs.map (·.1)) (by rw [List.length_map]; exact hn), hf0, hnd]
end Go.Proofs.YtkdnbnkbnegckaaGreat
namespace Go.Proofs.YtkdnbnkbnegckaaGreat
open Go.RowKit
set_option maxRecDepth 100000
end Go.Proofs.YtkdnbnkbnegckaaGreat
namespace Go.Proofs.YtkdnbnkbnegckaaGreat
open Go.RowKit
set_option maxRecDepth 100000
set_option linter.unusedVariables false
end Go.Proofs.YtkdnbnkbnegckaaGreat

namespace Go.Proofs.YtkdnbnkbnegckaaGreat
open Go.RowKit Go.WideShapes
set_option maxRecDepth 20000
theorem opensD_types : OpensD Tryz.prog 25 (.sl 1 tI) := opensD_sl (by' := 8) Tryz.underlying25 (by kernel_rfl) (by kernel_rfl) rfl (by decide) (by decide) (opensD_i64 Tryz.underlying110)
theorem opensD_ints : OpensD Tryz.prog 27 (.sl 1 tI) := opensD_sl (by' := 8) Tryz.underlying27 (by kernel_rfl) (by kernel_rfl) rfl (by decide) (by decide) (opensD_i64 Tryz.underlying3)
theorem opensD_instr : OpensD Tryz.prog 78 tC := opensD_struct Tryz.underlying78 (by kernel_rfl) (opensFD_cons rfl (by kernel_rfl) (opensD_i64 Tryz.underlying76) (opensFD_one rfl (by kernel_rfl) (opensD_i64 Tryz.underlying3)))
theorem opensD_node : OpensD Tryz.prog 115 tN :=
  have hi : OpensD Tryz.prog 3 tI := opensD_i64 Tryz.underlying3
  opensD_struct Tryz.underlying115 (by kernel_rfl) (opensFD_cons rfl (by kernel_rfl) hi (opensFD_cons rfl (by kernel_rfl) hi (opensFD_cons rfl (by kernel_rfl) hi (opensFD_cons rfl (by kernel_rfl) hi (opensFD_cons rfl (by kernel_rfl) hi (opensFD_cons rfl (by kernel_rfl) hi (opensFD_one rfl (by kernel_rfl) hi)))))))
theorem opensD_set : OpensD Tryz.prog 118 tS := opensD_arr4 Tryz.underlying118 Tryz.underlying102 (by kernel_rfl) (by kernel_rfl)
theorem opensD_code : OpensD Tryz.prog 26 (.sl 2 tC) := opensD_sl (by' := 16) Tryz.underlying26 (by kernel_rfl) (by kernel_rfl) rfl (by decide) (by decide) opensD_instr
theorem opensD_nodes : OpensD Tryz.prog 28 (.sl 7 tN) := opensD_sl (by' := 56) Tryz.underlying28 (by kernel_rfl) (by kernel_rfl) rfl (by decide) (by decide) opensD_node
theorem opensD_sets : OpensD Tryz.prog 29 (.sl 4 tS) := opensD_sl (by' := 32) Tryz.underlying29 (by kernel_rfl) (by kernel_rfl) rfl (by decide) (by decide) opensD_set
theorem opensD_func : OpensD Tryz.prog 31 FnD :=
  opensD_struct Tryz.underlying31 (by kernel_rfl) (opensFD_cons rfl (by kernel_rfl) (opensD_str Tryz.underlying9) (opensFD_cons rfl (by kernel_rfl) (opensD_bool Tryz.underlying4) (opensFD_cons rfl (by kernel_rfl) opensD_types (opensFD_cons rfl (by kernel_rfl) opensD_types (opensFD_cons rfl (by kernel_rfl) opensD_types (opensFD_cons rfl (by kernel_rfl) opensD_types
    (opensFD_cons rfl (by kernel_rfl) opensD_code (opensFD_cons rfl (by kernel_rfl) opensD_ints (opensFD_cons rfl (by kernel_rfl) opensD_nodes (opensFD_cons rfl (by kernel_rfl) opensD_ints (opensFD_one rfl (by kernel_rfl) opensD_sets)))))))))))
end Go.Proofs.YtkdnbnkbnegckaaGreat
namespace Go.Proofs.YtkdnbnkbnegckaaGreat
open Go.RowKit
set_option maxRecDepth 20000
/-- Data of a program. -/
abbrev PrD : Ty := .sl 11 FnD
theorem opensD_prog : OpensD Tryz.prog 51 PrD :=
  opensD_struct Tryz.underlying51 (by kernel_rfl) (opensFD_one rfl (by kernel_rfl) (opensD_sl (by' := 240) Tryz.underlying49 (by kernel_rfl) (by kernel_rfl) rfl (by decide) (by decide) opensD_func))
theorem okP_fn {p : List Fn} (h : OkD PrD p) : ∀ f ∈ p, f.1.length ≤ 140737488351232 ∧ BoundV f ∧ DatV f := fun f hf => by
  obtain ⟨name, inner, outer, params, results, locals, code, lines, nodes, at', live⟩ := f
  obtain ⟨h1, h2, h3, h4, h5, h6⟩ := okD_dat (h.2 _ hf)
  exact ⟨h1, ⟨h2, h3, h4, h5⟩, h6⟩
theorem small_fn {p : List Fn} (h : OkD PrD p) (hs : smallsB p = true) : p.length ≤ 50 ∧ ∀ f ∈ p, LenV f := by
  obtain ⟨h1, h2⟩ := smallsB_len hs
  exact ⟨h1, fun f hf => h2 f hf (okP_fn h f hf).1⟩
end Go.Proofs.YtkdnbnkbnegckaaGreat
