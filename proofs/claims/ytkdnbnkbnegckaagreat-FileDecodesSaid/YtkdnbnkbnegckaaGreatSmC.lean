/- The second annotation: what was walked by hand over what is lifted, as operations. What functions come to: templates, and contracts. What functions come to: templates, and contracts. Functions, lifted: what the program comes to by them. All lifted functions. Functions, lifted: what the program comes to by them. All lifted functions. The reference's Can of programs: what the lifted functions come to. -/
import Derived.Test.YtkdnbnkbnegckaaGreatLr
import Derived.Test.YtkdnbnkbnegckaaGreatEnd
namespace Go.Proofs.YtkdnbnkbnegckaaGreat
open Go.RowKit
set_option maxRecDepth 100000
def lawsY : FuncId → Bool := fun f => f == 5 || f == 6 || f == 9 || f == 8 || f == 7
def livesX (a : List T) (h : Hp) : Option (T × Hp) :=
  match a with
  | [] => some (⟨.one, [.c (.v (.bool true))]⟩, h)
  | _ => none
noncomputable def baseY : CallFn := fun f a h => if f = 23 then livesX a h else if f = 24 then encodeX a h else if f = 27 then decodeX a h else if lawsY f = true then none else callW Tryz.prog annX plansX f a h
noncomputable def annY : Ann := { annX with base := baseY }
theorem lives_ok : KOk Tryz.prog fun f a h => if f = 23 then livesX a h else none := fun f a h res h' hc => by
  simp only at hc
  split at hc
  case isFalse => cases hc
  rename_i hf
  subst hf
  refine ⟨⟨_, Tryz.func23, by kernel_rfl, by kernel_rfl⟩, fun W who L vs H hl R => ?_⟩
  unfold livesX at hc
  split at hc
  · cases hc
    obtain rfl : vs = [] := by simpa using hl.symm
    refine (lives_walk W).mono fun e W' ⟨he, hx⟩ => ?_
    obtain ⟨H', S'⟩ := ext_frozen H hx
    exact ⟨_, _, L, he, ⟨_, rfl, .v _ rfl⟩, H', S'.any⟩
  · cases hc
theorem baseY_ok : KOk Tryz.prog annY.base := fun f a h res h' hc => by
  have hc : baseY f a h = some (res, h') := hc
  unfold baseY at hc
  split at hc
  · rename_i hf
    exact lives_ok f a h res h' (by simp only [if_pos hf]; exact hc)
  · split at hc
    · rename_i hf
      exact encode_ok f a h res h' (by simp only [if_pos hf]; exact hc)
    split at hc
    · rename_i hf
      exact decode_ok f a h res h' (by simp only [if_pos hf]; exact hc)
    split at hc
    · cases hc
    · exact callW_ok (A := annX) base_ok prog_ok f a h res h' hc
def bsY : FuncId → Bool := fun f => f == 23 || f == 24 || f == 27 || !lawsY f
theorem bs_okY : ∀ f a h, (annY.base f a h).isSome = true → bsY f = true := fun f a h hh => by
  have hh : (baseY f a h).isSome = true := hh
  unfold baseY at hh
  unfold bsY
  split at hh
  · rename_i hf
    simp [hf]
  · split at hh
    · rename_i hf
      simp [hf]
    split at hh
    · rename_i hf
      simp [hf]
    split at hh
    · cases hh
    · rename_i hl
      simp [hl]
theorem all0Y : ∀ c ∈ ([] : List Ctr), c.ok Tryz.prog annY plansX := fun _ h => by simp at h
theorem all1Y {c : Ctr} {cs : List Ctr} (h : c.ok Tryz.prog annY plansX) (hs : ∀ c ∈ cs, c.ok Tryz.prog annY plansX) : ∀ d ∈ c :: cs, d.ok Tryz.prog annY plansX := fun d hd => by
  rcases List.mem_cons.1 hd with rfl | hd
  · exact h
  · exact hs d hd
/-- What is lifted under the first annotation is so under the second. -/
theorem up {c : Ctr} (h : c.ok Tryz.prog annX plansX) (hf : (c.f == 23 || c.f == 24 || c.f == 27 || lawsY c.f) = false) (hw : ∀ d, wkL (annX.wk c.f) (unpack c.tin d).env = (unpack c.tin d).env) : c.ok Tryz.prog annY plansX := fun d q hs args0 ha => by
  have ha : wkL (annX.wk c.f) args0 = (unpack c.tin d).env := ha
  refine callW_base (A := annY) ?_
  show baseY c.f (wkL (annX.wk c.f) args0) _ = _
  rw [ha]
  simp only [Bool.or_eq_false_iff, beq_eq_false_iff_ne] at hf
  rw [baseY, if_neg hf.1.1.1, if_neg hf.1.1.2, if_neg hf.1.2, if_neg (by rw [hf.2]; decide)]
  exact h d q hs _ (hw d)
def i_law16_lives : Tpl := ⟨[], [], []⟩
def o_law16_lives : Tpl := ⟨[], [], [(.one, [.hole .bool])]⟩
def S_law16_lives : Option (Bool × Unit) := some (true, ())
def c_law16_lives : Ctr := ⟨23, i_law16_lives, o_law16_lives, fun _ => S_law16_lives⟩
theorem k_law16_lives : (c_law16_lives).ok Tryz.prog annY plansX := fun d q hs args0 ha => by
  cases hs
  refine callW_base (A := annY) ?_
  have ha : wkL (annX.wk 23) args0 = [] := ha
  show baseY 23 (wkL (annX.wk 23) args0) _ = _
  rw [ha]
  rfl
def i_file_EncodeY : Tpl := ⟨[], [], [(.agg, [.hole (.sl 11 tF)])]⟩
def o_file_EncodeY : Tpl := ⟨[], [], [(.tup [(false, 1), (false, 1)], [.hole (.sl 1 tY), .hole tI])]⟩
open Classical in
noncomputable def S_file_EncodeY (a0 : LF) : Option (LB × (Int × Unit)) := if (∀ f ∈ a0, LenV f) ∧ (∀ f ∈ a0, DatV f) ∧ a0.length ≤ 1000000 then some ((encodeR a0).1, (encodeR a0).2, ()) else none
theorem sp_Encode {fs : List Fn} (h1 : ∀ f ∈ fs, LenV f) (h2 : ∀ f ∈ fs, DatV f) (h3 : fs.length ≤ 1000000) : S_file_EncodeY fs = some ((encodeR fs).1, (encodeR fs).2, ()) := if_pos ⟨h1, h2, h3⟩
noncomputable def c_file_EncodeY : Ctr := ⟨24, i_file_EncodeY, o_file_EncodeY, fun d => S_file_EncodeY d.1⟩
theorem k_file_EncodeY : (c_file_EncodeY).ok Tryz.prog annY plansX := fun d q hs args0 ha => by
  obtain ⟨fs, u⟩ := d
  have hs : S_file_EncodeY fs = some q := hs
  unfold S_file_EncodeY at hs
  split at hs
  case isFalse => cases hs
  rename_i hh
  cases hs
  refine callW_base (A := annY) ?_
  have ha : wkL (annX.wk 24) args0 = [⟨.agg, [.c (.fz 11 (encL tF fs))]⟩] := ha
  show baseY 24 (wkL (annX.wk 24) args0) _ = _
  rw [ha]
  exact encodeX_of hh.1 hh.2.1 hh.2.2
def i_file_Decode : Tpl := ⟨[], [], [(.one, [.hole (.sl 1 tY)])]⟩
def o_file_Decode : Tpl := ⟨[], [], [(.tup [(true, 1), (false, 1)], [.hole (.sl 11 tF), .hole tI])]⟩
noncomputable def S_file_Decode (a0 : LB) : Option (LF × (Int × Unit)) := if a0.length ≤ 140737488351232 then some ((decodeR a0).1, (decodeR a0).2, ()) else none
theorem sp_Decode {b : List UInt8} (h1 : b.length ≤ 140737488351232) : S_file_Decode b = some ((decodeR b).1, (decodeR b).2, ()) := if_pos h1
noncomputable def c_file_Decode : Ctr := ⟨27, i_file_Decode, o_file_Decode, fun d => S_file_Decode d.1⟩
theorem k_file_Decode : (c_file_Decode).ok Tryz.prog annY plansX := fun d q hs args0 ha => by
  obtain ⟨b, u⟩ := d
  have hs : S_file_Decode b = some q := hs
  unfold S_file_Decode at hs
  split at hs
  case isFalse => cases hs
  rename_i hh
  cases hs
  refine callW_base (A := annY) ?_
  have ha : wkL (annX.wk 27) args0 = [⟨.one, [.c (.fz 1 (encL tY b))]⟩] := ha
  show baseY 27 (wkL (annX.wk 27) args0) _ = _
  rw [ha]
  exact decodeX_of hh
theorem law_walkY {f : FuncId} {tin : Tpl} {d : DT tin} {args0 : List T} {vs : Array Value} {W : World} (h : Sof Tryz.prog annY plansX f tin ⟨[], [], [(.one, [.hole .bool])]⟩ d = some (true, ())) (hw : wkL (annY.wk f) args0 = (unpack tin d).env) (hh : (unpack tin d).h = ⟨[], []⟩)
    (hl : args0.length = vs.size) (hr : ∀ (i : Nat) t v, args0[i]? = some t → vs[i]? = some v → RepT W W0 L0 ⟨[], []⟩ t v) : Calls Tryz.prog f vs W fun e W' => e = .returned (.bool true) ∧ Ext W W' := by
  have h1 : callW Tryz.prog annY plansX f args0 (unpack tin d).h = some (⟨.one, [.c (.v (.bool true))]⟩, ⟨[], []⟩) := ctr_ok (P := Tryz.prog) (A := annY) (plans := plansX) (f := f) (tin := tin) (tout := ⟨[], [], [(.one, [.hole .bool])]⟩) d _ h _ hw
  rw [hh] at h1
  exact law_of baseY_ok prog_ok h1 hl hr
end Go.Proofs.YtkdnbnkbnegckaaGreat
namespace Go.Proofs.YtkdnbnkbnegckaaGreat
open Go.RowKit
set_option maxRecDepth 100000
def i_ref02_End : Tpl := ⟨[], [], [(.agg, [.hole (.sl 1 tY), .hole tI])]⟩
def o_ref02_End : Tpl := ⟨[], [], [(.one, [.hole tI])]⟩
noncomputable def S_ref02_End (a0 : LB) (a1 : Int) : Option (Int × Unit) := Sof Tryz.prog annX plansX 82 i_ref02_End o_ref02_End (a0, (a1, ()))
noncomputable def c_ref02_End : Ctr := ⟨82, i_ref02_End, o_ref02_End, fun d => S_ref02_End d.1 d.2.1⟩
theorem k_ref02_End : (c_ref02_End).ok Tryz.prog annX plansX := ctr_ok (tin := i_ref02_End) (tout := o_ref02_End)
def i_ref16_Decode : Tpl := ⟨[], [], [(.one, [.hole (.sl 1 tY)])]⟩
def o_ref16_Decode : Tpl := ⟨[], [], [(.tup [(true, 1), (false, 1)], [.hole (.sl 11 tF), .hole tI])]⟩
noncomputable def S_ref16_Decode (a0 : LB) : Option (LF × (Int × Unit)) := Sof Tryz.prog annX plansX 28 i_ref16_Decode o_ref16_Decode (a0, ())
noncomputable def c_ref16_Decode : Ctr := ⟨28, i_ref16_Decode, o_ref16_Decode, fun d => S_ref16_Decode d.1⟩
theorem k_ref16_Decode : (c_ref16_Decode).ok Tryz.prog annX plansX := ctr_ok (tin := i_ref16_Decode) (tout := o_ref16_Decode)
end Go.Proofs.YtkdnbnkbnegckaaGreat
namespace Go.Proofs.YtkdnbnkbnegckaaGreat
open Go.RowKit
set_option maxRecDepth 100000
def i_law16_FileDecodes : Tpl := ⟨[], [], [(.one, [.hole (.sl 1 tY)])]⟩
def o_law16_FileDecodes : Tpl := ⟨[], [], [(.one, [.hole .bool])]⟩
noncomputable def S_law16_FileDecodes (a0 : LB) : Option (Bool × Unit) := Sof Tryz.prog annY plansX 6 i_law16_FileDecodes o_law16_FileDecodes (a0, ())
end Go.Proofs.YtkdnbnkbnegckaaGreat
namespace Go.Proofs.YtkdnbnkbnegckaaGreat
open Go.RowKit
set_option maxRecDepth 100000
set_option linter.unusedVariables false
noncomputable def M_law16_FileDecodes (N : Nat) (l_0 : LB) : Option (Bool × Unit) :=
 dY l_0 <| fun l1 =>
 bnd (S_file_Decode l1) <| fun p2 =>
 dY l_0 <| fun l3 =>
 bnd (S_ref16_Decode l3) <| fun p4 =>
 joinK (δ := Unit) (cnd (notB (eqI p2.2.1 p4.2.1))
   (rightK <| some (false, ()))
   (dF p2.1 <| fun l5 =>
   dF p4.1 <| fun l6 =>
   bnd (S_ref16_Same l5 l6) <| fun p7 =>
   cnd (notB p7.1)
    (rightK <| some (false, ()))
    (qS (eF p2.1) <|
    qS (eF p4.1) <|
    qS (eY l_0) <|
    qI p2.2.1 <|
    leftK ())))
 <| fun x8 =>
 cnd (notB (eqI p2.2.1 0))
  (cnd (eqI (vlen (eF p2.1)) 0)
   (bnd (S_law16_lives) <| fun p9 =>
   some (p9.1, ()))
   (some (false, ())))
  (dF p2.1 <| fun l10 =>
  bnd (S_file_EncodeY l10) <| fun p11 =>
  cnd (eqI p11.2.1 0)
   (strK (eY p11.1) <| fun x12 =>
   strK (eY l_0) <| fun x13 =>
   cnd (seq2 x12 x13)
    (bnd (S_law16_lives) <| fun p14 =>
    some (p14.1, ()))
    (some (false, ())))
   (some (false, ())))
noncomputable def q_law16_FileDecodes : Lift := ⟨tyX, look2 .todo (α := LoopAs) (.n 6 [(1020486, (.as ⟨[], [[.fix], [.fix]], (.one, [.fix]) :: (.one, [.junk]) :: (.one, [.junk]) :: (.one, [.stat (.ptr 0 0)]) :: (.one, [.fix]) :: rp 49 (.one, [.junk]) ([])⟩))] .o .o), [c_file_Decode, c_ref16_Decode, c_ref16_Same, c_file_EncodeY, c_law16_lives], bsY⟩
theorem u_law16_FileDecodes {N : Nat} {a0 : LB} {q : (Bool × Unit)} (h : M_law16_FileDecodes N a0 = some q) : S_law16_FileDecodes a0 = some q :=
 Sof_of (Q := q_law16_FileDecodes) (N := N) (n := 3) (f := 6) (tin := i_law16_FileDecodes) (tout := o_law16_FileDecodes) (d := (a0, ())) (all1Y k_file_Decode (all1Y (up k_ref16_Decode rfl fun _ => by kernel_rfl) (all1Y (up k_ref16_Same rfl fun _ => by kernel_rfl) (all1Y k_file_EncodeY (all1Y k_law16_lives all0Y))))) bs_okY (by kernel_rfl) (by kernel_rfl) (by kernel_rfl) (Eq.trans (b := M_law16_FileDecodes N a0) (by kernel_rfl) h)

end Go.Proofs.YtkdnbnkbnegckaaGreat

namespace Go.Proofs.YtkdnbnkbnegckaaGreat
open Go.RowKit
set_option maxRecDepth 100000
set_option linter.unusedVariables false
noncomputable def M_ref02_End (N : Nat) (l_0 : LB) (n_1 : Int) : Option (Int × Unit) :=
 joinK (δ := Unit) (cnd (eqI n_1 0)
   (cnd (ltI 0 (vlen (eY l_0)))
    (rightK <| some (4, ()))
    (qS (eY l_0) <|
    qI n_1 <|
    leftK ()))
   (qS (eY l_0) <|
   qI n_1 <|
   leftK ()))
 <| fun x1 =>
 some (n_1, ())
noncomputable def q_ref02_End : Lift := ⟨tyX, look2 .todo (α := LoopAs) (.n 82 [(1012292, (.as ⟨[], [[.fix, .fix]], (.one, [.junk]) :: (.one, [.stat (.ptr 0 0)]) :: rp 12 (.one, [.junk]) ([])⟩))] .o .o), [], bsX⟩
theorem u_ref02_End {N : Nat} {a0 : LB} {a1 : Int} {q : (Int × Unit)} (h : M_ref02_End N a0 a1 = some q) : S_ref02_End a0 a1 = some q :=
 Sof_of (Q := q_ref02_End) (N := N) (n := 3) (f := 82) (tin := i_ref02_End) (tout := o_ref02_End) (d := (a0, (a1, ()))) all0 bs_ok (by kernel_rfl) (by kernel_rfl) (by kernel_rfl) (Eq.trans (b := M_ref02_End N a0 a1) (by kernel_rfl) h)

noncomputable def M_ref16_Decode (N : Nat) (l_0 : LB) : Option (LF × (Int × Unit)) :=
 joinK (δ := (Bool × Unit)) (cnd (ltI (vlen (eY l_0)) 4)
   (qS (eY l_0) <|
   leftK (true, ()))
   (chk (leI 4 (vlen (eY l_0))) <|
   strK (vcut (eY l_0) 0 4) <| fun x1 =>
   qS (eY l_0) <|
   leftK ((notB (seq2 x1 (ByteArray.mk (Array.mk [(UInt8.ofNat 73), (UInt8.ofNat 78), (UInt8.ofNat 76), (UInt8.ofNat 49)])))), ())))
 <| fun p2 =>
 cnd p2.1
  (decL tF [] <| fun l3 =>
  some (l3, (5, ())))
  (chk (leI 4 (vlen (eY l_0))) <|
  chk (leI (vlen (eY l_0)) (vlen (eY l_0))) <|
  decL tY (vcut (eY l_0) 4 (subN (vlen (eY l_0)) 4)) <| fun l4 =>
  bnd (S_ref02_Num l4 0 40) <| fun p5 =>
  joinK (δ := (LB × (Int × Unit))) (joinK (δ := (Bool × Unit)) (cnd (eqI p5.2.2.1 0)
     (qS (eY p5.2.1) <|
     qI p5.2.2.1 <|
     qI p5.1 <|
     leftK ((eqI p5.1 0), ()))
     (qS (eY p5.2.1) <|
     qI p5.2.2.1 <|
     qI p5.1 <|
     leftK (false, ())))
   <| fun p6 =>
   cnd p6.1
    (dY p5.2.1 <| fun l7 =>
    bnd (S_ref02_Fail l7 p5.2.2.1 6) <| fun p8 =>
    dY p8.1 <| fun l9 =>
    qI p5.1 <|
    leftK (l9, (p8.2.1, ())))
    (dY p5.2.1 <| fun l10 =>
    qI p5.1 <|
    leftK (l10, (p5.2.2.1, ()))))
  <| fun p11 =>
  joinK (δ := (LF × (LB × (Int × Unit)))) (decL tF [] <| fun l12 =>
   dY p11.1 <| fun l13 =>
   qI p5.1 <|
   iter (fun (d14 : (LF × (LB × (Int × (Int × Unit))))) again15 =>
    joinK (δ := Unit) (cnd (ltI d14.2.2.2.1 p5.1)
      (cnd (eqI d14.2.2.1 0)
       (qS (eF d14.1) <|
       qS (eY d14.2.1) <|
       qI d14.2.2.1 <|
       qN (vnum (eF d14.1)) <|
       qI p5.1 <|
       qI d14.2.2.2.1 <|
       leftK ())
       (rightK <| dF d14.1 <| fun l16 =>
       dY d14.2.1 <| fun l17 =>
       qN (vnum (eF d14.1)) <|
       leftK (l16, (l17, (d14.2.2.1, ())))))
      (rightK <| dF d14.1 <| fun l18 =>
      dY d14.2.1 <| fun l19 =>
      qN (vnum (eF d14.1)) <|
      leftK (l18, (l19, (d14.2.2.1, ())))))
    <| fun x20 =>
    dY d14.2.1 <| fun l21 =>
    bnd (S_ref15_Take l21 d14.2.2.1) <| fun p22 =>
    qN (vnum (eF d14.1)) <|
    chk (room (vnum (eF d14.1)) (vnum (vcut [[(C.v (Go.Value.string (ByteArray.mk (Array.mk p22.1)))), (C.v (Go.Value.bool p22.2.1)), (C.fz 1 (eI p22.2.2.1)), (C.fz 1 (eI p22.2.2.2.1)), (C.fz 1 (eI p22.2.2.2.2.1)), (C.fz 1 (eI p22.2.2.2.2.2.1)), (C.fz 2 (eC p22.2.2.2.2.2.2.1)), (C.fz 1 (eI p22.2.2.2.2.2.2.2.1)), (C.fz 7 (eN p22.2.2.2.2.2.2.2.2.1)), (C.fz 1 (eI p22.2.2.2.2.2.2.2.2.2.1)), (C.fz 4 (eS p22.2.2.2.2.2.2.2.2.2.2.1))]] 0 1)) 240) <|
    decL tF (vapp (eF d14.1) (vcut [[(C.v (Go.Value.string (ByteArray.mk (Array.mk p22.1)))), (C.v (Go.Value.bool p22.2.1)), (C.fz 1 (eI p22.2.2.1)), (C.fz 1 (eI p22.2.2.2.1)), (C.fz 1 (eI p22.2.2.2.2.1)), (C.fz 1 (eI p22.2.2.2.2.2.1)), (C.fz 2 (eC p22.2.2.2.2.2.2.1)), (C.fz 1 (eI p22.2.2.2.2.2.2.2.1)), (C.fz 7 (eN p22.2.2.2.2.2.2.2.2.1)), (C.fz 1 (eI p22.2.2.2.2.2.2.2.2.2.1)), (C.fz 4 (eS p22.2.2.2.2.2.2.2.2.2.2.1))]] 0 1)) <| fun l23 =>
    dY p22.2.2.2.2.2.2.2.2.2.2.2.1 <| fun l24 =>
    chk (eqN (addN (vnum (eF d14.1)) (vnum (vcut [[(C.v (Go.Value.string (ByteArray.mk (Array.mk p22.1)))), (C.v (Go.Value.bool p22.2.1)), (C.fz 1 (eI p22.2.2.1)), (C.fz 1 (eI p22.2.2.2.1)), (C.fz 1 (eI p22.2.2.2.2.1)), (C.fz 1 (eI p22.2.2.2.2.2.1)), (C.fz 2 (eC p22.2.2.2.2.2.2.1)), (C.fz 1 (eI p22.2.2.2.2.2.2.2.1)), (C.fz 7 (eN p22.2.2.2.2.2.2.2.2.1)), (C.fz 1 (eI p22.2.2.2.2.2.2.2.2.2.1)), (C.fz 4 (eS p22.2.2.2.2.2.2.2.2.2.2.1))]] 0 1))) (vnum (vapp (eF d14.1) (vcut [[(C.v (Go.Value.string (ByteArray.mk (Array.mk p22.1)))), (C.v (Go.Value.bool p22.2.1)), (C.fz 1 (eI p22.2.2.1)), (C.fz 1 (eI p22.2.2.2.1)), (C.fz 1 (eI p22.2.2.2.2.1)), (C.fz 1 (eI p22.2.2.2.2.2.1)), (C.fz 2 (eC p22.2.2.2.2.2.2.1)), (C.fz 1 (eI p22.2.2.2.2.2.2.2.1)), (C.fz 7 (eN p22.2.2.2.2.2.2.2.2.1)), (C.fz 1 (eI p22.2.2.2.2.2.2.2.2.2.1)), (C.fz 4 (eS p22.2.2.2.2.2.2.2.2.2.2.1))]] 0 1)))) <|
    qI p5.1 <|
    again15 (l23, (l24, (p22.2.2.2.2.2.2.2.2.2.2.2.2.1, ((wrp .i64 (addI d14.2.2.2.1 1)), ()))))) N (l12, (l13, (p11.2.1, (0, ())))))
  <| fun p25 =>
  cnd (eqI p25.2.2.1 0)
   (chk (leN (addN 0 (vnum (eF p25.1))) (vnum (eF p25.1))) <|
   decL tF (vcut (eF p25.1) 0 (vnum (eF p25.1))) <| fun l26 =>
   bnd (S_ref16_Names l26) <| fun p27 =>
   decL .str (encL .str p27.1) <| fun l28 =>
   bnd (S_ref05_Unlike l28) <| fun p29 =>
   cnd (notB p29.1)
    (decL tF [] <| fun l30 =>
    some (l30, (7, ())))
    (dY p25.2.1 <| fun l31 =>
    bnd (S_ref02_End l31 p25.2.2.1) <| fun p32 =>
    cnd (notB (eqI p32.1 0))
     (decL tF [] <| fun l33 =>
     some (l33, (p32.1, ())))
     (chk (leN (addN 0 (vnum (eF p25.1))) (vnum (eF p25.1))) <|
     decL tF (vcut (eF p25.1) 0 (vnum (eF p25.1))) <| fun l34 =>
     some (l34, (0, ())))))
   (dY p25.2.1 <| fun l35 =>
   bnd (S_ref02_End l35 p25.2.2.1) <| fun p36 =>
   cnd (notB (eqI p36.1 0))
    (decL tF [] <| fun l37 =>
    some (l37, (p36.1, ())))
    (chk (leN (addN 0 (vnum (eF p25.1))) (vnum (eF p25.1))) <|
    decL tF (vcut (eF p25.1) 0 (vnum (eF p25.1))) <| fun l38 =>
    some (l38, (0, ())))))
noncomputable def q_ref16_Decode : Lift := ⟨tyX, look2 .todo (α := LoopAs) (.n 28 [(8, (.as ⟨[.mu 31 11 tF], [[.stat (.c (.v (.slice none 0 0)))], [.hole (.sl 1 tY), .hole tI], [.own 0]], (.one, [.junk]) :: (.one, [.junk]) :: (.one, [.stat (.ptr 0 0)]) :: (.one, [.junk]) :: (.one, [.fix]) :: (.one, [.stat (.ptr 1 0)]) :: (.one, [.stat (.ptr 2 0)]) :: (.one, [.hole tI]) :: rp 68 (.one, [.junk]) ([])⟩)), (1008195, (.as ⟨[], [[.stat (.c (.v (.slice none 0 0)))]], (.one, [.fix]) :: (.one, [.junk]) :: (.one, [.stat (.ptr 0 0)]) :: rp 16 (.one, [.junk]) ((.one, [.hole .bool]) :: rp 56 (.one, [.junk]) ([]))⟩)), (1020486, (.as ⟨[], [[.stat (.c (.v (.slice none 0 0)))], [.fix, .fix]], (.one, [.junk]) :: (.one, [.junk]) :: (.one, [.stat (.ptr 0 0)]) :: (.one, [.junk]) :: (.one, [.fix]) :: (.one, [.stat (.ptr 1 0)]) :: rp 28 (.one, [.junk]) ((.one, [.hole .bool]) :: rp 41 (.one, [.junk]) ([]))⟩)), (1024583, (.as ⟨[], [[.stat (.c (.v (.slice none 0 0)))], [.hole (.sl 1 tY), .hole tI]], (.one, [.junk]) :: (.one, [.junk]) :: (.one, [.stat (.ptr 0 0)]) :: (.one, [.junk]) :: (.one, [.fix]) :: (.one, [.stat (.ptr 1 0)]) :: rp 70 (.one, [.junk]) ([])⟩)), (1036875, (.as ⟨[.fix], [[.stat (.c (.v (.slice none 0 0)))], [.fix, .fix], [.own 0]], (.one, [.junk]) :: (.one, [.junk]) :: (.one, [.stat (.ptr 0 0)]) :: (.one, [.junk]) :: (.one, [.fix]) :: (.one, [.stat (.ptr 1 0)]) :: (.one, [.stat (.ptr 2 0)]) :: (.one, [.fix]) :: rp 68 (.one, [.junk]) ([])⟩)), (1040974, (.as ⟨[.mu 31 11 tF], [[.stat (.c (.v (.slice none 0 0)))], [.hole (.sl 1 tY), .hole tI], [.own 0]], (.one, [.junk]) :: (.one, [.junk]) :: (.one, [.stat (.ptr 0 0)]) :: (.one, [.junk]) :: (.one, [.junk]) :: (.one, [.stat (.ptr 1 0)]) :: (.one, [.stat (.ptr 2 0)]) :: rp 69 (.one, [.junk]) ([])⟩))] .o .o), [c_ref02_Num, c_ref02_Fail, c_ref15_Take, c_ref16_Names, c_ref05_Unlike, c_ref02_End], bsX⟩
theorem u_ref16_Decode {N : Nat} {a0 : LB} {q : (LF × (Int × Unit))} (h : M_ref16_Decode N a0 = some q) : S_ref16_Decode a0 = some q :=
 Sof_of (Q := q_ref16_Decode) (N := N) (n := 3) (f := 28) (tin := i_ref16_Decode) (tout := o_ref16_Decode) (d := (a0, ())) (all1 k_ref02_Num (all1 k_ref02_Fail (all1 k_ref15_Take (all1 k_ref16_Names (all1 k_ref05_Unlike (all1 k_ref02_End all0)))))) bs_ok (by kernel_rfl) (by kernel_rfl) (by kernel_rfl) (Eq.trans (b := M_ref16_Decode N a0) (by kernel_rfl) h)
end Go.Proofs.YtkdnbnkbnegckaaGreat

namespace Go.Proofs.YtkdnbnkbnegckaaGreat
open Go.RowKit
set_option maxRecDepth 20000
theorem sp_Names {fs : List Fn} (hl : fs.length ≤ 1000000) : S_ref16_Names fs = some (fs.map (·.1), ()) := by
  refine u_ref16_Names (N := fs.length + 1) ?_
  simp [M_ref16_Names]
  refine iter_to (fun d => fs.length - d.2.1.toNat) (fun d => ∃ k : Nat, d = ((fs.take k).map (·.1), (k : Int), ()) ∧ k ≤ fs.length) ?_ _ _ ⟨0, by simp, Nat.zero_le _⟩ (by simp)
  rintro _ again ⟨k, rfl, hk⟩ ih
  by_cases h : k < fs.length
  · have hw : wrp .i64 ((k : Int) + 1) = (k : Int) + 1 := wi64 (by omega) (by omega)
    have hr := room_t (a := k) (b := 1) (c := 16) (by omega) (by omega)
    have hm : min k fs.length = k := by omega
    have := ih ((fs.take (k + 1)).map (·.1), (k : Int) + 1, ()) ⟨k + 1, rfl, h⟩ (by simp; omega)
    have e : (fs.take k).map (·.1) ++ [fs[k].1] = (fs.take (k + 1)).map (·.1) := by rw [List.take_succ_eq_append_getElem h, List.map_append]; rfl
    rw [← e] at this
    simpa [h, bnd_get h, hw, hr, hm] using this
  · have : k = fs.length := by omega
    subst this
    simp
/-- Where a text comes first. -/
def findI : List (List UInt8) → List UInt8 → Nat → Int
  | [], _, _ => -1
  | x :: l, y, i => if x = y then i else findI l y (i + 1)
theorem sp_Find5 {l : List (List UInt8)} {y : List UInt8} (hl : l.length ≤ 1000000) : S_ref05_Find l y = some (findI l y 0, ()) := by
  refine u_ref05_Find (N := l.length + 1) ?_
  simp [M_ref05_Find]
  refine iter_to (fun d => l.length - d.1.toNat) (fun d => ∃ k : Nat, d = ((k : Int), ()) ∧ k ≤ l.length ∧ findI l y 0 = findI (l.drop k) y k) ?_ _ _ ⟨0, rfl, Nat.zero_le _, rfl⟩ (by simp)
  rintro _ again ⟨k, rfl, hk, hf⟩ ih
  by_cases h : k < l.length
  · have hw : wrp .i64 ((k : Int) + 1) = (k : Int) + 1 := wi64 (by omega) (by omega)
    rw [List.drop_eq_getElem_cons h, findI] at hf
    by_cases he : l[k] = y
    · rw [if_pos he] at hf
      rw [hf]
      simp [h, bnd_get h, he]
    · rw [if_neg he] at hf
      have := ih ((k : Int) + 1, ()) ⟨k + 1, rfl, h, hf⟩ (by simp; omega)
      simpa [h, bnd_get h, hw, he] using this
  · have : k = l.length := by omega
    subst this
    rw [hf]
    simp [findI]
theorem findI_at : ∀ {l : List (List UInt8)} {i k : Nat} (h : k < l.length), (∀ j (hj : j < k), l[j] ≠ l[k]) → findI l l[k] i = ((i + k : Nat) : Int)
  | x :: l, i, 0, h, _ => by simp [findI]
  | x :: l, i, k + 1, h, hh => by
    have h1 : x ≠ l[k]'(by simpa using h) := by simpa using hh 0 (by omega)
    show (if x = l[k]'(by simpa using h) then _ else findI l (l[k]'(by simpa using h)) (i + 1)) = _
    rw [if_neg h1, findI_at (by simpa using h) fun j hj => by simpa using hh (j + 1) (by omega)]
    omega
theorem findI_before : ∀ {l : List (List UInt8)} {i j k : Nat} (h : k < l.length) (hj : j < k), l[j]'(by omega) = l[k] → findI l l[k] i < ((i + k : Nat) : Int)
  | x :: l, i, j, 0, h, hj, _ => by omega
  | x :: l, i, j, k + 1, h, hj, he => by
    show (if x = l[k]'(by simpa using h) then (i : Int) else findI l (l[k]'(by simpa using h)) (i + 1)) < _
    by_cases hx : x = l[k]'(by simpa using h)
    · rw [if_pos hx]; omega
    · rw [if_neg hx]
      cases j with
      | zero => exact absurd (by simpa using he) hx
      | succ j =>
        have := findI_before (i := i + 1) (j := j) (k := k) (l := l) (by simpa using h) (by omega) (by simpa using he)
        omega
theorem sp_Unlike5 {l : List (List UInt8)} (hl : l.length ≤ 1000000) : S_ref05_Unlike l = some (decide l.Nodup, ()) := by
  refine u_ref05_Unlike (N := l.length + 1) ?_
  simp [M_ref05_Unlike]
  refine iter_to (fun d => l.length - d.1.toNat) (fun d => ∃ k : Nat, d = ((k : Int), ()) ∧ k ≤ l.length ∧ ∀ i j (hi : i < k) (hj : j < i) (hk : i < l.length), l[j] ≠ l[i]) ?_ _ _ ⟨0, rfl, Nat.zero_le _, fun i j hi => by omega⟩ (by simp)
  rintro _ again ⟨k, rfl, hk, hf⟩ ih
  by_cases h : k < l.length
  · have hw : wrp .i64 ((k : Int) + 1) = (k : Int) + 1 := wi64 (by omega) (by omega)
    by_cases hd : ∃ j, ∃ hj : j < k, l[j] = l[k]
    · obtain ⟨j, hj, he⟩ := hd
      have h1 := findI_before (i := 0) h hj he
      have hn : ¬l.Nodup := fun hn => by
        have := (List.nodup_iff_pairwise_ne.1 hn)
        exact (List.pairwise_iff_getElem.1 this j k (by omega) h hj) he
      have h2 : ¬findI l l[k] 0 = (k : Int) := by omega
      simp [h, bnd_get h, sp_Find5 hl, h2, hn]
    · have h1 := findI_at (i := 0) h fun j hj he => hd ⟨j, hj, he⟩
      have h2 : findI l l[k] 0 = (k : Int) := by rw [h1, Nat.zero_add]
      have := ih ((k : Int) + 1, ()) ⟨k + 1, rfl, h, fun i j hi hj hk2 he => by
        by_cases e : i = k
        · subst e; exact hd ⟨j, hj, he⟩
        · exact hf i j (by omega) hj hk2 he⟩ (by simp; omega)
      simpa [h, bnd_get h, hw, sp_Find5 hl, h2] using this
  · have : k = l.length := by omega
    subst this
    have hn : l.Nodup := List.nodup_iff_pairwise_ne.2 (List.pairwise_iff_getElem.2 fun i j hi hj hij => hf j i hj hij hj)
    simp [hn]
end Go.Proofs.YtkdnbnkbnegckaaGreat
