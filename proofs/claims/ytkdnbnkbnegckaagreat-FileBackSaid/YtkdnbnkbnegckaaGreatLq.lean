/- What functions come to: templates, and contracts. Functions, lifted: what the program comes to by them. All lifted functions. -/
import Derived.Test.YtkdnbnkbnegckaaGreatLpA
namespace Go.Proofs.YtkdnbnkbnegckaaGreat
open Go.RowKit
set_option maxRecDepth 100000
def i_law16_Small : Tpl := ⟨[], [], [(.agg, [.hole (.sl 11 tF)])]⟩
def o_law16_Small : Tpl := ⟨[], [], [(.one, [.hole .bool])]⟩
noncomputable def S_law16_Small (a0 : LF) : Option (Bool × Unit) := Sof Tryz.prog annX plansX 22 i_law16_Small o_law16_Small (a0, ())
noncomputable def c_law16_Small : Ctr := ⟨22, i_law16_Small, o_law16_Small, fun d => S_law16_Small d.1⟩
theorem k_law16_Small : (c_law16_Small).ok Tryz.prog annX plansX := ctr_ok (tin := i_law16_Small) (tout := o_law16_Small)
def i_file_called : Tpl := ⟨[], [], [(.agg, [.hole (.sl 11 tF)])]⟩
def o_file_called : Tpl := ⟨[], [], [(.one, [.hole (.sl 1 .str)])]⟩
noncomputable def S_file_called (a0 : LF) : Option ((List LB) × Unit) := Sof Tryz.prog annX plansX 77 i_file_called o_file_called (a0, ())
noncomputable def c_file_called : Ctr := ⟨77, i_file_called, o_file_called, fun d => S_file_called d.1⟩
theorem k_file_called : (c_file_called).ok Tryz.prog annX plansX := ctr_ok (tin := i_file_called) (tout := o_file_called)
def i_names_Unlike : Tpl := ⟨[], [], [(.one, [.hole (.sl 1 .str)])]⟩
def o_names_Unlike : Tpl := ⟨[], [], [(.one, [.hole .bool])]⟩
theorem strsOf_enc : ∀ {l : List LB}, strsOf (encL .str l) = some l
 | [] => rfl
 | s :: l => by
  show (strsOf (encL .str l)).map (s :: ·) = _
  rw [strsOf_enc]
  rfl
theorem unlikeX_enc {l : List LB} {h : Hp} (h1 : l.length ≤ 1000000) (h2 : (l.all fun s => decide (s.length ≤ 1000000)) = true) : unlikeX [⟨.one, [.c (.fz 1 (encL .str l))]⟩] h = some (⟨.one, [.c (.v (.bool (decide l.Nodup)))]⟩, h) := by
 simp only [unlikeX, strsOf_enc]
 exact if_pos ⟨h1, h2⟩
noncomputable def S_names_Unlike (a0 : List LB) : Option (Bool × Unit) := chk (leN a0.length 1000000 && a0.all fun s => decide (s.length ≤ 1000000)) (some (decide a0.Nodup, ()))
noncomputable def c_names_Unlike : Ctr := ⟨76, i_names_Unlike, o_names_Unlike, fun d => S_names_Unlike d.1⟩
theorem k_names_Unlike : (c_names_Unlike).ok Tryz.prog annX plansX := fun d q h args0 hw => by
 obtain ⟨h1, h2⟩ := chk_ok h
 cases h2
 refine callW_base ?_
 rw [hw]
 rw [Bool.and_eq_true] at h1
 exact unlikeX_enc (leN_ok.1 h1.1) h1.2
def i_file_Can : Tpl := ⟨[], [], [(.agg, [.hole (.sl 11 tF)])]⟩
def o_file_Can : Tpl := ⟨[], [], [(.one, [.hole tI])]⟩
noncomputable def S_file_Can (a0 : LF) : Option (Int × Unit) := Sof Tryz.prog annX plansX 26 i_file_Can o_file_Can (a0, ())
noncomputable def c_file_Can : Ctr := ⟨26, i_file_Can, o_file_Can, fun d => S_file_Can d.1⟩
theorem k_file_Can : (c_file_Can).ok Tryz.prog annX plansX := ctr_ok (tin := i_file_Can) (tout := o_file_Can)
def i_cursor_Cursor_End : Tpl := ⟨[], [[.hole (.sl 1 tY), .hole .bool, .hole tI]], [(.one, [.stat (.ptr 0 0)])]⟩
def o_cursor_Cursor_End : Tpl := ⟨[], [[.hole (.sl 1 tY), .hole .bool, .hole tI]], [(.one, [.hole tI])]⟩
noncomputable def S_cursor_Cursor_End (a0 : LB) (a1 : Bool) (a2 : Int) : Option (LB × (Bool × (Int × (Int × Unit)))) := Sof Tryz.prog annX plansX 130 i_cursor_Cursor_End o_cursor_Cursor_End (a0, (a1, (a2, ())))
noncomputable def c_cursor_Cursor_End : Ctr := ⟨130, i_cursor_Cursor_End, o_cursor_Cursor_End, fun d => S_cursor_Cursor_End d.1 d.2.1 d.2.2.1⟩
theorem k_cursor_Cursor_End : (c_cursor_Cursor_End).ok Tryz.prog annX plansX := ctr_ok (tin := i_cursor_Cursor_End) (tout := o_cursor_Cursor_End)
def i_file_Same : Tpl := ⟨[], [], [(.agg, [.hole (.sl 11 tF)]), (.agg, [.hole (.sl 11 tF)])]⟩
def o_file_Same : Tpl := ⟨[], [], [(.one, [.hole .bool])]⟩
noncomputable def S_file_Same (a0 : LF) (a1 : LF) : Option (Bool × Unit) := Sof Tryz.prog annX plansX 31 i_file_Same o_file_Same (a0, (a1, ()))
noncomputable def c_file_Same : Ctr := ⟨31, i_file_Same, o_file_Same, fun d => S_file_Same d.1 d.2.1⟩
theorem k_file_Same : (c_file_Same).ok Tryz.prog annX plansX := ctr_ok (tin := i_file_Same) (tout := o_file_Same)
def i_ref16_Same : Tpl := ⟨[], [], [(.agg, [.hole (.sl 11 tF)]), (.agg, [.hole (.sl 11 tF)])]⟩
def o_ref16_Same : Tpl := ⟨[], [], [(.one, [.hole .bool])]⟩
noncomputable def S_ref16_Same (a0 : LF) (a1 : LF) : Option (Bool × Unit) := Sof Tryz.prog annX plansX 29 i_ref16_Same o_ref16_Same (a0, (a1, ()))
noncomputable def c_ref16_Same : Ctr := ⟨29, i_ref16_Same, o_ref16_Same, fun d => S_ref16_Same d.1 d.2.1⟩
theorem k_ref16_Same : (c_ref16_Same).ok Tryz.prog annX plansX := ctr_ok (tin := i_ref16_Same) (tout := o_ref16_Same)
end Go.Proofs.YtkdnbnkbnegckaaGreat
namespace Go.Proofs.YtkdnbnkbnegckaaGreat
open Go.RowKit
set_option maxRecDepth 100000
set_option linter.unusedVariables false
noncomputable def M_law16_Small (N : Nat) (l_0 : LF) : Option (Bool × Unit) :=
 joinK (δ := Unit) (qS (eF l_0) <|
  iter (fun (d1 : (Int × Unit)) again2 =>
   joinK (δ := Unit) (cnd (ltI d1.1 (vlen (eF l_0)))
     (cnd (ltI d1.1 50)
      (qS (eF l_0) <|
      qI d1.1 <|
      leftK ())
      (rightK <| qS (eF l_0) <|
      leftK ()))
     (rightK <| qS (eF l_0) <|
     leftK ()))
   <| fun x3 =>
   chk (leI 0 d1.1) <|
   getE tF (eF l_0) (natI d1.1) <| fun p4 =>
   dI p4.2.2.1 <| fun l5 =>
   dI p4.2.2.2.1 <| fun l6 =>
   dI p4.2.2.2.2.1 <| fun l7 =>
   dI p4.2.2.2.2.2.1 <| fun l8 =>
   dC p4.2.2.2.2.2.2.1 <| fun l9 =>
   dI p4.2.2.2.2.2.2.2.1 <| fun l10 =>
   dN p4.2.2.2.2.2.2.2.2.1 <| fun l11 =>
   dI p4.2.2.2.2.2.2.2.2.2.1 <| fun l12 =>
   dS p4.2.2.2.2.2.2.2.2.2.2 <| fun l13 =>
   bnd (S_law15_Small p4.1 p4.2.1 l5 l6 l7 l8 l9 l10 l11 l12 l13) <| fun p14 =>
   cnd (notB p14.1)
    (rightK <| some (false, ()))
    (qS (eF l_0) <|
    again2 ((wrp .i64 (addI d1.1 1)), ()))) N (0, ()))
 <| fun x15 =>
 some ((leI (vlen (eF l_0)) 50), ())
noncomputable def q_law16_Small : Lift := ⟨tyX, look2 .todo (α := LoopAs) (.n 22 [(2, (.as ⟨[], [[.fix]], (.one, [.junk]) :: (.one, [.stat (.ptr 0 0)]) :: (.one, [.junk]) :: (.one, [.hole tI]) :: rp 22 (.one, [.junk]) ([])⟩)), (1012293, (.as ⟨[], [[.fix]], (.one, [.junk]) :: (.one, [.stat (.ptr 0 0)]) :: (.one, [.junk]) :: (.one, [.fix]) :: rp 22 (.one, [.junk]) ([])⟩)), (1016391, (.as ⟨[], [[.fix]], (.one, [.junk]) :: (.one, [.stat (.ptr 0 0)]) :: rp 24 (.one, [.junk]) ([])⟩))] .o .o), [c_law15_Small], bsX⟩
theorem u_law16_Small {N : Nat} {a0 : LF} {q : (Bool × Unit)} (h : M_law16_Small N a0 = some q) : S_law16_Small a0 = some q :=
 Sof_of (Q := q_law16_Small) (N := N) (n := 3) (f := 22) (tin := i_law16_Small) (tout := o_law16_Small) (d := (a0, ())) (all1 k_law15_Small all0) bs_ok (by kernel_rfl) (by kernel_rfl) (by kernel_rfl) (Eq.trans (b := M_law16_Small N a0) (by kernel_rfl) h)

noncomputable def M_file_called (N : Nat) (l_0 : LF) : Option ((List LB) × Unit) :=
 decL .str [] <| fun l1 =>
 dF l_0 <| fun l2 =>
 qS (eF l_0) <|
 qI (vlen (eF l_0)) <|
 iter (fun (d3 : ((List LB) × (LF × (Int × Unit)))) again4 =>
  cnd (ltI d3.2.2.1 (vlen (eF l_0)))
   (chk (leI 0 d3.2.2.1) <|
   getE tF (eF l_0) (natI d3.2.2.1) <| fun p5 =>
   qN (vnum (encL .str d3.1)) <|
   chk (room (vnum (encL .str d3.1)) (vnum (vcut [[(C.v (Go.Value.string (ByteArray.mk (Array.mk p5.1))))]] 0 1)) 16) <|
   decL .str (vapp (encL .str d3.1) (vcut [[(C.v (Go.Value.string (ByteArray.mk (Array.mk p5.1))))]] 0 1)) <| fun l6 =>
   dF d3.2.1 <| fun l7 =>
   chk (eqN (addN (vnum (encL .str d3.1)) (vnum (vcut [[(C.v (Go.Value.string (ByteArray.mk (Array.mk p5.1))))]] 0 1))) (vnum (vapp (encL .str d3.1) (vcut [[(C.v (Go.Value.string (ByteArray.mk (Array.mk p5.1))))]] 0 1)))) <|
   qS (eF l_0) <|
   qI (vlen (eF l_0)) <|
   again4 (l6, (l7, ((wrp .i64 (addI d3.2.2.1 1)), ()))))
   (chk (leN (addN 0 (vnum (encL .str d3.1))) (vnum (encL .str d3.1))) <|
   decL .str (vcut (encL .str d3.1) 0 (vnum (encL .str d3.1))) <| fun l8 =>
   some (l8, ()))) N (l1, (l2, (0, ())))
noncomputable def q_file_called : Lift := ⟨tyX, look2 .todo (α := LoopAs) (.n 77 [(3, (.as ⟨[.mu 9 1 .str], [[.hole (.sl 11 tF)]], (.one, [.junk]) :: (.one, [.junk]) :: (.one, [.junk]) :: (.one, [.own 0]) :: (.one, [.junk]) :: (.one, [.junk]) :: (.one, [.junk]) :: (.one, [.fix]) :: (.one, [.fix]) :: (.one, [.hole tI]) :: rp 10 (.one, [.junk]) ([])⟩))] .o .o), [], bsX⟩
theorem u_file_called {N : Nat} {a0 : LF} {q : ((List LB) × Unit)} (h : M_file_called N a0 = some q) : S_file_called a0 = some q :=
 Sof_of (Q := q_file_called) (N := N) (n := 3) (f := 77) (tin := i_file_called) (tout := o_file_called) (d := (a0, ())) all0 bs_ok (by kernel_rfl) (by kernel_rfl) (by kernel_rfl) (Eq.trans (b := M_file_called N a0) (by kernel_rfl) h)

noncomputable def M_file_Can (N : Nat) (l_0 : LF) : Option (Int × Unit) :=
 joinK (δ := Unit) (cnd (ltI (vlen (eF l_0)) 1)
   (rightK <| some (6, ()))
   (cnd (ltI 40 (vlen (eF l_0)))
    (rightK <| some (6, ()))
    (qS (eF l_0) <|
    leftK ())))
 <| fun x1 =>
 dF l_0 <| fun l2 =>
 qS (eF l_0) <|
 qI (vlen (eF l_0)) <|
 iter (fun (d3 : (LF × (Int × Unit))) again4 =>
  cnd (ltI d3.2.1 (vlen (eF l_0)))
   (chk (leI 0 d3.2.1) <|
   getE tF (eF l_0) (natI d3.2.1) <| fun p5 =>
   dI p5.2.2.1 <| fun l6 =>
   dI p5.2.2.2.1 <| fun l7 =>
   dI p5.2.2.2.2.1 <| fun l8 =>
   dI p5.2.2.2.2.2.1 <| fun l9 =>
   dC p5.2.2.2.2.2.2.1 <| fun l10 =>
   dI p5.2.2.2.2.2.2.2.1 <| fun l11 =>
   dN p5.2.2.2.2.2.2.2.2.1 <| fun l12 =>
   dI p5.2.2.2.2.2.2.2.2.2.1 <| fun l13 =>
   dS p5.2.2.2.2.2.2.2.2.2.2 <| fun l14 =>
   bnd (S_fnc_Can p5.1 p5.2.1 l6 l7 l8 l9 l10 l11 l12 l13 l14) <| fun p15 =>
   cnd (notB (eqI p15.1 0))
    (some (p15.1, ()))
    (dF d3.1 <| fun l16 =>
    qS (eF l_0) <|
    qI (vlen (eF l_0)) <|
    again4 (l16, ((wrp .i64 (addI d3.2.1 1)), ()))))
   (dF d3.1 <| fun l17 =>
   bnd (S_file_called l17) <| fun p18 =>
   decL .str (encL .str p18.1) <| fun l19 =>
   bnd (S_names_Unlike l19) <| fun p20 =>
   cnd (notB p20.1)
    (some (7, ()))
    (some (0, ())))) N (l2, (0, ()))
noncomputable def q_file_Can : Lift := ⟨tyX, look2 .todo (α := LoopAs) (.n 26 [(5, (.as ⟨[], [[.hole (.sl 11 tF)]], (.one, [.junk]) :: (.one, [.stat (.ptr 0 0)]) :: rp 15 (.one, [.junk]) ((.one, [.fix]) :: (.one, [.fix]) :: (.one, [.hole tI]) :: rp 13 (.one, [.junk]) ([]))⟩)), (1016389, (.as ⟨[], [[.fix]], (.one, [.junk]) :: (.one, [.stat (.ptr 0 0)]) :: rp 31 (.one, [.junk]) ([])⟩))] .o .o), [c_fnc_Can, c_file_called, c_names_Unlike], bsX⟩
theorem u_file_Can {N : Nat} {a0 : LF} {q : (Int × Unit)} (h : M_file_Can N a0 = some q) : S_file_Can a0 = some q :=
 Sof_of (Q := q_file_Can) (N := N) (n := 3) (f := 26) (tin := i_file_Can) (tout := o_file_Can) (d := (a0, ())) (all1 k_fnc_Can (all1 k_file_called (all1 k_names_Unlike all0))) bs_ok (by kernel_rfl) (by kernel_rfl) (by kernel_rfl) (Eq.trans (b := M_file_Can N a0) (by kernel_rfl) h)

noncomputable def M_cursor_Cursor_End (N : Nat) (l_0 : LB) (b_1 : Bool) (n_2 : Int) : Option (LB × (Bool × (Int × (Int × Unit)))) :=
 dY l_0 <| fun l1 =>
 bnd (S_cursor_Cursor_Left l1 b_1 n_2) <| fun p2 =>
 cnd (ltI 0 p2.2.2.2.1)
  (dY p2.1 <| fun l3 =>
  some (l3, (p2.2.1, (p2.2.2.1, (4, ())))))
  (dY p2.1 <| fun l4 =>
  bnd (S_cursor_Cursor_Err l4 p2.2.1 p2.2.2.1) <| fun p5 =>
  dY p5.1 <| fun l6 =>
  some (l6, (p5.2.1, (p5.2.2.1, (p5.2.2.2.1, ())))))
noncomputable def q_cursor_Cursor_End : Lift := ⟨tyX, look2 .todo (α := LoopAs) (.o), [c_cursor_Cursor_Err, c_cursor_Cursor_Left], bsX⟩
theorem u_cursor_Cursor_End {N : Nat} {a0 : LB} {a1 : Bool} {a2 : Int} {q : (LB × (Bool × (Int × (Int × Unit))))} (h : M_cursor_Cursor_End N a0 a1 a2 = some q) : S_cursor_Cursor_End a0 a1 a2 = some q :=
 Sof_of (Q := q_cursor_Cursor_End) (N := N) (n := 3) (f := 130) (tin := i_cursor_Cursor_End) (tout := o_cursor_Cursor_End) (d := (a0, (a1, (a2, ())))) (all1 k_cursor_Cursor_Err (all1 k_cursor_Cursor_Left all0)) bs_ok (by kernel_rfl) (by kernel_rfl) (by kernel_rfl) (Eq.trans (b := M_cursor_Cursor_End N a0 a1 a2) (by kernel_rfl) h)

noncomputable def M_file_Same (N : Nat) (l_0 : LF) (l_1 : LF) : Option (Bool × Unit) :=
 cnd (notB (eqI (vlen (eF l_0)) (vlen (eF l_1))))
  (some (false, ()))
  (dF l_0 <| fun l1 =>
  dF l_1 <| fun l2 =>
  qS (eF l_0) <|
  qI (vlen (eF l_0)) <|
  iter (fun (d3 : (LF × (LF × (Int × Unit)))) again4 =>
   cnd (ltI d3.2.2.1 (vlen (eF l_0)))
    (chk (leI 0 d3.2.2.1) <|
    getE tF (eF l_0) (natI d3.2.2.1) <| fun p5 =>
    chk (leI 0 d3.2.2.1) <|
    getE tF (eF d3.2.1) (natI d3.2.2.1) <| fun p6 =>
    dI p5.2.2.1 <| fun l7 =>
    dI p5.2.2.2.1 <| fun l8 =>
    dI p5.2.2.2.2.1 <| fun l9 =>
    dI p5.2.2.2.2.2.1 <| fun l10 =>
    dC p5.2.2.2.2.2.2.1 <| fun l11 =>
    dI p5.2.2.2.2.2.2.2.1 <| fun l12 =>
    dN p5.2.2.2.2.2.2.2.2.1 <| fun l13 =>
    dI p5.2.2.2.2.2.2.2.2.2.1 <| fun l14 =>
    dS p5.2.2.2.2.2.2.2.2.2.2 <| fun l15 =>
    dI p6.2.2.1 <| fun l16 =>
    dI p6.2.2.2.1 <| fun l17 =>
    dI p6.2.2.2.2.1 <| fun l18 =>
    dI p6.2.2.2.2.2.1 <| fun l19 =>
    dC p6.2.2.2.2.2.2.1 <| fun l20 =>
    dI p6.2.2.2.2.2.2.2.1 <| fun l21 =>
    dN p6.2.2.2.2.2.2.2.2.1 <| fun l22 =>
    dI p6.2.2.2.2.2.2.2.2.2.1 <| fun l23 =>
    dS p6.2.2.2.2.2.2.2.2.2.2 <| fun l24 =>
    bnd (S_fnc_Same p5.1 p5.2.1 l7 l8 l9 l10 l11 l12 l13 l14 l15 p6.1 p6.2.1 l16 l17 l18 l19 l20 l21 l22 l23 l24) <| fun p25 =>
    cnd (notB p25.1)
     (some (false, ()))
     (dF d3.1 <| fun l26 =>
     dF d3.2.1 <| fun l27 =>
     qS (eF l_0) <|
     qI (vlen (eF l_0)) <|
     again4 (l26, (l27, ((wrp .i64 (addI d3.2.2.1 1)), ())))))
    (some (true, ()))) N (l1, (l2, (0, ()))))
noncomputable def q_file_Same : Lift := ⟨tyX, look2 .todo (α := LoopAs) (.n 31 [(4, (.as ⟨[], [[.hole (.sl 11 tF)], [.hole (.sl 11 tF)]], (.one, [.junk]) :: (.one, [.junk]) :: (.one, [.junk]) :: (.one, [.stat (.ptr 1 0)]) :: rp 11 (.one, [.junk]) ((.one, [.fix]) :: (.one, [.fix]) :: (.one, [.hole tI]) :: rp 13 (.one, [.junk]) ([]))⟩))] .o .o), [c_fnc_Same], bsX⟩
theorem u_file_Same {N : Nat} {a0 : LF} {a1 : LF} {q : (Bool × Unit)} (h : M_file_Same N a0 a1 = some q) : S_file_Same a0 a1 = some q :=
 Sof_of (Q := q_file_Same) (N := N) (n := 3) (f := 31) (tin := i_file_Same) (tout := o_file_Same) (d := (a0, (a1, ()))) (all1 k_fnc_Same all0) bs_ok (by kernel_rfl) (by kernel_rfl) (by kernel_rfl) (Eq.trans (b := M_file_Same N a0 a1) (by kernel_rfl) h)

noncomputable def M_ref16_Same (N : Nat) (l_0 : LF) (l_1 : LF) : Option (Bool × Unit) :=
 cnd (notB (eqI (vlen (eF l_0)) (vlen (eF l_1))))
  (some (false, ()))
  (qS (eF l_0) <|
  qS (eF l_1) <|
  iter (fun (d1 : (Int × Unit)) again2 =>
   cnd (ltI d1.1 (vlen (eF l_0)))
    (chk (leI 0 d1.1) <|
    getE tF (eF l_0) (natI d1.1) <| fun p3 =>
    chk (leI 0 d1.1) <|
    getE tF (eF l_1) (natI d1.1) <| fun p4 =>
    dI p3.2.2.1 <| fun l5 =>
    dI p3.2.2.2.1 <| fun l6 =>
    dI p3.2.2.2.2.1 <| fun l7 =>
    dI p3.2.2.2.2.2.1 <| fun l8 =>
    dC p3.2.2.2.2.2.2.1 <| fun l9 =>
    dI p3.2.2.2.2.2.2.2.1 <| fun l10 =>
    dN p3.2.2.2.2.2.2.2.2.1 <| fun l11 =>
    dI p3.2.2.2.2.2.2.2.2.2.1 <| fun l12 =>
    dS p3.2.2.2.2.2.2.2.2.2.2 <| fun l13 =>
    dI p4.2.2.1 <| fun l14 =>
    dI p4.2.2.2.1 <| fun l15 =>
    dI p4.2.2.2.2.1 <| fun l16 =>
    dI p4.2.2.2.2.2.1 <| fun l17 =>
    dC p4.2.2.2.2.2.2.1 <| fun l18 =>
    dI p4.2.2.2.2.2.2.2.1 <| fun l19 =>
    dN p4.2.2.2.2.2.2.2.2.1 <| fun l20 =>
    dI p4.2.2.2.2.2.2.2.2.2.1 <| fun l21 =>
    dS p4.2.2.2.2.2.2.2.2.2.2 <| fun l22 =>
    bnd (S_ref15_Same p3.1 p3.2.1 l5 l6 l7 l8 l9 l10 l11 l12 l13 p4.1 p4.2.1 l14 l15 l16 l17 l18 l19 l20 l21 l22) <| fun p23 =>
    cnd (notB p23.1)
     (some (false, ()))
     (qS (eF l_0) <|
     qS (eF l_1) <|
     again2 ((wrp .i64 (addI d1.1 1)), ())))
    (some (true, ()))) N (0, ()))
noncomputable def q_ref16_Same : Lift := ⟨tyX, look2 .todo (α := LoopAs) (.n 29 [(4, (.as ⟨[], [[.fix], [.fix]], (.one, [.junk]) :: (.one, [.junk]) :: (.one, [.stat (.ptr 0 0)]) :: (.one, [.stat (.ptr 1 0)]) :: (.one, [.junk]) :: (.one, [.hole tI]) :: rp 26 (.one, [.junk]) ([])⟩))] .o .o), [c_ref15_Same], bsX⟩
theorem u_ref16_Same {N : Nat} {a0 : LF} {a1 : LF} {q : (Bool × Unit)} (h : M_ref16_Same N a0 a1 = some q) : S_ref16_Same a0 a1 = some q :=
 Sof_of (Q := q_ref16_Same) (N := N) (n := 3) (f := 29) (tin := i_ref16_Same) (tout := o_ref16_Same) (d := (a0, (a1, ()))) (all1 k_ref15_Same all0) bs_ok (by kernel_rfl) (by kernel_rfl) (by kernel_rfl) (Eq.trans (b := M_ref16_Same N a0 a1) (by kernel_rfl) h)
end Go.Proofs.YtkdnbnkbnegckaaGreat

