/- Functions, lifted: what the program comes to by them. -/
import Derived.Test.YtkdnbnkbnegckaaGreatLwA
namespace Go.Proofs.YtkdnbnkbnegckaaGreat
open Go.RowKit
set_option maxRecDepth 100000
set_option linter.unusedVariables false
noncomputable def M_ref15_Code (N : Nat) (l_0 : LC) (l_1 : LC) : Option (Bool × Unit) :=
 cnd (notB (eqI (vlen (eC l_0)) (vlen (eC l_1))))
  (some (false, ()))
  (qS (eC l_0) <|
  qS (eC l_1) <|
  iter (fun (d1 : (Int × Unit)) again2 =>
   cnd (ltI d1.1 (vlen (eC l_0)))
    (chk (leI 0 d1.1) <|
    getE tC (eC l_0) (natI d1.1) <| fun p3 =>
    chk (leI 0 d1.1) <|
    getE tC (eC l_1) (natI d1.1) <| fun p4 =>
    cnd (notB (eqL [p3.1, p3.2] [p4.1, p4.2]))
     (some (false, ()))
     (qS (eC l_0) <|
     qS (eC l_1) <|
     again2 ((wrp .i64 (addI d1.1 1)), ())))
    (some (true, ()))) N (0, ()))
noncomputable def q_ref15_Code : Lift := ⟨tyX, look2 .todo (α := LoopAs) (.n 46 [(4, (.as ⟨[], [], (.one, [.fix]) :: (.one, [.fix]) :: (.one, [.junk]) :: (.one, [.junk]) :: (.one, [.junk]) :: (.one, [.hole tI]) :: rp 20 (.one, [.junk]) ([])⟩))] .o .o), [], bsX⟩
theorem u_ref15_Code {N : Nat} {a0 : LC} {a1 : LC} {q : (Bool × Unit)} (h : M_ref15_Code N a0 a1 = some q) : S_ref15_Code a0 a1 = some q :=
 Sof_of (Q := q_ref15_Code) (N := N) (n := 3) (f := 46) (tin := i_ref15_Code) (tout := o_ref15_Code) (d := (a0, (a1, ()))) all0 bs_ok (by kernel_rfl) (by kernel_rfl) (by kernel_rfl) (Eq.trans (b := M_ref15_Code N a0 a1) (by kernel_rfl) h)

noncomputable def M_ref04_Ints (N : Nat) (l_0 : LI) (l_1 : LI) : Option (Bool × Unit) :=
 cnd (notB (eqI (vlen (eI l_0)) (vlen (eI l_1))))
  (some (false, ()))
  (qS (eI l_0) <|
  qS (eI l_1) <|
  iter (fun (d1 : (Int × Unit)) again2 =>
   cnd (ltI d1.1 (vlen (eI l_0)))
    (chk (leI 0 d1.1) <|
    getE tI (eI l_0) (natI d1.1) <| fun n3 =>
    chk (leI 0 d1.1) <|
    getE tI (eI l_1) (natI d1.1) <| fun n4 =>
    cnd (notB (eqI n3 n4))
     (some (false, ()))
     (qS (eI l_0) <|
     qS (eI l_1) <|
     again2 ((wrp .i64 (addI d1.1 1)), ())))
    (some (true, ()))) N (0, ()))
noncomputable def q_ref04_Ints : Lift := ⟨tyX, look2 .todo (α := LoopAs) (.n 47 [(4, (.as ⟨[], [], (.one, [.fix]) :: (.one, [.fix]) :: (.one, [.junk]) :: (.one, [.junk]) :: (.one, [.junk]) :: (.one, [.hole tI]) :: rp 20 (.one, [.junk]) ([])⟩))] .o .o), [], bsX⟩
theorem u_ref04_Ints {N : Nat} {a0 : LI} {a1 : LI} {q : (Bool × Unit)} (h : M_ref04_Ints N a0 a1 = some q) : S_ref04_Ints a0 a1 = some q :=
 Sof_of (Q := q_ref04_Ints) (N := N) (n := 3) (f := 47) (tin := i_ref04_Ints) (tout := o_ref04_Ints) (d := (a0, (a1, ()))) all0 bs_ok (by kernel_rfl) (by kernel_rfl) (by kernel_rfl) (Eq.trans (b := M_ref04_Ints N a0 a1) (by kernel_rfl) h)

noncomputable def M_ref13_Same (N : Nat) (l_0 : LN) (l_1 : LN) : Option (Bool × Unit) :=
 cnd (notB (eqI (vlen (eN l_0)) (vlen (eN l_1))))
  (some (false, ()))
  (qS (eN l_0) <|
  qS (eN l_1) <|
  iter (fun (d1 : (Int × Unit)) again2 =>
   cnd (ltI d1.1 (vlen (eN l_0)))
    (chk (leI 0 d1.1) <|
    getE tN (eN l_0) (natI d1.1) <| fun p3 =>
    chk (leI 0 d1.1) <|
    getE tN (eN l_1) (natI d1.1) <| fun p4 =>
    cnd (notB (eqL [p3.1, p3.2.1, p3.2.2.1, p3.2.2.2.1, p3.2.2.2.2.1, p3.2.2.2.2.2.1, p3.2.2.2.2.2.2] [p4.1, p4.2.1, p4.2.2.1, p4.2.2.2.1, p4.2.2.2.2.1, p4.2.2.2.2.2.1, p4.2.2.2.2.2.2]))
     (some (false, ()))
     (qS (eN l_0) <|
     qS (eN l_1) <|
     again2 ((wrp .i64 (addI d1.1 1)), ())))
    (some (true, ()))) N (0, ()))
noncomputable def q_ref13_Same : Lift := ⟨tyX, look2 .todo (α := LoopAs) (.n 48 [(4, (.as ⟨[], [], (.one, [.fix]) :: (.one, [.fix]) :: (.one, [.junk]) :: (.one, [.junk]) :: (.one, [.junk]) :: (.one, [.hole tI]) :: rp 20 (.one, [.junk]) ([])⟩))] .o .o), [], bsX⟩
theorem u_ref13_Same {N : Nat} {a0 : LN} {a1 : LN} {q : (Bool × Unit)} (h : M_ref13_Same N a0 a1 = some q) : S_ref13_Same a0 a1 = some q :=
 Sof_of (Q := q_ref13_Same) (N := N) (n := 3) (f := 48) (tin := i_ref13_Same) (tout := o_ref13_Same) (d := (a0, (a1, ()))) all0 bs_ok (by kernel_rfl) (by kernel_rfl) (by kernel_rfl) (Eq.trans (b := M_ref13_Same N a0 a1) (by kernel_rfl) h)

noncomputable def M_ref14_Same (N : Nat) (l_0 : LS) (l_1 : LS) : Option (Bool × Unit) :=
 cnd (notB (eqI (vlen (eS l_0)) (vlen (eS l_1))))
  (some (false, ()))
  (qS (eS l_0) <|
  qS (eS l_1) <|
  iter (fun (d1 : (Int × Unit)) again2 =>
   cnd (ltI d1.1 (vlen (eS l_0)))
    (chk (leI 0 d1.1) <|
    getE tS (eS l_0) (natI d1.1) <| fun p3 =>
    chk (leI 0 d1.1) <|
    getE tS (eS l_1) (natI d1.1) <| fun p4 =>
    cnd (notB (eqL [p3.1, p3.2.1, p3.2.2.1, p3.2.2.2] [p4.1, p4.2.1, p4.2.2.1, p4.2.2.2]))
     (some (false, ()))
     (qS (eS l_0) <|
     qS (eS l_1) <|
     again2 ((wrp .i64 (addI d1.1 1)), ())))
    (some (true, ()))) N (0, ()))
noncomputable def q_ref14_Same : Lift := ⟨tyX, look2 .todo (α := LoopAs) (.n 49 [(4, (.as ⟨[], [], (.one, [.fix]) :: (.one, [.fix]) :: (.one, [.junk]) :: (.one, [.junk]) :: (.one, [.junk]) :: (.one, [.hole tI]) :: rp 20 (.one, [.junk]) ([])⟩))] .o .o), [], bsX⟩
theorem u_ref14_Same {N : Nat} {a0 : LS} {a1 : LS} {q : (Bool × Unit)} (h : M_ref14_Same N a0 a1 = some q) : S_ref14_Same a0 a1 = some q :=
 Sof_of (Q := q_ref14_Same) (N := N) (n := 3) (f := 49) (tin := i_ref14_Same) (tout := o_ref14_Same) (d := (a0, (a1, ()))) all0 bs_ok (by kernel_rfl) (by kernel_rfl) (by kernel_rfl) (Eq.trans (b := M_ref14_Same N a0 a1) (by kernel_rfl) h)

noncomputable def M_ref15_Same (N : Nat) (l_0 : LB) (b_1 : Bool) (l_2 : LI) (l_3 : LI) (l_4 : LI) (l_5 : LI) (l_6 : LC) (l_7 : LI) (l_8 : LN) (l_9 : LI) (l_10 : LS) (l_11 : LB) (b_12 : Bool) (l_13 : LI) (l_14 : LI) (l_15 : LI) (l_16 : LI) (l_17 : LC) (l_18 : LI) (l_19 : LN) (l_20 : LI) (l_21 : LS) : Option (Bool × Unit) :=
 joinK (δ := Unit) (cnd (notB (seq2 (ByteArray.mk (Array.mk l_0)) (ByteArray.mk (Array.mk l_11))))
   (rightK <| some (false, ()))
   (cnd (notB (eqB b_1 b_12))
    (rightK <| some (false, ()))
    (dI l_2 <| fun l1 =>
    dI l_13 <| fun l2 =>
    bnd (S_ref11_Same l1 l2) <| fun p3 =>
    cnd (notB p3.1)
     (rightK <| some (false, ()))
     (dI l_3 <| fun l4 =>
     dI l_14 <| fun l5 =>
     bnd (S_ref11_Same l4 l5) <| fun p6 =>
     cnd (notB p6.1)
      (rightK <| some (false, ()))
      (dI l_4 <| fun l7 =>
      dI l_15 <| fun l8 =>
      bnd (S_ref11_Same l7 l8) <| fun p9 =>
      cnd (notB p9.1)
       (rightK <| some (false, ()))
       (dI l_5 <| fun l10 =>
       dI l_16 <| fun l11 =>
       bnd (S_ref11_Same l10 l11) <| fun p12 =>
       cnd (notB p12.1)
        (rightK <| some (false, ()))
        (qB (ByteArray.mk (Array.mk l_0)) <|
        qO b_1 <|
        qS (eI l_2) <|
        qS (eI l_3) <|
        qS (eI l_4) <|
        qS (eI l_5) <|
        qS (eC l_6) <|
        qS (eI l_7) <|
        qS (eN l_8) <|
        qS (eI l_9) <|
        qS (eS l_10) <|
        qB (ByteArray.mk (Array.mk l_11)) <|
        qO b_12 <|
        qS (eI l_13) <|
        qS (eI l_14) <|
        qS (eI l_15) <|
        qS (eI l_16) <|
        qS (eC l_17) <|
        qS (eI l_18) <|
        qS (eN l_19) <|
        qS (eI l_20) <|
        qS (eS l_21) <|
        leftK ())))))))
 <| fun x13 =>
 dC l_6 <| fun l14 =>
 dC l_17 <| fun l15 =>
 bnd (S_ref15_Code l14 l15) <| fun p16 =>
 cnd p16.1
  (dI l_7 <| fun l17 =>
  dI l_18 <| fun l18 =>
  bnd (S_ref04_Ints l17 l18) <| fun p19 =>
  cnd p19.1
   (dN l_8 <| fun l20 =>
   dN l_19 <| fun l21 =>
   bnd (S_ref13_Same l20 l21) <| fun p22 =>
   cnd p22.1
    (dI l_9 <| fun l23 =>
    dI l_20 <| fun l24 =>
    bnd (S_ref04_Ints l23 l24) <| fun p25 =>
    cnd p25.1
     (dS l_10 <| fun l26 =>
     dS l_21 <| fun l27 =>
     bnd (S_ref14_Same l26 l27) <| fun p28 =>
     some (p28.1, ()))
     (some (false, ())))
    (some (false, ())))
   (some (false, ())))
  (some (false, ()))
noncomputable def q_ref15_Same : Lift := ⟨tyX, look2 .todo (α := LoopAs) (.n 12 [(1012292, (.as ⟨[], [[.fix, .fix, .fix, .fix, .fix, .fix, .fix, .fix, .fix, .fix, .fix], [.fix, .fix, .fix, .fix, .fix, .fix, .fix, .fix, .fix, .fix, .fix]], (.one, [.junk]) :: (.one, [.junk]) :: (.one, [.stat (.ptr 0 0)]) :: (.one, [.stat (.ptr 1 0)]) :: rp 78 (.one, [.junk]) ([])⟩))] .o .o), [c_ref11_Same, c_ref15_Code, c_ref04_Ints, c_ref13_Same, c_ref14_Same], bsX⟩
theorem u_ref15_Same {N : Nat} {a0 : LB} {a1 : Bool} {a2 : LI} {a3 : LI} {a4 : LI} {a5 : LI} {a6 : LC} {a7 : LI} {a8 : LN} {a9 : LI} {a10 : LS} {a11 : LB} {a12 : Bool} {a13 : LI} {a14 : LI} {a15 : LI} {a16 : LI} {a17 : LC} {a18 : LI} {a19 : LN} {a20 : LI} {a21 : LS} {q : (Bool × Unit)} (h : M_ref15_Same N a0 a1 a2 a3 a4 a5 a6 a7 a8 a9 a10 a11 a12 a13 a14 a15 a16 a17 a18 a19 a20 a21 = some q) : S_ref15_Same a0 a1 a2 a3 a4 a5 a6 a7 a8 a9 a10 a11 a12 a13 a14 a15 a16 a17 a18 a19 a20 a21 = some q :=
 Sof_of (Q := q_ref15_Same) (N := N) (n := 3) (f := 12) (tin := i_ref15_Same) (tout := o_ref15_Same) (d := (a0, (a1, (a2, (a3, (a4, (a5, (a6, (a7, (a8, (a9, (a10, (a11, (a12, (a13, (a14, (a15, (a16, (a17, (a18, (a19, (a20, (a21, ()))))))))))))))))))))))) (all1 k_ref11_Same (all1 k_ref15_Code (all1 k_ref04_Ints (all1 k_ref13_Same (all1 k_ref14_Same all0))))) bs_ok (by kernel_rfl) (by kernel_rfl) (by kernel_rfl) (Eq.trans (b := M_ref15_Same N a0 a1 a2 a3 a4 a5 a6 a7 a8 a9 a10 a11 a12 a13 a14 a15 a16 a17 a18 a19 a20 a21) (by kernel_rfl) h)

noncomputable def M_cursor_Cursor_Left (N : Nat) (l_0 : LB) (b_1 : Bool) (n_2 : Int) : Option (LB × (Bool × (Int × (Int × Unit)))) :=
 dY l_0 <| fun l1 =>
 bnd (S_cursor_Cursor_Err l1 b_1 n_2) <| fun p2 =>
 cnd (notB (eqI p2.2.2.2.1 0))
  (dY p2.1 <| fun l3 =>
  some (l3, (p2.2.1, (p2.2.2.1, (0, ())))))
  (dY p2.1 <| fun l4 =>
  some (l4, (p2.2.1, (p2.2.2.1, ((vlen (eY p2.1)), ())))))
noncomputable def q_cursor_Cursor_Left : Lift := ⟨tyX, look2 .todo (α := LoopAs) (.o), [c_cursor_Cursor_Err], bsX⟩
theorem u_cursor_Cursor_Left {N : Nat} {a0 : LB} {a1 : Bool} {a2 : Int} {q : (LB × (Bool × (Int × (Int × Unit))))} (h : M_cursor_Cursor_Left N a0 a1 a2 = some q) : S_cursor_Cursor_Left a0 a1 a2 = some q :=
 Sof_of (Q := q_cursor_Cursor_Left) (N := N) (n := 3) (f := 15) (tin := i_cursor_Cursor_Left) (tout := o_cursor_Cursor_Left) (d := (a0, (a1, (a2, ())))) (all1 k_cursor_Cursor_Err all0) bs_ok (by kernel_rfl) (by kernel_rfl) (by kernel_rfl) (Eq.trans (b := M_cursor_Cursor_Left N a0 a1 a2) (by kernel_rfl) h)

noncomputable def M_ref02_Left (N : Nat) (l_0 : LB) (n_1 : Int) : Option (Int × Unit) :=
 cnd (notB (eqI n_1 0))
  (some (0, ()))
  (some ((vlen (eY l_0)), ()))
noncomputable def q_ref02_Left : Lift := ⟨tyX, look2 .todo (α := LoopAs) (.o), [], bsX⟩
theorem u_ref02_Left {N : Nat} {a0 : LB} {a1 : Int} {q : (Int × Unit)} (h : M_ref02_Left N a0 a1 = some q) : S_ref02_Left a0 a1 = some q :=
 Sof_of (Q := q_ref02_Left) (N := N) (n := 3) (f := 16) (tin := i_ref02_Left) (tout := o_ref02_Left) (d := (a0, (a1, ()))) all0 bs_ok (by kernel_rfl) (by kernel_rfl) (by kernel_rfl) (Eq.trans (b := M_ref02_Left N a0 a1) (by kernel_rfl) h)

noncomputable def M_fnc_Can_1 (N : Nat) (n_0 : Int) (n_1 : Int) : Option (Bool × Unit) :=
 bnd (S_instr_Right n_0 n_1) <| fun p1 =>
 some ((notB p1.1), ())
noncomputable def q_fnc_Can_1 : Lift := ⟨tyX, look2 .todo (α := LoopAs) (.o), [c_instr_Right], bsX⟩
theorem u_fnc_Can_1 {N : Nat} {a0 : Int} {a1 : Int} {q : (Bool × Unit)} (h : M_fnc_Can_1 N a0 a1 = some q) : S_fnc_Can_1 a0 a1 = some q :=
 Sof_of (Q := q_fnc_Can_1) (N := N) (n := 3) (f := 102) (tin := i_fnc_Can_1) (tout := o_fnc_Can_1) (d := (a0, (a1, ()))) (all1 k_instr_Right all0) bs_ok (by kernel_rfl) (by kernel_rfl) (by kernel_rfl) (Eq.trans (b := M_fnc_Can_1 N a0 a1) (by kernel_rfl) h)

noncomputable def M_sig_Right_1 (N : Nat) (n_0 : Int) : Option (Bool × Unit) :=
 bnd (S_sig_May n_0) <| fun p1 =>
 some ((notB p1.1), ())
noncomputable def q_sig_Right_1 : Lift := ⟨tyX, look2 .todo (α := LoopAs) (.o), [c_sig_May], bsX⟩
theorem u_sig_Right_1 {N : Nat} {a0 : Int} {q : (Bool × Unit)} (h : M_sig_Right_1 N a0 = some q) : S_sig_Right_1 a0 = some q :=
 Sof_of (Q := q_sig_Right_1) (N := N) (n := 3) (f := 156) (tin := i_sig_Right_1) (tout := o_sig_Right_1) (d := (a0, ())) (all1 k_sig_May all0) bs_ok (by kernel_rfl) (by kernel_rfl) (by kernel_rfl) (Eq.trans (b := M_sig_Right_1 N a0) (by kernel_rfl) h)

noncomputable def M_sig_Right (N : Nat) (l_0 : LI) (n_1 : Int) : Option (Bool × Unit) :=
 cnd (leI (vlen (eI l_0)) n_1)
  (qS (eI l_0) <|
  qI (vlen (eI l_0)) <|
  iter (fun (d1 : (Int × Unit)) again2 =>
   cnd (ltI d1.1 (vlen (eI l_0)))
    (chk (leI 0 d1.1) <|
    getE tI (eI l_0) (natI d1.1) <| fun n3 =>
    bnd (S_sig_Right_1 n3) <| fun p4 =>
    cnd p4.1
     (some ((notB (leI 0 d1.1)), ()))
     (qS (eI l_0) <|
     qI (vlen (eI l_0)) <|
     again2 ((wrp .i64 (addI d1.1 1)), ())))
    (some (true, ()))) N (0, ()))
  (some (false, ()))
noncomputable def q_sig_Right : Lift := ⟨tyX, look2 .todo (α := LoopAs) (.n 170 [(2, (.as ⟨[], [], (.one, [.fix]) :: (.one, [.stat (.clo false 156 [])]) :: rp 5 (.one, [.junk]) ((.one, [.fix]) :: (.one, [.hole tI]) :: rp 10 (.one, [.junk]) ([]))⟩))] .o .o), [c_sig_Right_1], bsX⟩
theorem u_sig_Right {N : Nat} {a0 : LI} {a1 : Int} {q : (Bool × Unit)} (h : M_sig_Right N a0 a1 = some q) : S_sig_Right a0 a1 = some q :=
 Sof_of (Q := q_sig_Right) (N := N) (n := 3) (f := 117) (tin := i_sig_Right) (tout := o_sig_Right) (d := (a0, (a1, ()))) (all1 k_sig_Right_1 all0) bs_ok (by kernel_rfl) (by kernel_rfl) (by kernel_rfl) (Eq.trans (b := M_sig_Right N a0 a1) (by kernel_rfl) h)

noncomputable def M_fnc_types (N : Nat) (l_0 : LB) (b_1 : Bool) (l_2 : LI) (l_3 : LI) (l_4 : LI) (l_5 : LI) (l_6 : LC) (l_7 : LI) (l_8 : LN) (l_9 : LI) (l_10 : LS) : Option (Bool × Unit) :=
 joinK (δ := (Bool × Unit)) (dI l_3 <| fun l1 =>
  bnd (S_sig_Right l1 8) <| fun p2 =>
  cnd p2.1
   (dI l_4 <| fun l3 =>
   bnd (S_sig_Right l3 4) <| fun p4 =>
   cnd p4.1
    (dI l_5 <| fun l5 =>
    bnd (S_sig_Right l5 256) <| fun p6 =>
    qB (ByteArray.mk (Array.mk l_0)) <|
    qO b_1 <|
    qS (eI l_2) <|
    qS (eI l_3) <|
    qS (eI l_4) <|
    qS (eI l_5) <|
    qS (eC l_6) <|
    qS (eI l_7) <|
    qS (eN l_8) <|
    qS (eI l_9) <|
    qS (eS l_10) <|
    leftK (p6.1, ()))
    (qB (ByteArray.mk (Array.mk l_0)) <|
    qO b_1 <|
    qS (eI l_2) <|
    qS (eI l_3) <|
    qS (eI l_4) <|
    qS (eI l_5) <|
    qS (eC l_6) <|
    qS (eI l_7) <|
    qS (eN l_8) <|
    qS (eI l_9) <|
    qS (eS l_10) <|
    leftK (false, ())))
   (qB (ByteArray.mk (Array.mk l_0)) <|
   qO b_1 <|
   qS (eI l_2) <|
   qS (eI l_3) <|
   qS (eI l_4) <|
   qS (eI l_5) <|
   qS (eC l_6) <|
   qS (eI l_7) <|
   qS (eN l_8) <|
   qS (eI l_9) <|
   qS (eS l_10) <|
   leftK (false, ())))
 <| fun p7 =>
 cnd p7.1
  (dI l_2 <| fun l8 =>
  bnd (S_sig_Right l8 4) <| fun p9 =>
  cnd p9.1
   (cnd b_1
    (some (true, ()))
    (some ((eqI (vlen (eI l_2)) 0), ())))
   (some (false, ())))
  (some (false, ()))
noncomputable def q_fnc_types : Lift := ⟨tyX, look2 .todo (α := LoopAs) (.n 104 [(1008195, (.as ⟨[], [[.fix, .fix, .fix, .fix, .fix, .fix, .fix, .fix, .fix, .fix, .fix]], (.one, [.junk]) :: (.one, [.stat (.ptr 0 0)]) :: (.one, [.junk]) :: (.one, [.hole .bool]) :: rp 29 (.one, [.junk]) ([])⟩))] .o .o), [c_sig_Right], bsX⟩
theorem u_fnc_types {N : Nat} {a0 : LB} {a1 : Bool} {a2 : LI} {a3 : LI} {a4 : LI} {a5 : LI} {a6 : LC} {a7 : LI} {a8 : LN} {a9 : LI} {a10 : LS} {q : (Bool × Unit)} (h : M_fnc_types N a0 a1 a2 a3 a4 a5 a6 a7 a8 a9 a10 = some q) : S_fnc_types a0 a1 a2 a3 a4 a5 a6 a7 a8 a9 a10 = some q :=
 Sof_of (Q := q_fnc_types) (N := N) (n := 3) (f := 104) (tin := i_fnc_types) (tout := o_fnc_types) (d := (a0, (a1, (a2, (a3, (a4, (a5, (a6, (a7, (a8, (a9, (a10, ())))))))))))) (all1 k_sig_Right all0) bs_ok (by kernel_rfl) (by kernel_rfl) (by kernel_rfl) (Eq.trans (b := M_fnc_types N a0 a1 a2 a3 a4 a5 a6 a7 a8 a9 a10) (by kernel_rfl) h)

noncomputable def M_lines_Right_1 (N : Nat) (n_0 : Int) : Option (Bool × Unit) :=
 cnd (ltI n_0 0)
  (some (true, ()))
  (some ((ltI 65535 n_0), ()))
noncomputable def q_lines_Right_1 : Lift := ⟨tyX, look2 .todo (α := LoopAs) (.o), [], bsX⟩
theorem u_lines_Right_1 {N : Nat} {a0 : Int} {q : (Bool × Unit)} (h : M_lines_Right_1 N a0 = some q) : S_lines_Right_1 a0 = some q :=
 Sof_of (Q := q_lines_Right_1) (N := N) (n := 3) (f := 151) (tin := i_lines_Right_1) (tout := o_lines_Right_1) (d := (a0, ())) all0 bs_ok (by kernel_rfl) (by kernel_rfl) (by kernel_rfl) (Eq.trans (b := M_lines_Right_1 N a0) (by kernel_rfl) h)

noncomputable def M_slices_IndexFunc_int_int_t (N : Nat) (l_0 : LB) (b_1 : Bool) (l_2 : LI) (l_3 : LI) (l_4 : LI) (l_5 : LI) (l_6 : LC) (l_7 : LI) (l_8 : LN) (l_9 : LI) (l_10 : LS) (l_11 : LI) : Option (LB × (Bool × (LI × (LI × (LI × (LI × (LC × (LI × (LN × (LI × (LS × (Int × Unit)))))))))))) :=
 dI l_2 <| fun l1 =>
 dI l_3 <| fun l2 =>
 dI l_4 <| fun l3 =>
 dI l_5 <| fun l4 =>
 dC l_6 <| fun l5 =>
 dI l_7 <| fun l6 =>
 dN l_8 <| fun l7 =>
 dI l_9 <| fun l8 =>
 dS l_10 <| fun l9 =>
 qS (eI l_11) <|
 qI (vlen (eI l_11)) <|
 iter (fun (d10 : (LB × (Bool × (LI × (LI × (LI × (LI × (LC × (LI × (LN × (LI × (LS × (Int × Unit))))))))))))) again11 =>
  cnd (ltI d10.2.2.2.2.2.2.2.2.2.2.2.1 (vlen (eI l_11)))
   (chk (leI 0 d10.2.2.2.2.2.2.2.2.2.2.2.1) <|
   getE tI (eI l_11) (natI d10.2.2.2.2.2.2.2.2.2.2.2.1) <| fun n12 =>
   dI d10.2.2.1 <| fun l13 =>
   dI d10.2.2.2.1 <| fun l14 =>
   dI d10.2.2.2.2.1 <| fun l15 =>
   dI d10.2.2.2.2.2.1 <| fun l16 =>
   dC d10.2.2.2.2.2.2.1 <| fun l17 =>
   dI d10.2.2.2.2.2.2.2.1 <| fun l18 =>
   dN d10.2.2.2.2.2.2.2.2.1 <| fun l19 =>
   dI d10.2.2.2.2.2.2.2.2.2.1 <| fun l20 =>
   dS d10.2.2.2.2.2.2.2.2.2.2.1 <| fun l21 =>
   bnd (S_fnc_tables_1 d10.1 d10.2.1 l13 l14 l15 l16 l17 l18 l19 l20 l21 n12) <| fun p22 =>
   cnd p22.2.2.2.2.2.2.2.2.2.2.2.1
    (dI p22.2.2.1 <| fun l23 =>
    dI p22.2.2.2.1 <| fun l24 =>
    dI p22.2.2.2.2.1 <| fun l25 =>
    dI p22.2.2.2.2.2.1 <| fun l26 =>
    dC p22.2.2.2.2.2.2.1 <| fun l27 =>
    dI p22.2.2.2.2.2.2.2.1 <| fun l28 =>
    dN p22.2.2.2.2.2.2.2.2.1 <| fun l29 =>
    dI p22.2.2.2.2.2.2.2.2.2.1 <| fun l30 =>
    dS p22.2.2.2.2.2.2.2.2.2.2.1 <| fun l31 =>
    some (p22.1, (p22.2.1, (l23, (l24, (l25, (l26, (l27, (l28, (l29, (l30, (l31, (d10.2.2.2.2.2.2.2.2.2.2.2.1, ())))))))))))))
    (dI p22.2.2.1 <| fun l32 =>
    dI p22.2.2.2.1 <| fun l33 =>
    dI p22.2.2.2.2.1 <| fun l34 =>
    dI p22.2.2.2.2.2.1 <| fun l35 =>
    dC p22.2.2.2.2.2.2.1 <| fun l36 =>
    dI p22.2.2.2.2.2.2.2.1 <| fun l37 =>
    dN p22.2.2.2.2.2.2.2.2.1 <| fun l38 =>
    dI p22.2.2.2.2.2.2.2.2.2.1 <| fun l39 =>
    dS p22.2.2.2.2.2.2.2.2.2.2.1 <| fun l40 =>
    qS (eI l_11) <|
    qI (vlen (eI l_11)) <|
    again11 (p22.1, (p22.2.1, (l32, (l33, (l34, (l35, (l36, (l37, (l38, (l39, (l40, ((wrp .i64 (addI d10.2.2.2.2.2.2.2.2.2.2.2.1 1)), ()))))))))))))))
   (dI d10.2.2.1 <| fun l41 =>
   dI d10.2.2.2.1 <| fun l42 =>
   dI d10.2.2.2.2.1 <| fun l43 =>
   dI d10.2.2.2.2.2.1 <| fun l44 =>
   dC d10.2.2.2.2.2.2.1 <| fun l45 =>
   dI d10.2.2.2.2.2.2.2.1 <| fun l46 =>
   dN d10.2.2.2.2.2.2.2.2.1 <| fun l47 =>
   dI d10.2.2.2.2.2.2.2.2.2.1 <| fun l48 =>
   dS d10.2.2.2.2.2.2.2.2.2.2.1 <| fun l49 =>
   some (d10.1, (d10.2.1, (l41, (l42, (l43, (l44, (l45, (l46, (l47, (l48, (l49, ((-1), ())))))))))))))) N (l_0, (b_1, (l1, (l2, (l3, (l4, (l5, (l6, (l7, (l8, (l9, (0, ()))))))))))))
noncomputable def q_slices_IndexFunc_int_int_t : Lift := ⟨tyX, look2 .todo (α := LoopAs) (.n 169 [(2, (.as ⟨[], [[.hole .str, .hole .bool, .hole (.sl 1 tI), .hole (.sl 1 tI), .hole (.sl 1 tI), .hole (.sl 1 tI), .hole (.sl 2 tC), .hole (.sl 1 tI), .hole (.sl 7 tN), .hole (.sl 1 tI), .hole (.sl 4 tS)]], (.one, [.fix]) :: (.one, [.stat (.clo false 153 [0])]) :: rp 5 (.one, [.junk]) ((.one, [.fix]) :: (.one, [.hole tI]) :: rp 10 (.one, [.junk]) ([]))⟩))] .o .o), [c_fnc_tables_1], bsX⟩
theorem u_slices_IndexFunc_int_int_t {N : Nat} {a0 : LB} {a1 : Bool} {a2 : LI} {a3 : LI} {a4 : LI} {a5 : LI} {a6 : LC} {a7 : LI} {a8 : LN} {a9 : LI} {a10 : LS} {a11 : LI} {q : (LB × (Bool × (LI × (LI × (LI × (LI × (LC × (LI × (LN × (LI × (LS × (Int × Unit))))))))))))} (h : M_slices_IndexFunc_int_int_t N a0 a1 a2 a3 a4 a5 a6 a7 a8 a9 a10 a11 = some q) : S_slices_IndexFunc_int_int_t a0 a1 a2 a3 a4 a5 a6 a7 a8 a9 a10 a11 = some q :=
 Sof_of (Q := q_slices_IndexFunc_int_int_t) (N := N) (n := 3) (f := 169) (tin := i_slices_IndexFunc_int_int_t) (tout := o_slices_IndexFunc_int_int_t) (d := (a0, (a1, (a2, (a3, (a4, (a5, (a6, (a7, (a8, (a9, (a10, (a11, ()))))))))))))) (all1 k_fnc_tables_1 all0) bs_ok (by kernel_rfl) (by kernel_rfl) (by kernel_rfl) (Eq.trans (b := M_slices_IndexFunc_int_int_t N a0 a1 a2 a3 a4 a5 a6 a7 a8 a9 a10 a11) (by kernel_rfl) h)

noncomputable def M_slices_ContainsFunc_int_int_t (N : Nat) (l_0 : LB) (b_1 : Bool) (l_2 : LI) (l_3 : LI) (l_4 : LI) (l_5 : LI) (l_6 : LC) (l_7 : LI) (l_8 : LN) (l_9 : LI) (l_10 : LS) (l_11 : LI) : Option (LB × (Bool × (LI × (LI × (LI × (LI × (LC × (LI × (LN × (LI × (LS × (Bool × Unit)))))))))))) :=
 dI l_2 <| fun l1 =>
 dI l_3 <| fun l2 =>
 dI l_4 <| fun l3 =>
 dI l_5 <| fun l4 =>
 dC l_6 <| fun l5 =>
 dI l_7 <| fun l6 =>
 dN l_8 <| fun l7 =>
 dI l_9 <| fun l8 =>
 dS l_10 <| fun l9 =>
 dI l_11 <| fun l10 =>
 bnd (S_slices_IndexFunc_int_int_t l_0 b_1 l1 l2 l3 l4 l5 l6 l7 l8 l9 l10) <| fun p11 =>
 dI p11.2.2.1 <| fun l12 =>
 dI p11.2.2.2.1 <| fun l13 =>
 dI p11.2.2.2.2.1 <| fun l14 =>
 dI p11.2.2.2.2.2.1 <| fun l15 =>
 dC p11.2.2.2.2.2.2.1 <| fun l16 =>
 dI p11.2.2.2.2.2.2.2.1 <| fun l17 =>
 dN p11.2.2.2.2.2.2.2.2.1 <| fun l18 =>
 dI p11.2.2.2.2.2.2.2.2.2.1 <| fun l19 =>
 dS p11.2.2.2.2.2.2.2.2.2.2.1 <| fun l20 =>
 some (p11.1, (p11.2.1, (l12, (l13, (l14, (l15, (l16, (l17, (l18, (l19, (l20, ((leI 0 p11.2.2.2.2.2.2.2.2.2.2.2.1), ()))))))))))))
noncomputable def q_slices_ContainsFunc_int_int_t : Lift := ⟨tyX, look2 .todo (α := LoopAs) (.o), [c_slices_IndexFunc_int_int_t], bsX⟩
theorem u_slices_ContainsFunc_int_int_t {N : Nat} {a0 : LB} {a1 : Bool} {a2 : LI} {a3 : LI} {a4 : LI} {a5 : LI} {a6 : LC} {a7 : LI} {a8 : LN} {a9 : LI} {a10 : LS} {a11 : LI} {q : (LB × (Bool × (LI × (LI × (LI × (LI × (LC × (LI × (LN × (LI × (LS × (Bool × Unit))))))))))))} (h : M_slices_ContainsFunc_int_int_t N a0 a1 a2 a3 a4 a5 a6 a7 a8 a9 a10 a11 = some q) : S_slices_ContainsFunc_int_int_t a0 a1 a2 a3 a4 a5 a6 a7 a8 a9 a10 a11 = some q :=
 Sof_of (Q := q_slices_ContainsFunc_int_int_t) (N := N) (n := 3) (f := 152) (tin := i_slices_ContainsFunc_int_int_t) (tout := o_slices_ContainsFunc_int_int_t) (d := (a0, (a1, (a2, (a3, (a4, (a5, (a6, (a7, (a8, (a9, (a10, (a11, ()))))))))))))) (all1 k_slices_IndexFunc_int_int_t all0) bs_ok (by kernel_rfl) (by kernel_rfl) (by kernel_rfl) (Eq.trans (b := M_slices_ContainsFunc_int_int_t N a0 a1 a2 a3 a4 a5 a6 a7 a8 a9 a10 a11) (by kernel_rfl) h)

noncomputable def M_lines_Right (N : Nat) (l_0 : LI) : Option (Bool × Unit) :=
 cnd (leI (vlen (eI l_0)) 2000)
  (qS (eI l_0) <|
  qI (vlen (eI l_0)) <|
  iter (fun (d1 : (Int × Unit)) again2 =>
   cnd (ltI d1.1 (vlen (eI l_0)))
    (chk (leI 0 d1.1) <|
    getE tI (eI l_0) (natI d1.1) <| fun n3 =>
    bnd (S_lines_Right_1 n3) <| fun p4 =>
    cnd p4.1
     (some ((notB (leI 0 d1.1)), ()))
     (qS (eI l_0) <|
     qI (vlen (eI l_0)) <|
     again2 ((wrp .i64 (addI d1.1 1)), ())))
    (some (true, ()))) N (0, ()))
  (some (false, ()))
noncomputable def q_lines_Right : Lift := ⟨tyX, look2 .todo (α := LoopAs) (.n 169 [(2, (.as ⟨[], [], (.one, [.fix]) :: (.one, [.stat (.clo false 151 [])]) :: rp 5 (.one, [.junk]) ((.one, [.fix]) :: (.one, [.hole tI]) :: rp 10 (.one, [.junk]) ([]))⟩))] .o .o), [c_lines_Right_1], bsX⟩
theorem u_lines_Right {N : Nat} {a0 : LI} {q : (Bool × Unit)} (h : M_lines_Right N a0 = some q) : S_lines_Right a0 = some q :=
 Sof_of (Q := q_lines_Right) (N := N) (n := 3) (f := 106) (tin := i_lines_Right) (tout := o_lines_Right) (d := (a0, ())) (all1 k_lines_Right_1 all0) bs_ok (by kernel_rfl) (by kernel_rfl) (by kernel_rfl) (Eq.trans (b := M_lines_Right N a0) (by kernel_rfl) h)

noncomputable def M_fnc_Bare (N : Nat) (l_0 : LB) (b_1 : Bool) (l_2 : LI) (l_3 : LI) (l_4 : LI) (l_5 : LI) (l_6 : LC) (l_7 : LI) (l_8 : LN) (l_9 : LI) (l_10 : LS) : Option (Bool × Unit) :=
 cnd (eqI (vlen (eN l_8)) 0)
  (cnd (eqI (vlen (eI l_9)) 0)
   (some ((eqI (vlen (eS l_10)) 0), ()))
   (some (false, ())))
  (some (false, ()))
noncomputable def q_fnc_Bare : Lift := ⟨tyX, look2 .todo (α := LoopAs) (.o), [], bsX⟩
theorem u_fnc_Bare {N : Nat} {a0 : LB} {a1 : Bool} {a2 : LI} {a3 : LI} {a4 : LI} {a5 : LI} {a6 : LC} {a7 : LI} {a8 : LN} {a9 : LI} {a10 : LS} {q : (Bool × Unit)} (h : M_fnc_Bare N a0 a1 a2 a3 a4 a5 a6 a7 a8 a9 a10 = some q) : S_fnc_Bare a0 a1 a2 a3 a4 a5 a6 a7 a8 a9 a10 = some q :=
 Sof_of (Q := q_fnc_Bare) (N := N) (n := 3) (f := 54) (tin := i_fnc_Bare) (tout := o_fnc_Bare) (d := (a0, (a1, (a2, (a3, (a4, (a5, (a6, (a7, (a8, (a9, (a10, ())))))))))))) all0 bs_ok (by kernel_rfl) (by kernel_rfl) (by kernel_rfl) (Eq.trans (b := M_fnc_Bare N a0 a1 a2 a3 a4 a5 a6 a7 a8 a9 a10) (by kernel_rfl) h)
end Go.Proofs.YtkdnbnkbnegckaaGreat
