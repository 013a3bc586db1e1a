/- Functions, lifted: what the program comes to by them. Functions, lifted: what the program comes to by them. -/
import Derived.Test.YtkdnbnkbnegckaaGreatLwA
namespace Go.Proofs.YtkdnbnkbnegckaaGreat
open Go.RowKit
set_option maxRecDepth 100000
set_option linter.unusedVariables false
noncomputable def M_cursor_Cursor_Left (N : Nat) (l_0 : LB) (b_1 : Bool) (n_2 : Int) : Option (LB × (Bool × (Int × (Int × Unit)))) :=
 dY l_0 <| fun l1 =>
 bnd (S_cursor_Cursor_Err l1 b_1 n_2) <| fun p2 =>
 cnd (notB (eqI p2.2.2.2.1 0))
  (dY p2.1 <| fun l3 =>
  some (l3, (p2.2.1, (p2.2.2.1, (0, ())))))
  (dY p2.1 <| fun l4 =>
  some (l4, (p2.2.1, (p2.2.2.1, ((vlen (eY p2.1)), ())))))
noncomputable def q_cursor_Cursor_Left : Lift := ⟨tyX, look2 .todo (α := LoopAs) (.o), [c_cursor_Cursor_Err], bsX⟩
theorem u_cursor_Cursor_Left {N : Nat} {a0 : LB} {a1 : Bool} {a2 : Int} {q : (LB × (Bool × (Int × (Int × Unit))))} (h : M_cursor_Cursor_Left N a0 a1 a2 = some q) : S_cursor_Cursor_Left a0 a1 a2 = some q :=
 Sof_of (Q := q_cursor_Cursor_Left) (N := N) (n := 3) (f := 15) (tin := i_cursor_Cursor_Left) (tout := o_cursor_Cursor_Left) (d := (a0, (a1, (a2, ())))) (all1 k_cursor_Cursor_Err all0) bs_ok (by kernel_rfl) (by kernel_rfl) (by kernel_rfl) (Eq.trans (b := M_cursor_Cursor_Left N a0 a1 a2) (by kernel_rfl) h)

noncomputable def M_ref02_Left (N : Nat) (l_0 : LB) (n_1 : Int) : Option (Int × Unit) :=
 cnd (notB (eqI n_1 0))
  (some (0, ()))
  (some ((vlen (eY l_0)), ()))
noncomputable def q_ref02_Left : Lift := ⟨tyX, look2 .todo (α := LoopAs) (.o), [], bsX⟩
theorem u_ref02_Left {N : Nat} {a0 : LB} {a1 : Int} {q : (Int × Unit)} (h : M_ref02_Left N a0 a1 = some q) : S_ref02_Left a0 a1 = some q :=
 Sof_of (Q := q_ref02_Left) (N := N) (n := 3) (f := 16) (tin := i_ref02_Left) (tout := o_ref02_Left) (d := (a0, (a1, ()))) all0 bs_ok (by kernel_rfl) (by kernel_rfl) (by kernel_rfl) (Eq.trans (b := M_ref02_Left N a0 a1) (by kernel_rfl) h)

noncomputable def M_fnc_Can_1 (N : Nat) (n_0 : Int) (n_1 : Int) : Option (Bool × Unit) :=
 bnd (S_instr_Right n_0 n_1) <| fun p1 =>
 some ((notB p1.1), ())
noncomputable def q_fnc_Can_1 : Lift := ⟨tyX, look2 .todo (α := LoopAs) (.o), [c_instr_Right], bsX⟩
theorem u_fnc_Can_1 {N : Nat} {a0 : Int} {a1 : Int} {q : (Bool × Unit)} (h : M_fnc_Can_1 N a0 a1 = some q) : S_fnc_Can_1 a0 a1 = some q :=
 Sof_of (Q := q_fnc_Can_1) (N := N) (n := 3) (f := 102) (tin := i_fnc_Can_1) (tout := o_fnc_Can_1) (d := (a0, (a1, ()))) (all1 k_instr_Right all0) bs_ok (by kernel_rfl) (by kernel_rfl) (by kernel_rfl) (Eq.trans (b := M_fnc_Can_1 N a0 a1) (by kernel_rfl) h)

noncomputable def M_sig_Right_1 (N : Nat) (n_0 : Int) : Option (Bool × Unit) :=
 bnd (S_sig_May n_0) <| fun p1 =>
 some ((notB p1.1), ())
noncomputable def q_sig_Right_1 : Lift := ⟨tyX, look2 .todo (α := LoopAs) (.o), [c_sig_May], bsX⟩
theorem u_sig_Right_1 {N : Nat} {a0 : Int} {q : (Bool × Unit)} (h : M_sig_Right_1 N a0 = some q) : S_sig_Right_1 a0 = some q :=
 Sof_of (Q := q_sig_Right_1) (N := N) (n := 3) (f := 156) (tin := i_sig_Right_1) (tout := o_sig_Right_1) (d := (a0, ())) (all1 k_sig_May all0) bs_ok (by kernel_rfl) (by kernel_rfl) (by kernel_rfl) (Eq.trans (b := M_sig_Right_1 N a0) (by kernel_rfl) h)

noncomputable def M_sig_Right (N : Nat) (l_0 : LI) (n_1 : Int) : Option (Bool × Unit) :=
 cnd (leI (vlen (eI l_0)) n_1)
  (qS (eI l_0) <|
  qI (vlen (eI l_0)) <|
  iter (fun (d1 : (Int × Unit)) again2 =>
   cnd (ltI d1.1 (vlen (eI l_0)))
    (chk (leI 0 d1.1) <|
    getE tI (eI l_0) (natI d1.1) <| fun n3 =>
    bnd (S_sig_Right_1 n3) <| fun p4 =>
    cnd p4.1
     (some ((notB (leI 0 d1.1)), ()))
     (qS (eI l_0) <|
     qI (vlen (eI l_0)) <|
     again2 ((wrp .i64 (addI d1.1 1)), ())))
    (some (true, ()))) N (0, ()))
  (some (false, ()))
noncomputable def q_sig_Right : Lift := ⟨tyX, look2 .todo (α := LoopAs) (.n 170 [(2, (.as ⟨[], [], (.one, [.fix]) :: (.one, [.stat (.clo false 156 [])]) :: rp 5 (.one, [.junk]) ((.one, [.fix]) :: (.one, [.hole tI]) :: rp 10 (.one, [.junk]) ([]))⟩))] .o .o), [c_sig_Right_1], bsX⟩
theorem u_sig_Right {N : Nat} {a0 : LI} {a1 : Int} {q : (Bool × Unit)} (h : M_sig_Right N a0 a1 = some q) : S_sig_Right a0 a1 = some q :=
 Sof_of (Q := q_sig_Right) (N := N) (n := 3) (f := 117) (tin := i_sig_Right) (tout := o_sig_Right) (d := (a0, (a1, ()))) (all1 k_sig_Right_1 all0) bs_ok (by kernel_rfl) (by kernel_rfl) (by kernel_rfl) (Eq.trans (b := M_sig_Right N a0 a1) (by kernel_rfl) h)

noncomputable def M_fnc_types (N : Nat) (l_0 : LB) (b_1 : Bool) (l_2 : LI) (l_3 : LI) (l_4 : LI) (l_5 : LI) (l_6 : LC) (l_7 : LI) (l_8 : LN) (l_9 : LI) (l_10 : LS) : Option (Bool × Unit) :=
 joinK (δ := (Bool × Unit)) (dI l_3 <| fun l1 =>
  bnd (S_sig_Right l1 8) <| fun p2 =>
  cnd p2.1
   (dI l_4 <| fun l3 =>
   bnd (S_sig_Right l3 4) <| fun p4 =>
   cnd p4.1
    (dI l_5 <| fun l5 =>
    bnd (S_sig_Right l5 256) <| fun p6 =>
    qB (ByteArray.mk (Array.mk l_0)) <|
    qO b_1 <|
    qS (eI l_2) <|
    qS (eI l_3) <|
    qS (eI l_4) <|
    qS (eI l_5) <|
    qS (eC l_6) <|
    qS (eI l_7) <|
    qS (eN l_8) <|
    qS (eI l_9) <|
    qS (eS l_10) <|
    leftK (p6.1, ()))
    (qB (ByteArray.mk (Array.mk l_0)) <|
    qO b_1 <|
    qS (eI l_2) <|
    qS (eI l_3) <|
    qS (eI l_4) <|
    qS (eI l_5) <|
    qS (eC l_6) <|
    qS (eI l_7) <|
    qS (eN l_8) <|
    qS (eI l_9) <|
    qS (eS l_10) <|
    leftK (false, ())))
   (qB (ByteArray.mk (Array.mk l_0)) <|
   qO b_1 <|
   qS (eI l_2) <|
   qS (eI l_3) <|
   qS (eI l_4) <|
   qS (eI l_5) <|
   qS (eC l_6) <|
   qS (eI l_7) <|
   qS (eN l_8) <|
   qS (eI l_9) <|
   qS (eS l_10) <|
   leftK (false, ())))
 <| fun p7 =>
 cnd p7.1
  (dI l_2 <| fun l8 =>
  bnd (S_sig_Right l8 4) <| fun p9 =>
  cnd p9.1
   (cnd b_1
    (some (true, ()))
    (some ((eqI (vlen (eI l_2)) 0), ())))
   (some (false, ())))
  (some (false, ()))
noncomputable def q_fnc_types : Lift := ⟨tyX, look2 .todo (α := LoopAs) (.n 104 [(1008195, (.as ⟨[], [[.fix, .fix, .fix, .fix, .fix, .fix, .fix, .fix, .fix, .fix, .fix]], (.one, [.junk]) :: (.one, [.stat (.ptr 0 0)]) :: (.one, [.junk]) :: (.one, [.hole .bool]) :: rp 29 (.one, [.junk]) ([])⟩))] .o .o), [c_sig_Right], bsX⟩
theorem u_fnc_types {N : Nat} {a0 : LB} {a1 : Bool} {a2 : LI} {a3 : LI} {a4 : LI} {a5 : LI} {a6 : LC} {a7 : LI} {a8 : LN} {a9 : LI} {a10 : LS} {q : (Bool × Unit)} (h : M_fnc_types N a0 a1 a2 a3 a4 a5 a6 a7 a8 a9 a10 = some q) : S_fnc_types a0 a1 a2 a3 a4 a5 a6 a7 a8 a9 a10 = some q :=
 Sof_of (Q := q_fnc_types) (N := N) (n := 3) (f := 104) (tin := i_fnc_types) (tout := o_fnc_types) (d := (a0, (a1, (a2, (a3, (a4, (a5, (a6, (a7, (a8, (a9, (a10, ())))))))))))) (all1 k_sig_Right all0) bs_ok (by kernel_rfl) (by kernel_rfl) (by kernel_rfl) (Eq.trans (b := M_fnc_types N a0 a1 a2 a3 a4 a5 a6 a7 a8 a9 a10) (by kernel_rfl) h)

noncomputable def M_lines_Right_1 (N : Nat) (n_0 : Int) : Option (Bool × Unit) :=
 cnd (ltI n_0 0)
  (some (true, ()))
  (some ((ltI 65535 n_0), ()))
noncomputable def q_lines_Right_1 : Lift := ⟨tyX, look2 .todo (α := LoopAs) (.o), [], bsX⟩
theorem u_lines_Right_1 {N : Nat} {a0 : Int} {q : (Bool × Unit)} (h : M_lines_Right_1 N a0 = some q) : S_lines_Right_1 a0 = some q :=
 Sof_of (Q := q_lines_Right_1) (N := N) (n := 3) (f := 151) (tin := i_lines_Right_1) (tout := o_lines_Right_1) (d := (a0, ())) all0 bs_ok (by kernel_rfl) (by kernel_rfl) (by kernel_rfl) (Eq.trans (b := M_lines_Right_1 N a0) (by kernel_rfl) h)

noncomputable def M_slices_IndexFunc_int_int_t (N : Nat) (l_0 : LB) (b_1 : Bool) (l_2 : LI) (l_3 : LI) (l_4 : LI) (l_5 : LI) (l_6 : LC) (l_7 : LI) (l_8 : LN) (l_9 : LI) (l_10 : LS) (l_11 : LI) : Option (LB × (Bool × (LI × (LI × (LI × (LI × (LC × (LI × (LN × (LI × (LS × (Int × Unit)))))))))))) :=
 dI l_2 <| fun l1 =>
 dI l_3 <| fun l2 =>
 dI l_4 <| fun l3 =>
 dI l_5 <| fun l4 =>
 dC l_6 <| fun l5 =>
 dI l_7 <| fun l6 =>
 dN l_8 <| fun l7 =>
 dI l_9 <| fun l8 =>
 dS l_10 <| fun l9 =>
 qS (eI l_11) <|
 qI (vlen (eI l_11)) <|
 iter (fun (d10 : (LB × (Bool × (LI × (LI × (LI × (LI × (LC × (LI × (LN × (LI × (LS × (Int × Unit))))))))))))) again11 =>
  cnd (ltI d10.2.2.2.2.2.2.2.2.2.2.2.1 (vlen (eI l_11)))
   (chk (leI 0 d10.2.2.2.2.2.2.2.2.2.2.2.1) <|
   getE tI (eI l_11) (natI d10.2.2.2.2.2.2.2.2.2.2.2.1) <| fun n12 =>
   dI d10.2.2.1 <| fun l13 =>
   dI d10.2.2.2.1 <| fun l14 =>
   dI d10.2.2.2.2.1 <| fun l15 =>
   dI d10.2.2.2.2.2.1 <| fun l16 =>
   dC d10.2.2.2.2.2.2.1 <| fun l17 =>
   dI d10.2.2.2.2.2.2.2.1 <| fun l18 =>
   dN d10.2.2.2.2.2.2.2.2.1 <| fun l19 =>
   dI d10.2.2.2.2.2.2.2.2.2.1 <| fun l20 =>
   dS d10.2.2.2.2.2.2.2.2.2.2.1 <| fun l21 =>
   bnd (S_fnc_tables_1 d10.1 d10.2.1 l13 l14 l15 l16 l17 l18 l19 l20 l21 n12) <| fun p22 =>
   cnd p22.2.2.2.2.2.2.2.2.2.2.2.1
    (dI p22.2.2.1 <| fun l23 =>
    dI p22.2.2.2.1 <| fun l24 =>
    dI p22.2.2.2.2.1 <| fun l25 =>
    dI p22.2.2.2.2.2.1 <| fun l26 =>
    dC p22.2.2.2.2.2.2.1 <| fun l27 =>
    dI p22.2.2.2.2.2.2.2.1 <| fun l28 =>
    dN p22.2.2.2.2.2.2.2.2.1 <| fun l29 =>
    dI p22.2.2.2.2.2.2.2.2.2.1 <| fun l30 =>
    dS p22.2.2.2.2.2.2.2.2.2.2.1 <| fun l31 =>
    some (p22.1, (p22.2.1, (l23, (l24, (l25, (l26, (l27, (l28, (l29, (l30, (l31, (d10.2.2.2.2.2.2.2.2.2.2.2.1, ())))))))))))))
    (dI p22.2.2.1 <| fun l32 =>
    dI p22.2.2.2.1 <| fun l33 =>
    dI p22.2.2.2.2.1 <| fun l34 =>
    dI p22.2.2.2.2.2.1 <| fun l35 =>
    dC p22.2.2.2.2.2.2.1 <| fun l36 =>
    dI p22.2.2.2.2.2.2.2.1 <| fun l37 =>
    dN p22.2.2.2.2.2.2.2.2.1 <| fun l38 =>
    dI p22.2.2.2.2.2.2.2.2.2.1 <| fun l39 =>
    dS p22.2.2.2.2.2.2.2.2.2.2.1 <| fun l40 =>
    qS (eI l_11) <|
    qI (vlen (eI l_11)) <|
    again11 (p22.1, (p22.2.1, (l32, (l33, (l34, (l35, (l36, (l37, (l38, (l39, (l40, ((wrp .i64 (addI d10.2.2.2.2.2.2.2.2.2.2.2.1 1)), ()))))))))))))))
   (dI d10.2.2.1 <| fun l41 =>
   dI d10.2.2.2.1 <| fun l42 =>
   dI d10.2.2.2.2.1 <| fun l43 =>
   dI d10.2.2.2.2.2.1 <| fun l44 =>
   dC d10.2.2.2.2.2.2.1 <| fun l45 =>
   dI d10.2.2.2.2.2.2.2.1 <| fun l46 =>
   dN d10.2.2.2.2.2.2.2.2.1 <| fun l47 =>
   dI d10.2.2.2.2.2.2.2.2.2.1 <| fun l48 =>
   dS d10.2.2.2.2.2.2.2.2.2.2.1 <| fun l49 =>
   some (d10.1, (d10.2.1, (l41, (l42, (l43, (l44, (l45, (l46, (l47, (l48, (l49, ((-1), ())))))))))))))) N (l_0, (b_1, (l1, (l2, (l3, (l4, (l5, (l6, (l7, (l8, (l9, (0, ()))))))))))))
noncomputable def q_slices_IndexFunc_int_int_t : Lift := ⟨tyX, look2 .todo (α := LoopAs) (.n 169 [(2, (.as ⟨[], [[.hole .str, .hole .bool, .hole (.sl 1 tI), .hole (.sl 1 tI), .hole (.sl 1 tI), .hole (.sl 1 tI), .hole (.sl 2 tC), .hole (.sl 1 tI), .hole (.sl 7 tN), .hole (.sl 1 tI), .hole (.sl 4 tS)]], (.one, [.fix]) :: (.one, [.stat (.clo false 153 [0])]) :: rp 5 (.one, [.junk]) ((.one, [.fix]) :: (.one, [.hole tI]) :: rp 10 (.one, [.junk]) ([]))⟩))] .o .o), [c_fnc_tables_1], bsX⟩
theorem u_slices_IndexFunc_int_int_t {N : Nat} {a0 : LB} {a1 : Bool} {a2 : LI} {a3 : LI} {a4 : LI} {a5 : LI} {a6 : LC} {a7 : LI} {a8 : LN} {a9 : LI} {a10 : LS} {a11 : LI} {q : (LB × (Bool × (LI × (LI × (LI × (LI × (LC × (LI × (LN × (LI × (LS × (Int × Unit))))))))))))} (h : M_slices_IndexFunc_int_int_t N a0 a1 a2 a3 a4 a5 a6 a7 a8 a9 a10 a11 = some q) : S_slices_IndexFunc_int_int_t a0 a1 a2 a3 a4 a5 a6 a7 a8 a9 a10 a11 = some q :=
 Sof_of (Q := q_slices_IndexFunc_int_int_t) (N := N) (n := 3) (f := 169) (tin := i_slices_IndexFunc_int_int_t) (tout := o_slices_IndexFunc_int_int_t) (d := (a0, (a1, (a2, (a3, (a4, (a5, (a6, (a7, (a8, (a9, (a10, (a11, ()))))))))))))) (all1 k_fnc_tables_1 all0) bs_ok (by kernel_rfl) (by kernel_rfl) (by kernel_rfl) (Eq.trans (b := M_slices_IndexFunc_int_int_t N a0 a1 a2 a3 a4 a5 a6 a7 a8 a9 a10 a11) (by kernel_rfl) h)

noncomputable def M_slices_ContainsFunc_int_int_t (N : Nat) (l_0 : LB) (b_1 : Bool) (l_2 : LI) (l_3 : LI) (l_4 : LI) (l_5 : LI) (l_6 : LC) (l_7 : LI) (l_8 : LN) (l_9 : LI) (l_10 : LS) (l_11 : LI) : Option (LB × (Bool × (LI × (LI × (LI × (LI × (LC × (LI × (LN × (LI × (LS × (Bool × Unit)))))))))))) :=
 dI l_2 <| fun l1 =>
 dI l_3 <| fun l2 =>
 dI l_4 <| fun l3 =>
 dI l_5 <| fun l4 =>
 dC l_6 <| fun l5 =>
 dI l_7 <| fun l6 =>
 dN l_8 <| fun l7 =>
 dI l_9 <| fun l8 =>
 dS l_10 <| fun l9 =>
 dI l_11 <| fun l10 =>
 bnd (S_slices_IndexFunc_int_int_t l_0 b_1 l1 l2 l3 l4 l5 l6 l7 l8 l9 l10) <| fun p11 =>
 dI p11.2.2.1 <| fun l12 =>
 dI p11.2.2.2.1 <| fun l13 =>
 dI p11.2.2.2.2.1 <| fun l14 =>
 dI p11.2.2.2.2.2.1 <| fun l15 =>
 dC p11.2.2.2.2.2.2.1 <| fun l16 =>
 dI p11.2.2.2.2.2.2.2.1 <| fun l17 =>
 dN p11.2.2.2.2.2.2.2.2.1 <| fun l18 =>
 dI p11.2.2.2.2.2.2.2.2.2.1 <| fun l19 =>
 dS p11.2.2.2.2.2.2.2.2.2.2.1 <| fun l20 =>
 some (p11.1, (p11.2.1, (l12, (l13, (l14, (l15, (l16, (l17, (l18, (l19, (l20, ((leI 0 p11.2.2.2.2.2.2.2.2.2.2.2.1), ()))))))))))))
noncomputable def q_slices_ContainsFunc_int_int_t : Lift := ⟨tyX, look2 .todo (α := LoopAs) (.o), [c_slices_IndexFunc_int_int_t], bsX⟩
theorem u_slices_ContainsFunc_int_int_t {N : Nat} {a0 : LB} {a1 : Bool} {a2 : LI} {a3 : LI} {a4 : LI} {a5 : LI} {a6 : LC} {a7 : LI} {a8 : LN} {a9 : LI} {a10 : LS} {a11 : LI} {q : (LB × (Bool × (LI × (LI × (LI × (LI × (LC × (LI × (LN × (LI × (LS × (Bool × Unit))))))))))))} (h : M_slices_ContainsFunc_int_int_t N a0 a1 a2 a3 a4 a5 a6 a7 a8 a9 a10 a11 = some q) : S_slices_ContainsFunc_int_int_t a0 a1 a2 a3 a4 a5 a6 a7 a8 a9 a10 a11 = some q :=
 Sof_of (Q := q_slices_ContainsFunc_int_int_t) (N := N) (n := 3) (f := 152) (tin := i_slices_ContainsFunc_int_int_t) (tout := o_slices_ContainsFunc_int_int_t) (d := (a0, (a1, (a2, (a3, (a4, (a5, (a6, (a7, (a8, (a9, (a10, (a11, ()))))))))))))) (all1 k_slices_IndexFunc_int_int_t all0) bs_ok (by kernel_rfl) (by kernel_rfl) (by kernel_rfl) (Eq.trans (b := M_slices_ContainsFunc_int_int_t N a0 a1 a2 a3 a4 a5 a6 a7 a8 a9 a10 a11) (by kernel_rfl) h)

noncomputable def M_lines_Right (N : Nat) (l_0 : LI) : Option (Bool × Unit) :=
 cnd (leI (vlen (eI l_0)) 2000)
  (qS (eI l_0) <|
  qI (vlen (eI l_0)) <|
  iter (fun (d1 : (Int × Unit)) again2 =>
   cnd (ltI d1.1 (vlen (eI l_0)))
    (chk (leI 0 d1.1) <|
    getE tI (eI l_0) (natI d1.1) <| fun n3 =>
    bnd (S_lines_Right_1 n3) <| fun p4 =>
    cnd p4.1
     (some ((notB (leI 0 d1.1)), ()))
     (qS (eI l_0) <|
     qI (vlen (eI l_0)) <|
     again2 ((wrp .i64 (addI d1.1 1)), ())))
    (some (true, ()))) N (0, ()))
  (some (false, ()))
noncomputable def q_lines_Right : Lift := ⟨tyX, look2 .todo (α := LoopAs) (.n 169 [(2, (.as ⟨[], [], (.one, [.fix]) :: (.one, [.stat (.clo false 151 [])]) :: rp 5 (.one, [.junk]) ((.one, [.fix]) :: (.one, [.hole tI]) :: rp 10 (.one, [.junk]) ([]))⟩))] .o .o), [c_lines_Right_1], bsX⟩
theorem u_lines_Right {N : Nat} {a0 : LI} {q : (Bool × Unit)} (h : M_lines_Right N a0 = some q) : S_lines_Right a0 = some q :=
 Sof_of (Q := q_lines_Right) (N := N) (n := 3) (f := 106) (tin := i_lines_Right) (tout := o_lines_Right) (d := (a0, ())) (all1 k_lines_Right_1 all0) bs_ok (by kernel_rfl) (by kernel_rfl) (by kernel_rfl) (Eq.trans (b := M_lines_Right N a0) (by kernel_rfl) h)

noncomputable def M_fnc_Bare (N : Nat) (l_0 : LB) (b_1 : Bool) (l_2 : LI) (l_3 : LI) (l_4 : LI) (l_5 : LI) (l_6 : LC) (l_7 : LI) (l_8 : LN) (l_9 : LI) (l_10 : LS) : Option (Bool × Unit) :=
 cnd (eqI (vlen (eN l_8)) 0)
  (cnd (eqI (vlen (eI l_9)) 0)
   (some ((eqI (vlen (eS l_10)) 0), ()))
   (some (false, ())))
  (some (false, ()))
noncomputable def q_fnc_Bare : Lift := ⟨tyX, look2 .todo (α := LoopAs) (.o), [], bsX⟩
theorem u_fnc_Bare {N : Nat} {a0 : LB} {a1 : Bool} {a2 : LI} {a3 : LI} {a4 : LI} {a5 : LI} {a6 : LC} {a7 : LI} {a8 : LN} {a9 : LI} {a10 : LS} {q : (Bool × Unit)} (h : M_fnc_Bare N a0 a1 a2 a3 a4 a5 a6 a7 a8 a9 a10 = some q) : S_fnc_Bare a0 a1 a2 a3 a4 a5 a6 a7 a8 a9 a10 = some q :=
 Sof_of (Q := q_fnc_Bare) (N := N) (n := 3) (f := 54) (tin := i_fnc_Bare) (tout := o_fnc_Bare) (d := (a0, (a1, (a2, (a3, (a4, (a5, (a6, (a7, (a8, (a9, (a10, ())))))))))))) all0 bs_ok (by kernel_rfl) (by kernel_rfl) (by kernel_rfl) (Eq.trans (b := M_fnc_Bare N a0 a1 a2 a3 a4 a5 a6 a7 a8 a9 a10) (by kernel_rfl) h)
end Go.Proofs.YtkdnbnkbnegckaaGreat
namespace Go.Proofs.YtkdnbnkbnegckaaGreat
open Go.RowKit
set_option maxRecDepth 100000
set_option linter.unusedVariables false
noncomputable def M_fnc_tables_1 (N : Nat) (l_0 : LB) (b_1 : Bool) (l_2 : LI) (l_3 : LI) (l_4 : LI) (l_5 : LI) (l_6 : LC) (l_7 : LI) (l_8 : LN) (l_9 : LI) (l_10 : LS) (n_11 : Int) : Option (LB × (Bool × (LI × (LI × (LI × (LI × (LC × (LI × (LN × (LI × (LS × (Bool × Unit)))))))))))) :=
 cnd (ltI n_11 0)
  (dI l_2 <| fun l1 =>
  dI l_3 <| fun l2 =>
  dI l_4 <| fun l3 =>
  dI l_5 <| fun l4 =>
  dC l_6 <| fun l5 =>
  dI l_7 <| fun l6 =>
  dN l_8 <| fun l7 =>
  dI l_9 <| fun l8 =>
  dS l_10 <| fun l9 =>
  some (l_0, (b_1, (l1, (l2, (l3, (l4, (l5, (l6, (l7, (l8, (l9, (true, ())))))))))))))
  (dI l_2 <| fun l10 =>
  dI l_3 <| fun l11 =>
  dI l_4 <| fun l12 =>
  dI l_5 <| fun l13 =>
  dC l_6 <| fun l14 =>
  dI l_7 <| fun l15 =>
  dN l_8 <| fun l16 =>
  dI l_9 <| fun l17 =>
  dS l_10 <| fun l18 =>
  some (l_0, (b_1, (l10, (l11, (l12, (l13, (l14, (l15, (l16, (l17, (l18, ((leI (vlen (eN l_8)) n_11), ())))))))))))))
noncomputable def q_fnc_tables_1 : Lift := ⟨tyX, look2 .todo (α := LoopAs) (.o), [], bsX⟩
theorem u_fnc_tables_1 {N : Nat} {a0 : LB} {a1 : Bool} {a2 : LI} {a3 : LI} {a4 : LI} {a5 : LI} {a6 : LC} {a7 : LI} {a8 : LN} {a9 : LI} {a10 : LS} {a11 : Int} {q : (LB × (Bool × (LI × (LI × (LI × (LI × (LC × (LI × (LN × (LI × (LS × (Bool × Unit))))))))))))} (h : M_fnc_tables_1 N a0 a1 a2 a3 a4 a5 a6 a7 a8 a9 a10 a11 = some q) : S_fnc_tables_1 a0 a1 a2 a3 a4 a5 a6 a7 a8 a9 a10 a11 = some q :=
 Sof_of (Q := q_fnc_tables_1) (N := N) (n := 3) (f := 153) (tin := i_fnc_tables_1) (tout := o_fnc_tables_1) (d := (a0, (a1, (a2, (a3, (a4, (a5, (a6, (a7, (a8, (a9, (a10, (a11, ()))))))))))))) all0 bs_ok (by kernel_rfl) (by kernel_rfl) (by kernel_rfl) (Eq.trans (b := M_fnc_tables_1 N a0 a1 a2 a3 a4 a5 a6 a7 a8 a9 a10 a11) (by kernel_rfl) h)

noncomputable def M_maps_Right (N : Nat) (l_0 : LS) (n_1 : Int) : Option (Bool × Unit) :=
 qS (eS l_0) <|
 qI n_1 <|
 qS (eS l_0) <|
 qI (vlen (eS l_0)) <|
 iter (fun (d1 : (Int × Unit)) again2 =>
  cnd (ltI d1.1 (vlen (eS l_0)))
   (chk (leI 0 d1.1) <|
   getE tS (eS l_0) (natI d1.1) <| fun p3 =>
   bnd (S_slots_Below p3.1 p3.2.1 p3.2.2.1 p3.2.2.2 n_1) <| fun p4 =>
   cnd (notB p4.1)
    (some (false, ()))
    (qS (eS l_0) <|
    qI n_1 <|
    qS (eS l_0) <|
    qI (vlen (eS l_0)) <|
    again2 ((wrp .i64 (addI d1.1 1)), ())))
   (some ((leI (vlen (eS l_0)) 2000), ()))) N (0, ())
noncomputable def q_maps_Right : Lift := ⟨tyX, look2 .todo (α := LoopAs) (.n 154 [(2, (.as ⟨[], [], (.one, [.fix]) :: (.one, [.fix]) :: rp 5 (.one, [.junk]) ((.one, [.fix]) :: (.one, [.fix]) :: (.one, [.hole tI]) :: rp 11 (.one, [.junk]) ([]))⟩))] .o .o), [c_slots_Below], bsX⟩
theorem u_maps_Right {N : Nat} {a0 : LS} {a1 : Int} {q : (Bool × Unit)} (h : M_maps_Right N a0 a1 = some q) : S_maps_Right a0 a1 = some q :=
 Sof_of (Q := q_maps_Right) (N := N) (n := 3) (f := 154) (tin := i_maps_Right) (tout := o_maps_Right) (d := (a0, (a1, ()))) (all1 k_slots_Below all0) bs_ok (by kernel_rfl) (by kernel_rfl) (by kernel_rfl) (Eq.trans (b := M_maps_Right N a0 a1) (by kernel_rfl) h)

noncomputable def M_fnc_tables (N : Nat) (l_0 : LB) (b_1 : Bool) (l_2 : LI) (l_3 : LI) (l_4 : LI) (l_5 : LI) (l_6 : LC) (l_7 : LI) (l_8 : LN) (l_9 : LI) (l_10 : LS) : Option (Bool × Unit) :=
 dI l_2 <| fun l1 =>
 dI l_3 <| fun l2 =>
 dI l_4 <| fun l3 =>
 dI l_5 <| fun l4 =>
 dC l_6 <| fun l5 =>
 dI l_7 <| fun l6 =>
 dN l_8 <| fun l7 =>
 dI l_9 <| fun l8 =>
 dS l_10 <| fun l9 =>
 bnd (S_fnc_Bare l_0 b_1 l1 l2 l3 l4 l5 l6 l7 l8 l9) <| fun p10 =>
 cnd p10.1
  (some (true, ()))
  (dN l_8 <| fun l11 =>
  bnd (S_tree_Right l11) <| fun p12 =>
  cnd p12.1
   (cnd (eqI (vlen (eI l_9)) (vlen (eC l_6)))
    (cnd (eqI (vlen (eS l_10)) (vlen (eC l_6)))
     (dI l_2 <| fun l13 =>
     dI l_3 <| fun l14 =>
     dI l_4 <| fun l15 =>
     dI l_5 <| fun l16 =>
     dC l_6 <| fun l17 =>
     dI l_7 <| fun l18 =>
     dN l_8 <| fun l19 =>
     dI l_9 <| fun l20 =>
     dS l_10 <| fun l21 =>
     dI l_9 <| fun l22 =>
     bnd (S_slices_ContainsFunc_int_int_t l_0 b_1 l13 l14 l15 l16 l17 l18 l19 l20 l21 l22) <| fun p23 =>
     cnd (notB p23.2.2.2.2.2.2.2.2.2.2.2.1)
      (dI p23.2.2.1 <| fun l24 =>
      dI p23.2.2.2.1 <| fun l25 =>
      dI p23.2.2.2.2.1 <| fun l26 =>
      dI p23.2.2.2.2.2.1 <| fun l27 =>
      dC p23.2.2.2.2.2.2.1 <| fun l28 =>
      dI p23.2.2.2.2.2.2.2.1 <| fun l29 =>
      dN p23.2.2.2.2.2.2.2.2.1 <| fun l30 =>
      dI p23.2.2.2.2.2.2.2.2.2.1 <| fun l31 =>
      dS p23.2.2.2.2.2.2.2.2.2.2.1 <| fun l32 =>
      bnd (S_fnc_many p23.1 p23.2.1 l24 l25 l26 l27 l28 l29 l30 l31 l32) <| fun p33 =>
      dS p23.2.2.2.2.2.2.2.2.2.2.1 <| fun l34 =>
      bnd (S_maps_Right l34 p33.1) <| fun p35 =>
      some (p35.1, ()))
      (some (false, ())))
     (some (false, ())))
    (some (false, ())))
   (some (false, ())))
noncomputable def q_fnc_tables : Lift := ⟨tyX, look2 .todo (α := LoopAs) (.n 169 [(2, (.as ⟨[], [], (.one, [.fix]) :: (.one, [.stat (.clo false 151 [])]) :: rp 5 (.one, [.junk]) ((.one, [.fix]) :: (.one, [.hole tI]) :: rp 10 (.one, [.junk]) ([]))⟩))] .o .o), [c_fnc_many, c_tree_Right, c_slices_ContainsFunc_int_int_t, c_fnc_Bare, c_maps_Right], bsX⟩
theorem u_fnc_tables {N : Nat} {a0 : LB} {a1 : Bool} {a2 : LI} {a3 : LI} {a4 : LI} {a5 : LI} {a6 : LC} {a7 : LI} {a8 : LN} {a9 : LI} {a10 : LS} {q : (Bool × Unit)} (h : M_fnc_tables N a0 a1 a2 a3 a4 a5 a6 a7 a8 a9 a10 = some q) : S_fnc_tables a0 a1 a2 a3 a4 a5 a6 a7 a8 a9 a10 = some q :=
 Sof_of (Q := q_fnc_tables) (N := N) (n := 3) (f := 107) (tin := i_fnc_tables) (tout := o_fnc_tables) (d := (a0, (a1, (a2, (a3, (a4, (a5, (a6, (a7, (a8, (a9, (a10, ())))))))))))) (all1 k_fnc_many (all1 k_tree_Right (all1 k_slices_ContainsFunc_int_int_t (all1 k_fnc_Bare (all1 k_maps_Right all0))))) bs_ok (by kernel_rfl) (by kernel_rfl) (by kernel_rfl) (Eq.trans (b := M_fnc_tables N a0 a1 a2 a3 a4 a5 a6 a7 a8 a9 a10) (by kernel_rfl) h)

noncomputable def M_fnc_Can (N : Nat) (l_0 : LB) (b_1 : Bool) (l_2 : LI) (l_3 : LI) (l_4 : LI) (l_5 : LI) (l_6 : LC) (l_7 : LI) (l_8 : LN) (l_9 : LI) (l_10 : LS) : Option (Int × Unit) :=
 bnd (S_names_May l_0) <| fun p1 =>
 cnd (notB p1.1)
  (some (7, ()))
  (dI l_2 <| fun l2 =>
  dI l_3 <| fun l3 =>
  dI l_4 <| fun l4 =>
  dI l_5 <| fun l5 =>
  dC l_6 <| fun l6 =>
  dI l_7 <| fun l7 =>
  dN l_8 <| fun l8 =>
  dI l_9 <| fun l9 =>
  dS l_10 <| fun l10 =>
  bnd (S_fnc_types l_0 b_1 l2 l3 l4 l5 l6 l7 l8 l9 l10) <| fun p11 =>
  cnd (notB p11.1)
   (some (9, ()))
   (joinK (δ := (Bool × Unit)) (dI l_2 <| fun l12 =>
    dI l_3 <| fun l13 =>
    dI l_4 <| fun l14 =>
    dI l_5 <| fun l15 =>
    dC l_6 <| fun l16 =>
    dI l_7 <| fun l17 =>
    dN l_8 <| fun l18 =>
    dI l_9 <| fun l19 =>
    dS l_10 <| fun l20 =>
    bnd (S_fnc_many l_0 b_1 l12 l13 l14 l15 l16 l17 l18 l19 l20) <| fun p21 =>
    cnd (ltI 256 p21.1)
     (qB (ByteArray.mk (Array.mk l_0)) <|
     qO b_1 <|
     qS (eI l_2) <|
     qS (eI l_3) <|
     qS (eI l_4) <|
     qS (eI l_5) <|
     qS (eC l_6) <|
     qS (eI l_7) <|
     qS (eN l_8) <|
     qS (eI l_9) <|
     qS (eS l_10) <|
     qI (vlen (eC l_6)) <|
     leftK (true, ()))
     (cnd (ltI (vlen (eC l_6)) 1)
      (qB (ByteArray.mk (Array.mk l_0)) <|
      qO b_1 <|
      qS (eI l_2) <|
      qS (eI l_3) <|
      qS (eI l_4) <|
      qS (eI l_5) <|
      qS (eC l_6) <|
      qS (eI l_7) <|
      qS (eN l_8) <|
      qS (eI l_9) <|
      qS (eS l_10) <|
      qI (vlen (eC l_6)) <|
      leftK (true, ()))
      (qB (ByteArray.mk (Array.mk l_0)) <|
      qO b_1 <|
      qS (eI l_2) <|
      qS (eI l_3) <|
      qS (eI l_4) <|
      qS (eI l_5) <|
      qS (eC l_6) <|
      qS (eI l_7) <|
      qS (eN l_8) <|
      qS (eI l_9) <|
      qS (eS l_10) <|
      qI (vlen (eC l_6)) <|
      leftK ((ltI 2000 (vlen (eC l_6))), ()))))
   <| fun p22 =>
   cnd p22.1
    (some (6, ()))
    (qS (eC l_6) <|
    qI (vlen (eC l_6)) <|
    iter (fun (d23 : (Int × Unit)) again24 =>
     cnd (ltI d23.1 (vlen (eC l_6)))
      (chk (leI 0 d23.1) <|
      getE tC (eC l_6) (natI d23.1) <| fun p25 =>
      bnd (S_fnc_Can_1 p25.1 p25.2) <| fun p26 =>
      cnd p26.1
       (cnd (leI 0 d23.1)
        (some (8, ()))
        (joinK (δ := (Bool × Unit)) (cnd (notB (eqI (vlen (eI l_7)) (vlen (eC l_6))))
          (qB (ByteArray.mk (Array.mk l_0)) <|
          qO b_1 <|
          qS (eI l_2) <|
          qS (eI l_3) <|
          qS (eI l_4) <|
          qS (eI l_5) <|
          qS (eC l_6) <|
          qS (eI l_7) <|
          qS (eN l_8) <|
          qS (eI l_9) <|
          qS (eS l_10) <|
          leftK (true, ()))
          (dI l_7 <| fun l27 =>
          bnd (S_lines_Right l27) <| fun p28 =>
          qB (ByteArray.mk (Array.mk l_0)) <|
          qO b_1 <|
          qS (eI l_2) <|
          qS (eI l_3) <|
          qS (eI l_4) <|
          qS (eI l_5) <|
          qS (eC l_6) <|
          qS (eI l_7) <|
          qS (eN l_8) <|
          qS (eI l_9) <|
          qS (eS l_10) <|
          leftK ((notB p28.1), ())))
        <| fun p29 =>
        cnd p29.1
         (some (19, ()))
         (dI l_2 <| fun l30 =>
         dI l_3 <| fun l31 =>
         dI l_4 <| fun l32 =>
         dI l_5 <| fun l33 =>
         dC l_6 <| fun l34 =>
         dI l_7 <| fun l35 =>
         dN l_8 <| fun l36 =>
         dI l_9 <| fun l37 =>
         dS l_10 <| fun l38 =>
         bnd (S_fnc_tables l_0 b_1 l30 l31 l32 l33 l34 l35 l36 l37 l38) <| fun p39 =>
         cnd (notB p39.1)
          (some (14, ()))
          (some (0, ())))))
       (qS (eC l_6) <|
       qI (vlen (eC l_6)) <|
       again24 ((wrp .i64 (addI d23.1 1)), ())))
      (joinK (δ := (Bool × Unit)) (cnd (notB (eqI (vlen (eI l_7)) (vlen (eC l_6))))
        (qB (ByteArray.mk (Array.mk l_0)) <|
        qO b_1 <|
        qS (eI l_2) <|
        qS (eI l_3) <|
        qS (eI l_4) <|
        qS (eI l_5) <|
        qS (eC l_6) <|
        qS (eI l_7) <|
        qS (eN l_8) <|
        qS (eI l_9) <|
        qS (eS l_10) <|
        leftK (true, ()))
        (dI l_7 <| fun l40 =>
        bnd (S_lines_Right l40) <| fun p41 =>
        qB (ByteArray.mk (Array.mk l_0)) <|
        qO b_1 <|
        qS (eI l_2) <|
        qS (eI l_3) <|
        qS (eI l_4) <|
        qS (eI l_5) <|
        qS (eC l_6) <|
        qS (eI l_7) <|
        qS (eN l_8) <|
        qS (eI l_9) <|
        qS (eS l_10) <|
        leftK ((notB p41.1), ())))
      <| fun p42 =>
      cnd p42.1
       (some (19, ()))
       (dI l_2 <| fun l43 =>
       dI l_3 <| fun l44 =>
       dI l_4 <| fun l45 =>
       dI l_5 <| fun l46 =>
       dC l_6 <| fun l47 =>
       dI l_7 <| fun l48 =>
       dN l_8 <| fun l49 =>
       dI l_9 <| fun l50 =>
       dS l_10 <| fun l51 =>
       bnd (S_fnc_tables l_0 b_1 l43 l44 l45 l46 l47 l48 l49 l50 l51) <| fun p52 =>
       cnd (notB p52.1)
        (some (14, ()))
        (some (0, ()))))) N (0, ()))))
noncomputable def q_fnc_Can : Lift := ⟨tyX, look2 .todo (α := LoopAs) (.n 150 [(2, (.as ⟨[], [], (.one, [.fix]) :: (.one, [.stat (.clo false 102 [])]) :: rp 5 (.one, [.junk]) ((.one, [.fix]) :: (.one, [.hole tI]) :: rp 10 (.one, [.junk]) ([]))⟩))] (.n 53 [(1032777, (.as ⟨[], [[.fix, .fix, .fix, .fix, .fix, .fix, .fix, .fix, .fix, .fix, .fix]], (.one, [.junk]) :: (.one, [.stat (.ptr 0 0)]) :: (.one, [.junk]) :: (.one, [.stat (.clo false 102 [])]) :: (.one, [.fix]) :: rp 12 (.one, [.junk]) ((.one, [.hole .bool]) :: rp 32 (.one, [.junk]) ([]))⟩)), (1049165, (.as ⟨[], [[.fix, .fix, .fix, .fix, .fix, .fix, .fix, .fix, .fix, .fix, .fix]], (.one, [.junk]) :: (.one, [.stat (.ptr 0 0)]) :: rp 32 (.one, [.junk]) ((.one, [.hole .bool]) :: rp 15 (.one, [.junk]) ([]))⟩))] .o .o) .o), [c_names_May, c_fnc_many, c_fnc_Can_1, c_fnc_types, c_lines_Right, c_fnc_tables], bsX⟩
theorem u_fnc_Can {N : Nat} {a0 : LB} {a1 : Bool} {a2 : LI} {a3 : LI} {a4 : LI} {a5 : LI} {a6 : LC} {a7 : LI} {a8 : LN} {a9 : LI} {a10 : LS} {q : (Int × Unit)} (h : M_fnc_Can N a0 a1 a2 a3 a4 a5 a6 a7 a8 a9 a10 = some q) : S_fnc_Can a0 a1 a2 a3 a4 a5 a6 a7 a8 a9 a10 = some q :=
 Sof_of (Q := q_fnc_Can) (N := N) (n := 3) (f := 53) (tin := i_fnc_Can) (tout := o_fnc_Can) (d := (a0, (a1, (a2, (a3, (a4, (a5, (a6, (a7, (a8, (a9, (a10, ())))))))))))) (all1 k_names_May (all1 k_fnc_many (all1 k_fnc_Can_1 (all1 k_fnc_types (all1 k_lines_Right (all1 k_fnc_tables all0)))))) bs_ok (by kernel_rfl) (by kernel_rfl) (by kernel_rfl) (Eq.trans (b := M_fnc_Can N a0 a1 a2 a3 a4 a5 a6 a7 a8 a9 a10) (by kernel_rfl) h)

end Go.Proofs.YtkdnbnkbnegckaaGreat
