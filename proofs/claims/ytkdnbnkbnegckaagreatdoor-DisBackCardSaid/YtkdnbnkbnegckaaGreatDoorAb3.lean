/- Functions, lifted: what the program comes to by them. -/
import Derived.Test.YtkdnbnkbnegckaaGreatDoorAbA
namespace Go.Proofs.YtkdnbnkbnegckaaGreatDoor
open Go.RowKit
set_option maxRecDepth 100000
set_option linter.unusedVariables false
noncomputable def M_ref15_tables (N : Nat) (l_0 : LB) (b_1 : Bool) (l_2 : LI) (l_3 : LI) (l_4 : LI) (l_5 : LI) (l_6 : LC) (l_7 : LI) (l_8 : LN) (l_9 : LI) (l_10 : LS) (n_11 : Int) : Option (Bool × Unit) :=
 dI l_2 <| fun l1 =>
 dI l_3 <| fun l2 =>
 dI l_4 <| fun l3 =>
 dI l_5 <| fun l4 =>
 dC l_6 <| fun l5 =>
 dI l_7 <| fun l6 =>
 dN l_8 <| fun l7 =>
 dI l_9 <| fun l8 =>
 dS l_10 <| fun l9 =>
 bnd (S_ref15_Bare l_0 b_1 l1 l2 l3 l4 l5 l6 l7 l8 l9) <| fun p10 =>
 cnd p10.1
  (some (true, ()))
  (joinK (δ := Unit) (dN l_8 <| fun l11 =>
   bnd (S_ref13_Right l11) <| fun p12 =>
   cnd (notB p12.1)
    (rightK <| some (false, ()))
    (cnd (notB (eqI (vlen (eI l_9)) (vlen (eC l_6))))
     (rightK <| some (false, ()))
     (cnd (notB (eqI (vlen (eS l_10)) (vlen (eC l_6))))
      (rightK <| some (false, ()))
      (dS l_10 <| fun l13 =>
      bnd (S_ref14_Right l13 n_11) <| fun p14 =>
      cnd (notB p14.1)
       (rightK <| some (false, ()))
       (qB (ByteArray.mk (Array.mk l_0)) <|
       qO b_1 <|
       qS (eI l_2) <|
       qS (eI l_3) <|
       qS (eI l_4) <|
       qS (eI l_5) <|
       qS (eC l_6) <|
       qS (eI l_7) <|
       qS (eN l_8) <|
       qS (eI l_9) <|
       qS (eS l_10) <|
       leftK ())))))
  <| fun x15 =>
  qB (ByteArray.mk (Array.mk l_0)) <|
  qO b_1 <|
  qS (eI l_2) <|
  qS (eI l_3) <|
  qS (eI l_4) <|
  qS (eI l_5) <|
  qS (eC l_6) <|
  qS (eI l_7) <|
  qS (eN l_8) <|
  qS (eI l_9) <|
  qS (eS l_10) <|
  iter (fun (d16 : (Int × Unit)) again17 =>
   cnd (ltI d16.1 (vlen (eI l_9)))
    (joinK (δ := Unit) (chk (leI 0 d16.1) <|
     getE tI (eI l_9) (natI d16.1) <| fun n18 =>
     cnd (ltI n18 0)
      (rightK <| some (false, ()))
      (chk (leI 0 d16.1) <|
      getE tI (eI l_9) (natI d16.1) <| fun n19 =>
      cnd (leI (vlen (eN l_8)) n19)
       (rightK <| some (false, ()))
       (qB (ByteArray.mk (Array.mk l_0)) <|
       qO b_1 <|
       qS (eI l_2) <|
       qS (eI l_3) <|
       qS (eI l_4) <|
       qS (eI l_5) <|
       qS (eC l_6) <|
       qS (eI l_7) <|
       qS (eN l_8) <|
       qS (eI l_9) <|
       qS (eS l_10) <|
       qI d16.1 <|
       leftK ())))
    <| fun x20 =>
    qB (ByteArray.mk (Array.mk l_0)) <|
    qO b_1 <|
    qS (eI l_2) <|
    qS (eI l_3) <|
    qS (eI l_4) <|
    qS (eI l_5) <|
    qS (eC l_6) <|
    qS (eI l_7) <|
    qS (eN l_8) <|
    qS (eI l_9) <|
    qS (eS l_10) <|
    again17 ((wrp .i64 (addI d16.1 1)), ()))
    (some (true, ()))) N (0, ()))
noncomputable def q_ref15_tables : Lift := ⟨tyX, look2 .todo (α := LoopAs) (.n 61 [(6, (.as ⟨[], [[.fix, .fix, .fix, .fix, .fix, .fix, .fix, .fix, .fix, .fix, .fix]], (.one, [.junk]) :: (.one, [.junk]) :: (.one, [.stat (.ptr 0 0)]) :: (.one, [.junk]) :: (.one, [.junk]) :: (.one, [.hole tI]) :: rp 55 (.one, [.junk]) ([])⟩)), (1020486, (.as ⟨[], [[.fix, .fix, .fix, .fix, .fix, .fix, .fix, .fix, .fix, .fix, .fix]], (.one, [.junk]) :: (.one, [.junk]) :: (.one, [.stat (.ptr 0 0)]) :: rp 58 (.one, [.junk]) ([])⟩)), (1040968, (.as ⟨[], [[.fix, .fix, .fix, .fix, .fix, .fix, .fix, .fix, .fix, .fix, .fix]], (.one, [.junk]) :: (.one, [.junk]) :: (.one, [.stat (.ptr 0 0)]) :: (.one, [.junk]) :: (.one, [.junk]) :: (.one, [.fix]) :: rp 55 (.one, [.junk]) ([])⟩))] .o .o), [c_ref15_Bare, c_ref13_Right, c_ref14_Right], bsX⟩
theorem u_ref15_tables {N : Nat} {a0 : LB} {a1 : Bool} {a2 : LI} {a3 : LI} {a4 : LI} {a5 : LI} {a6 : LC} {a7 : LI} {a8 : LN} {a9 : LI} {a10 : LS} {a11 : Int} {q : (Bool × Unit)} (h : M_ref15_tables N a0 a1 a2 a3 a4 a5 a6 a7 a8 a9 a10 a11 = some q) : S_ref15_tables a0 a1 a2 a3 a4 a5 a6 a7 a8 a9 a10 a11 = some q :=
 Sof_of (Q := q_ref15_tables) (N := N) (n := 3) (f := 61) (tin := i_ref15_tables) (tout := o_ref15_tables) (d := (a0, (a1, (a2, (a3, (a4, (a5, (a6, (a7, (a8, (a9, (a10, (a11, ()))))))))))))) (all1 k_ref15_Bare (all1 k_ref13_Right (all1 k_ref14_Right all0))) bs_ok (by kernel_rfl) (by kernel_rfl) (by kernel_rfl) (Eq.trans (b := M_ref15_tables N a0 a1 a2 a3 a4 a5 a6 a7 a8 a9 a10 a11) (by kernel_rfl) h)

noncomputable def M_ref16_Names (N : Nat) (l_0 : LF) : Option ((List LB) × Unit) :=
 decL .str [] <| fun l1 =>
 qS (eF l_0) <|
 iter (fun (d2 : ((List LB) × (Int × Unit))) again3 =>
  cnd (ltI d2.2.1 (vlen (eF l_0)))
   (chk (leI 0 d2.2.1) <|
   getE tF (eF l_0) (natI d2.2.1) <| fun p4 =>
   qN (vnum (encL .str d2.1)) <|
   chk (room (vnum (encL .str d2.1)) (vnum (vcut [[(C.v (Go.Value.string (ByteArray.mk (Array.mk p4.1))))]] 0 1)) 16) <|
   decL .str (vapp (encL .str d2.1) (vcut [[(C.v (Go.Value.string (ByteArray.mk (Array.mk p4.1))))]] 0 1)) <| fun l5 =>
   qS (eF l_0) <|
   chk (eqN (addN (vnum (encL .str d2.1)) (vnum (vcut [[(C.v (Go.Value.string (ByteArray.mk (Array.mk p4.1))))]] 0 1))) (vnum (vapp (encL .str d2.1) (vcut [[(C.v (Go.Value.string (ByteArray.mk (Array.mk p4.1))))]] 0 1)))) <|
   again3 (l5, ((wrp .i64 (addI d2.2.1 1)), ())))
   (chk (leN (addN 0 (vnum (encL .str d2.1))) (vnum (encL .str d2.1))) <|
   decL .str (vcut (encL .str d2.1) 0 (vnum (encL .str d2.1))) <| fun l6 =>
   some (l6, ()))) N (l1, (0, ()))
noncomputable def q_ref16_Names : Lift := ⟨tyX, look2 .todo (α := LoopAs) (.n 37 [(3, (.as ⟨[.mu 9 1 .str], [[.fix]], (.one, [.junk]) :: (.one, [.stat (.ptr 0 0)]) :: (.one, [.junk]) :: (.one, [.own 0]) :: (.one, [.hole tI]) :: rp 17 (.one, [.junk]) ([])⟩))] .o .o), [], bsX⟩
theorem u_ref16_Names {N : Nat} {a0 : LF} {q : ((List LB) × Unit)} (h : M_ref16_Names N a0 = some q) : S_ref16_Names a0 = some q :=
 Sof_of (Q := q_ref16_Names) (N := N) (n := 3) (f := 37) (tin := i_ref16_Names) (tout := o_ref16_Names) (d := (a0, ())) all0 bs_ok (by kernel_rfl) (by kernel_rfl) (by kernel_rfl) (Eq.trans (b := M_ref16_Names N a0) (by kernel_rfl) h)

noncomputable def M_ref05_Find (N : Nat) (l_0 : (List LB)) (l_1 : LB) : Option (Int × Unit) :=
 qS (encL .str l_0) <|
 qB (ByteArray.mk (Array.mk l_1)) <|
 iter (fun (d1 : (Int × Unit)) again2 =>
  cnd (ltI d1.1 (vlen (encL .str l_0)))
   (chk (leI 0 d1.1) <|
   getE .str (encL .str l_0) (natI d1.1) <| fun l3 =>
   cnd (seq2 (ByteArray.mk (Array.mk l3)) (ByteArray.mk (Array.mk l_1)))
    (some (d1.1, ()))
    (qS (encL .str l_0) <|
    qB (ByteArray.mk (Array.mk l_1)) <|
    again2 ((wrp .i64 (addI d1.1 1)), ())))
   (some ((-1), ()))) N (0, ())
noncomputable def q_ref05_Find : Lift := ⟨tyX, look2 .todo (α := LoopAs) (.n 62 [(2, (.as ⟨[], [], (.one, [.fix]) :: (.one, [.fix]) :: (.one, [.junk]) :: (.one, [.junk]) :: (.one, [.junk]) :: (.one, [.hole tI]) :: rp 13 (.one, [.junk]) ([])⟩))] .o .o), [], bsX⟩
theorem u_ref05_Find {N : Nat} {a0 : (List LB)} {a1 : LB} {q : (Int × Unit)} (h : M_ref05_Find N a0 a1 = some q) : S_ref05_Find a0 a1 = some q :=
 Sof_of (Q := q_ref05_Find) (N := N) (n := 3) (f := 62) (tin := i_ref05_Find) (tout := o_ref05_Find) (d := (a0, (a1, ()))) all0 bs_ok (by kernel_rfl) (by kernel_rfl) (by kernel_rfl) (Eq.trans (b := M_ref05_Find N a0 a1) (by kernel_rfl) h)

noncomputable def M_ref05_Unlike (N : Nat) (l_0 : (List LB)) : Option (Bool × Unit) :=
 qS (encL .str l_0) <|
 iter (fun (d1 : (Int × Unit)) again2 =>
  cnd (ltI d1.1 (vlen (encL .str l_0)))
   (chk (leI 0 d1.1) <|
   getE .str (encL .str l_0) (natI d1.1) <| fun l3 =>
   decL .str (encL .str l_0) <| fun l4 =>
   bnd (S_ref05_Find l4 l3) <| fun p5 =>
   cnd (notB (eqI p5.1 d1.1))
    (some (false, ()))
    (qS (encL .str l_0) <|
    again2 ((wrp .i64 (addI d1.1 1)), ())))
   (some (true, ()))) N (0, ())
noncomputable def q_ref05_Unlike : Lift := ⟨tyX, look2 .todo (α := LoopAs) (.n 36 [(2, (.as ⟨[], [], (.one, [.fix]) :: (.one, [.junk]) :: (.one, [.junk]) :: (.one, [.hole tI]) :: rp 14 (.one, [.junk]) ([])⟩))] .o .o), [c_ref05_Find], bsX⟩
theorem u_ref05_Unlike {N : Nat} {a0 : (List LB)} {q : (Bool × Unit)} (h : M_ref05_Unlike N a0 = some q) : S_ref05_Unlike a0 = some q :=
 Sof_of (Q := q_ref05_Unlike) (N := N) (n := 3) (f := 36) (tin := i_ref05_Unlike) (tout := o_ref05_Unlike) (d := (a0, ())) (all1 k_ref05_Find all0) bs_ok (by kernel_rfl) (by kernel_rfl) (by kernel_rfl) (Eq.trans (b := M_ref05_Unlike N a0) (by kernel_rfl) h)

noncomputable def M_ref16_Same (N : Nat) (l_0 : LF) (l_1 : LF) : Option (Bool × Unit) :=
 cnd (notB (eqI (vlen (eF l_0)) (vlen (eF l_1))))
  (some (false, ()))
  (qS (eF l_0) <|
  qS (eF l_1) <|
  iter (fun (d1 : (Int × Unit)) again2 =>
   cnd (ltI d1.1 (vlen (eF l_0)))
    (chk (leI 0 d1.1) <|
    getE tF (eF l_0) (natI d1.1) <| fun p3 =>
    chk (leI 0 d1.1) <|
    getE tF (eF l_1) (natI d1.1) <| fun p4 =>
    dI p3.2.2.1 <| fun l5 =>
    dI p3.2.2.2.1 <| fun l6 =>
    dI p3.2.2.2.2.1 <| fun l7 =>
    dI p3.2.2.2.2.2.1 <| fun l8 =>
    dC p3.2.2.2.2.2.2.1 <| fun l9 =>
    dI p3.2.2.2.2.2.2.2.1 <| fun l10 =>
    dN p3.2.2.2.2.2.2.2.2.1 <| fun l11 =>
    dI p3.2.2.2.2.2.2.2.2.2.1 <| fun l12 =>
    dS p3.2.2.2.2.2.2.2.2.2.2 <| fun l13 =>
    dI p4.2.2.1 <| fun l14 =>
    dI p4.2.2.2.1 <| fun l15 =>
    dI p4.2.2.2.2.1 <| fun l16 =>
    dI p4.2.2.2.2.2.1 <| fun l17 =>
    dC p4.2.2.2.2.2.2.1 <| fun l18 =>
    dI p4.2.2.2.2.2.2.2.1 <| fun l19 =>
    dN p4.2.2.2.2.2.2.2.2.1 <| fun l20 =>
    dI p4.2.2.2.2.2.2.2.2.2.1 <| fun l21 =>
    dS p4.2.2.2.2.2.2.2.2.2.2 <| fun l22 =>
    bnd (S_ref15_Same p3.1 p3.2.1 l5 l6 l7 l8 l9 l10 l11 l12 l13 p4.1 p4.2.1 l14 l15 l16 l17 l18 l19 l20 l21 l22) <| fun p23 =>
    cnd (notB p23.1)
     (some (false, ()))
     (qS (eF l_0) <|
     qS (eF l_1) <|
     again2 ((wrp .i64 (addI d1.1 1)), ())))
    (some (true, ()))) N (0, ()))
noncomputable def q_ref16_Same : Lift := ⟨tyX, look2 .todo (α := LoopAs) (.n 17 [(4, (.as ⟨[], [[.fix], [.fix]], (.one, [.junk]) :: (.one, [.junk]) :: (.one, [.stat (.ptr 0 0)]) :: (.one, [.stat (.ptr 1 0)]) :: (.one, [.junk]) :: (.one, [.hole tI]) :: rp 26 (.one, [.junk]) ([])⟩))] .o .o), [c_ref15_Same], bsX⟩
theorem u_ref16_Same {N : Nat} {a0 : LF} {a1 : LF} {q : (Bool × Unit)} (h : M_ref16_Same N a0 a1 = some q) : S_ref16_Same a0 a1 = some q :=
 Sof_of (Q := q_ref16_Same) (N := N) (n := 3) (f := 17) (tin := i_ref16_Same) (tout := o_ref16_Same) (d := (a0, (a1, ()))) (all1 k_ref15_Same all0) bs_ok (by kernel_rfl) (by kernel_rfl) (by kernel_rfl) (Eq.trans (b := M_ref16_Same N a0 a1) (by kernel_rfl) h)

noncomputable def M__instr_operand_most (N : Nat) (n_0 : Int) : Option (Int × Unit) :=
 cnd (eqI n_0 2)
  (some (255, ()))
  (cnd (eqI n_0 3)
   (some (1999, ()))
   (cnd (eqI n_0 4)
    (some (39, ()))
    (cnd (eqI n_0 5)
     (some (3, ()))
     (cnd (eqI n_0 6)
      (some (119, ()))
      (some (0, ()))))))
noncomputable def q__instr_operand_most : Lift := ⟨tyX, look2 .todo (α := LoopAs) (.o), [], bsX⟩
theorem u__instr_operand_most {N : Nat} {a0 : Int} {q : (Int × Unit)} (h : M__instr_operand_most N a0 = some q) : S__instr_operand_most a0 = some q :=
 Sof_of (Q := q__instr_operand_most) (N := N) (n := 3) (f := 104) (tin := i__instr_operand_most) (tout := o__instr_operand_most) (d := (a0, ())) all0 bs_ok (by kernel_rfl) (by kernel_rfl) (by kernel_rfl) (Eq.trans (b := M__instr_operand_most N a0) (by kernel_rfl) h)

noncomputable def M__instr_operand_may (N : Nat) (n_0 : Int) (n_1 : Int) : Option (Bool × Unit) :=
 cnd (eqI n_0 1)
  (some (true, ()))
  (cnd (leI 0 n_1)
   (bnd (S__instr_operand_most n_0) <| fun p1 =>
   some ((leI n_1 p1.1), ()))
   (some (false, ())))
noncomputable def q__instr_operand_may : Lift := ⟨tyX, look2 .todo (α := LoopAs) (.o), [c__instr_operand_most], bsX⟩
theorem u__instr_operand_may {N : Nat} {a0 : Int} {a1 : Int} {q : (Bool × Unit)} (h : M__instr_operand_may N a0 a1 = some q) : S__instr_operand_may a0 a1 = some q :=
 Sof_of (Q := q__instr_operand_may) (N := N) (n := 3) (f := 78) (tin := i__instr_operand_may) (tout := o__instr_operand_may) (d := (a0, (a1, ()))) (all1 k__instr_operand_most all0) bs_ok (by kernel_rfl) (by kernel_rfl) (by kernel_rfl) (Eq.trans (b := M__instr_operand_may N a0 a1) (by kernel_rfl) h)

noncomputable def M_ops_is (N : Nat) (n_0 : Int) : Option (Bool × Unit) :=
 cnd (leI 0 n_0)
  (some ((ltI n_0 35), ()))
  (some (false, ()))
noncomputable def q_ops_is : Lift := ⟨tyX, look2 .todo (α := LoopAs) (.o), [], bsX⟩
theorem u_ops_is {N : Nat} {a0 : Int} {q : (Bool × Unit)} (h : M_ops_is N a0 = some q) : S_ops_is a0 = some q :=
 Sof_of (Q := q_ops_is) (N := N) (n := 3) (f := 103) (tin := i_ops_is) (tout := o_ops_is) (d := (a0, ())) all0 bs_ok (by kernel_rfl) (by kernel_rfl) (by kernel_rfl) (Eq.trans (b := M_ops_is N a0) (by kernel_rfl) h)

noncomputable def M_ops_Operand (N : Nat) (n_0 : Int) : Option (Int × Unit) :=
 bnd (S_ops_is n_0) <| fun p1 =>
 cnd (notB p1.1)
  (some (0, ()))
  (cnd (eqI n_0 34)
   (some (6, ()))
   (cnd (eqI n_0 33)
    (some (6, ()))
    (cnd (eqI n_0 32)
     (some (0, ()))
     (cnd (eqI n_0 31)
      (some (0, ()))
      (cnd (eqI n_0 30)
       (some (0, ()))
       (cnd (eqI n_0 29)
        (some (5, ()))
        (cnd (eqI n_0 28)
         (some (5, ()))
         (cnd (eqI n_0 27)
          (some (0, ()))
          (cnd (eqI n_0 26)
           (some (0, ()))
           (cnd (eqI n_0 25)
            (some (0, ()))
            (cnd (eqI n_0 24)
             (some (4, ()))
             (cnd (eqI n_0 23)
              (some (4, ()))
              (cnd (eqI n_0 22)
               (some (3, ()))
               (cnd (eqI n_0 21)
                (some (3, ()))
                (cnd (eqI n_0 20)
                 (some (0, ()))
                 (cnd (eqI n_0 19)
                  (some (0, ()))
                  (cnd (eqI n_0 18)
                   (some (0, ()))
                   (cnd (eqI n_0 17)
                    (some (0, ()))
                    (cnd (eqI n_0 16)
                     (some (0, ()))
                     (cnd (eqI n_0 15)
                      (some (0, ()))
                      (cnd (eqI n_0 14)
                       (some (0, ()))
                       (cnd (eqI n_0 13)
                        (some (0, ()))
                        (cnd (eqI n_0 12)
                         (some (0, ()))
                         (cnd (eqI n_0 11)
                          (some (0, ()))
                          (cnd (eqI n_0 10)
                           (some (0, ()))
                           (cnd (eqI n_0 9)
                            (some (0, ()))
                            (cnd (eqI n_0 8)
                             (some (0, ()))
                             (cnd (eqI n_0 7)
                              (some (0, ()))
                              (cnd (eqI n_0 6)
                               (some (0, ()))
                               (cnd (eqI n_0 5)
                                (some (0, ()))
                                (cnd (eqI n_0 4)
                                 (some (0, ()))
                                 (cnd (eqI n_0 3)
                                  (some (2, ()))
                                  (cnd (eqI n_0 2)
                                   (some (2, ()))
                                   (cnd (eqI n_0 1)
                                    (some (1, ()))
                                    (cnd (eqI n_0 0)
                                     (some (0, ()))
                                     (none))))))))))))))))))))))))))))))))))))
noncomputable def q_ops_Operand : Lift := ⟨tyX, look2 .todo (α := LoopAs) (.o), [c_ops_is], bsX⟩
theorem u_ops_Operand {N : Nat} {a0 : Int} {q : (Int × Unit)} (h : M_ops_Operand N a0 = some q) : S_ops_Operand a0 = some q :=
 Sof_of (Q := q_ops_Operand) (N := N) (n := 3) (f := 77) (tin := i_ops_Operand) (tout := o_ops_Operand) (d := (a0, ())) (all1 k_ops_is all0) bs_ok (by kernel_rfl) (by kernel_rfl) (by kernel_rfl) (Eq.trans (b := M_ops_Operand N a0) (by kernel_rfl) h)

noncomputable def M_instr_Right (N : Nat) (n_0 : Int) (n_1 : Int) : Option (Bool × Unit) :=
 cnd (leI 0 n_0)
  (cnd (ltI n_0 35)
   (bnd (S_ops_Operand n_0) <| fun p1 =>
   bnd (S__instr_operand_may p1.1 n_1) <| fun p2 =>
   some (p2.1, ()))
   (some (false, ())))
  (some (false, ()))
noncomputable def q_instr_Right : Lift := ⟨tyX, look2 .todo (α := LoopAs) (.o), [c__instr_operand_may, c_ops_Operand], bsX⟩
theorem u_instr_Right {N : Nat} {a0 : Int} {a1 : Int} {q : (Bool × Unit)} (h : M_instr_Right N a0 a1 = some q) : S_instr_Right a0 a1 = some q :=
 Sof_of (Q := q_instr_Right) (N := N) (n := 3) (f := 51) (tin := i_instr_Right) (tout := o_instr_Right) (d := (a0, (a1, ()))) (all1 k__instr_operand_may (all1 k_ops_Operand all0)) bs_ok (by kernel_rfl) (by kernel_rfl) (by kernel_rfl) (Eq.trans (b := M_instr_Right N a0 a1) (by kernel_rfl) h)

noncomputable def M_fnc_Can_1 (N : Nat) (n_0 : Int) (n_1 : Int) : Option (Bool × Unit) :=
 bnd (S_instr_Right n_0 n_1) <| fun p1 =>
 some ((notB p1.1), ())
noncomputable def q_fnc_Can_1 : Lift := ⟨tyX, look2 .todo (α := LoopAs) (.o), [c_instr_Right], bsX⟩
theorem u_fnc_Can_1 {N : Nat} {a0 : Int} {a1 : Int} {q : (Bool × Unit)} (h : M_fnc_Can_1 N a0 a1 = some q) : S_fnc_Can_1 a0 a1 = some q :=
 Sof_of (Q := q_fnc_Can_1) (N := N) (n := 3) (f := 90) (tin := i_fnc_Can_1) (tout := o_fnc_Can_1) (d := (a0, (a1, ()))) (all1 k_instr_Right all0) bs_ok (by kernel_rfl) (by kernel_rfl) (by kernel_rfl) (Eq.trans (b := M_fnc_Can_1 N a0 a1) (by kernel_rfl) h)

noncomputable def M_names_first (N : Nat) (x_0 : UInt8) : Option (Bool × Unit) :=
 cnd (leI 97 (u8I x_0))
  (some ((leI (u8I x_0) 122), ()))
  (some (false, ()))
noncomputable def q_names_first : Lift := ⟨tyX, look2 .todo (α := LoopAs) (.o), [], bsX⟩
theorem u_names_first {N : Nat} {a0 : UInt8} {q : (Bool × Unit)} (h : M_names_first N a0 = some q) : S_names_first a0 = some q :=
 Sof_of (Q := q_names_first) (N := N) (n := 3) (f := 56) (tin := i_names_first) (tout := o_names_first) (d := (a0, ())) all0 bs_ok (by kernel_rfl) (by kernel_rfl) (by kernel_rfl) (Eq.trans (b := M_names_first N a0) (by kernel_rfl) h)

noncomputable def M_names_other (N : Nat) (x_0 : UInt8) : Option (Bool × Unit) :=
 chk (inU8 (u8I x_0)) <|
 bnd (S_names_first (toU8 (u8I x_0))) <| fun p1 =>
 cnd p1.1
  (some (true, ()))
  (cnd (leI 48 (u8I x_0))
   (cnd (leI (u8I x_0) 57)
    (some (true, ()))
    (some ((eqI (u8I x_0) 95), ())))
   (some ((eqI (u8I x_0) 95), ())))
noncomputable def q_names_other : Lift := ⟨tyX, look2 .todo (α := LoopAs) (.o), [c_names_first], bsX⟩
theorem u_names_other {N : Nat} {a0 : UInt8} {q : (Bool × Unit)} (h : M_names_other N a0 = some q) : S_names_other a0 = some q :=
 Sof_of (Q := q_names_other) (N := N) (n := 3) (f := 57) (tin := i_names_other) (tout := o_names_other) (d := (a0, ())) (all1 k_names_first all0) bs_ok (by kernel_rfl) (by kernel_rfl) (by kernel_rfl) (Eq.trans (b := M_names_other N a0) (by kernel_rfl) h)

noncomputable def M_names_May (N : Nat) (l_0 : LB) : Option (Bool × Unit) :=
 joinK (δ := Unit) (cnd (seq2 (ByteArray.mk (Array.mk l_0)) bA0)
   (rightK <| some (false, ()))
   (cnd (ltI 12 (slen (ByteArray.mk (Array.mk l_0))))
    (rightK <| some (false, ()))
    (getS (ByteArray.mk (Array.mk l_0)) 0 <| fun x1 =>
    chk (inU8 (u8I x1)) <|
    bnd (S_names_first (toU8 (u8I x1))) <| fun p2 =>
    cnd (notB p2.1)
     (rightK <| some (false, ()))
     (qB (ByteArray.mk (Array.mk l_0)) <|
     leftK ()))))
 <| fun x3 =>
 qB (ByteArray.mk (Array.mk l_0)) <|
 qI (slen (ByteArray.mk (Array.mk l_0))) <|
 iter (fun (d4 : (Int × Unit)) again5 =>
  cnd (ltI d4.1 (slen (ByteArray.mk (Array.mk l_0))))
   (chk (leI 0 d4.1) <|
   getS (ByteArray.mk (Array.mk l_0)) (natI d4.1) <| fun x6 =>
   chk (inU8 (u8I x6)) <|
   bnd (S_names_other (toU8 (u8I x6))) <| fun p7 =>
   cnd (notB p7.1)
    (some (false, ()))
    (qB (ByteArray.mk (Array.mk l_0)) <|
    qI (slen (ByteArray.mk (Array.mk l_0))) <|
    again5 ((wrp .i64 (addI d4.1 1)), ())))
   (some (true, ()))) N (0, ())
noncomputable def q_names_May : Lift := ⟨tyX, look2 .todo (α := LoopAs) (.n 24 [(4, (.as ⟨[], [], (.one, [.fix]) :: rp 17 (.one, [.junk]) ((.one, [.fix]) :: (.one, [.hole tI]) :: rp 8 (.one, [.junk]) ([]))⟩)), (1012292, (.as ⟨[], [], (.one, [.fix]) :: rp 27 (.one, [.junk]) ([])⟩))] .o .o), [c_names_first, c_names_other], bsX⟩
theorem u_names_May {N : Nat} {a0 : LB} {q : (Bool × Unit)} (h : M_names_May N a0 = some q) : S_names_May a0 = some q :=
 Sof_of (Q := q_names_May) (N := N) (n := 3) (f := 24) (tin := i_names_May) (tout := o_names_May) (d := (a0, ())) (all1 k_names_first (all1 k_names_other all0)) bs_ok (by kernel_rfl) (by kernel_rfl) (by kernel_rfl) (Eq.trans (b := M_names_May N a0) (by kernel_rfl) h)

noncomputable def M_sig_May (N : Nat) (n_0 : Int) : Option (Bool × Unit) :=
 cnd (eqI n_0 1)
  (some (true, ()))
  (some ((eqI n_0 2), ()))
noncomputable def q_sig_May : Lift := ⟨tyX, look2 .todo (α := LoopAs) (.o), [], bsX⟩
theorem u_sig_May {N : Nat} {a0 : Int} {q : (Bool × Unit)} (h : M_sig_May N a0 = some q) : S_sig_May a0 = some q :=
 Sof_of (Q := q_sig_May) (N := N) (n := 3) (f := 127) (tin := i_sig_May) (tout := o_sig_May) (d := (a0, ())) all0 bs_ok (by kernel_rfl) (by kernel_rfl) (by kernel_rfl) (Eq.trans (b := M_sig_May N a0) (by kernel_rfl) h)

noncomputable def M_sig_Right_1 (N : Nat) (n_0 : Int) : Option (Bool × Unit) :=
 bnd (S_sig_May n_0) <| fun p1 =>
 some ((notB p1.1), ())
noncomputable def q_sig_Right_1 : Lift := ⟨tyX, look2 .todo (α := LoopAs) (.o), [c_sig_May], bsX⟩
theorem u_sig_Right_1 {N : Nat} {a0 : Int} {q : (Bool × Unit)} (h : M_sig_Right_1 N a0 = some q) : S_sig_Right_1 a0 = some q :=
 Sof_of (Q := q_sig_Right_1) (N := N) (n := 3) (f := 126) (tin := i_sig_Right_1) (tout := o_sig_Right_1) (d := (a0, ())) (all1 k_sig_May all0) bs_ok (by kernel_rfl) (by kernel_rfl) (by kernel_rfl) (Eq.trans (b := M_sig_Right_1 N a0) (by kernel_rfl) h)

noncomputable def M_sig_Right (N : Nat) (l_0 : LI) (n_1 : Int) : Option (Bool × Unit) :=
 cnd (leI (vlen (eI l_0)) n_1)
  (qS (eI l_0) <|
  qI (vlen (eI l_0)) <|
  iter (fun (d1 : (Int × Unit)) again2 =>
   cnd (ltI d1.1 (vlen (eI l_0)))
    (chk (leI 0 d1.1) <|
    getE tI (eI l_0) (natI d1.1) <| fun n3 =>
    bnd (S_sig_Right_1 n3) <| fun p4 =>
    cnd p4.1
     (some ((notB (leI 0 d1.1)), ()))
     (qS (eI l_0) <|
     qI (vlen (eI l_0)) <|
     again2 ((wrp .i64 (addI d1.1 1)), ())))
    (some (true, ()))) N (0, ()))
  (some (false, ()))
noncomputable def q_sig_Right : Lift := ⟨tyX, look2 .todo (α := LoopAs) (.n 132 [(2, (.as ⟨[], [], (.one, [.fix]) :: (.one, [.stat (.clo false 126 [])]) :: rp 5 (.one, [.junk]) ((.one, [.fix]) :: (.one, [.hole tI]) :: rp 10 (.one, [.junk]) ([]))⟩))] .o .o), [c_sig_Right_1], bsX⟩
theorem u_sig_Right {N : Nat} {a0 : LI} {a1 : Int} {q : (Bool × Unit)} (h : M_sig_Right N a0 a1 = some q) : S_sig_Right a0 a1 = some q :=
 Sof_of (Q := q_sig_Right) (N := N) (n := 3) (f := 112) (tin := i_sig_Right) (tout := o_sig_Right) (d := (a0, (a1, ()))) (all1 k_sig_Right_1 all0) bs_ok (by kernel_rfl) (by kernel_rfl) (by kernel_rfl) (Eq.trans (b := M_sig_Right N a0 a1) (by kernel_rfl) h)

noncomputable def M_fnc_types (N : Nat) (l_0 : LB) (b_1 : Bool) (l_2 : LI) (l_3 : LI) (l_4 : LI) (l_5 : LI) (l_6 : LC) (l_7 : LI) (l_8 : LN) (l_9 : LI) (l_10 : LS) : Option (Bool × Unit) :=
 joinK (δ := (Bool × Unit)) (dI l_3 <| fun l1 =>
  bnd (S_sig_Right l1 8) <| fun p2 =>
  cnd p2.1
   (dI l_4 <| fun l3 =>
   bnd (S_sig_Right l3 4) <| fun p4 =>
   cnd p4.1
    (dI l_5 <| fun l5 =>
    bnd (S_sig_Right l5 256) <| fun p6 =>
    qB (ByteArray.mk (Array.mk l_0)) <|
    qO b_1 <|
    qS (eI l_2) <|
    qS (eI l_3) <|
    qS (eI l_4) <|
    qS (eI l_5) <|
    qS (eC l_6) <|
    qS (eI l_7) <|
    qS (eN l_8) <|
    qS (eI l_9) <|
    qS (eS l_10) <|
    leftK (p6.1, ()))
    (qB (ByteArray.mk (Array.mk l_0)) <|
    qO b_1 <|
    qS (eI l_2) <|
    qS (eI l_3) <|
    qS (eI l_4) <|
    qS (eI l_5) <|
    qS (eC l_6) <|
    qS (eI l_7) <|
    qS (eN l_8) <|
    qS (eI l_9) <|
    qS (eS l_10) <|
    leftK (false, ())))
   (qB (ByteArray.mk (Array.mk l_0)) <|
   qO b_1 <|
   qS (eI l_2) <|
   qS (eI l_3) <|
   qS (eI l_4) <|
   qS (eI l_5) <|
   qS (eC l_6) <|
   qS (eI l_7) <|
   qS (eN l_8) <|
   qS (eI l_9) <|
   qS (eS l_10) <|
   leftK (false, ())))
 <| fun p7 =>
 cnd p7.1
  (dI l_2 <| fun l8 =>
  bnd (S_sig_Right l8 4) <| fun p9 =>
  cnd p9.1
   (cnd b_1
    (some (true, ()))
    (some ((eqI (vlen (eI l_2)) 0), ())))
   (some (false, ())))
  (some (false, ()))
noncomputable def q_fnc_types : Lift := ⟨tyX, look2 .todo (α := LoopAs) (.n 91 [(1008195, (.as ⟨[], [[.fix, .fix, .fix, .fix, .fix, .fix, .fix, .fix, .fix, .fix, .fix]], (.one, [.junk]) :: (.one, [.stat (.ptr 0 0)]) :: (.one, [.junk]) :: (.one, [.hole .bool]) :: rp 29 (.one, [.junk]) ([])⟩))] .o .o), [c_sig_Right], bsX⟩
theorem u_fnc_types {N : Nat} {a0 : LB} {a1 : Bool} {a2 : LI} {a3 : LI} {a4 : LI} {a5 : LI} {a6 : LC} {a7 : LI} {a8 : LN} {a9 : LI} {a10 : LS} {q : (Bool × Unit)} (h : M_fnc_types N a0 a1 a2 a3 a4 a5 a6 a7 a8 a9 a10 = some q) : S_fnc_types a0 a1 a2 a3 a4 a5 a6 a7 a8 a9 a10 = some q :=
 Sof_of (Q := q_fnc_types) (N := N) (n := 3) (f := 91) (tin := i_fnc_types) (tout := o_fnc_types) (d := (a0, (a1, (a2, (a3, (a4, (a5, (a6, (a7, (a8, (a9, (a10, ())))))))))))) (all1 k_sig_Right all0) bs_ok (by kernel_rfl) (by kernel_rfl) (by kernel_rfl) (Eq.trans (b := M_fnc_types N a0 a1 a2 a3 a4 a5 a6 a7 a8 a9 a10) (by kernel_rfl) h)

end Go.Proofs.YtkdnbnkbnegckaaGreatDoor
