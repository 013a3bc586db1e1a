/- Functions, lifted: what the program comes to by them. -/
import Derived.Test.YtkdnbnkbnegckaaGreatLpA
namespace Go.Proofs.YtkdnbnkbnegckaaGreat
open Go.RowKit
set_option maxRecDepth 100000
set_option linter.unusedVariables false
noncomputable def M_law15_Small (N : Nat) (l_0 : LB) (b_1 : Bool) (l_2 : LI) (l_3 : LI) (l_4 : LI) (l_5 : LI) (l_6 : LC) (l_7 : LI) (l_8 : LN) (l_9 : LI) (l_10 : LS) : Option (Bool × Unit) :=
 cnd (leI (vlen (eC l_6)) 150)
  (cnd (leI (vlen (eI l_7)) 150)
   (cnd (leI (vlen (eN l_8)) 20)
    (cnd (leI (vlen (eI l_9)) 150)
     (cnd (leI (vlen (eS l_10)) 150)
      (some ((leI (wrp .i64 (addI (wrp .i64 (addI (wrp .i64 (addI (vlen (eI l_3)) (vlen (eI l_4)))) (vlen (eI l_5)))) (vlen (eI l_2)))) 300), ()))
      (some (false, ())))
     (some (false, ())))
    (some (false, ())))
   (some (false, ())))
  (some (false, ()))
noncomputable def q_law15_Small : Lift := ⟨tyX, look2 .todo (α := LoopAs) (.o), [], bsX⟩
theorem u_law15_Small {N : Nat} {a0 : LB} {a1 : Bool} {a2 : LI} {a3 : LI} {a4 : LI} {a5 : LI} {a6 : LC} {a7 : LI} {a8 : LN} {a9 : LI} {a10 : LS} {q : (Bool × Unit)} (h : M_law15_Small N a0 a1 a2 a3 a4 a5 a6 a7 a8 a9 a10 = some q) : S_law15_Small a0 a1 a2 a3 a4 a5 a6 a7 a8 a9 a10 = some q :=
 Sof_of (Q := q_law15_Small) (N := N) (n := 3) (f := 18) (tin := i_law15_Small) (tout := o_law15_Small) (d := (a0, (a1, (a2, (a3, (a4, (a5, (a6, (a7, (a8, (a9, (a10, ())))))))))))) all0 bs_ok (by kernel_rfl) (by kernel_rfl) (by kernel_rfl) (Eq.trans (b := M_law15_Small N a0 a1 a2 a3 a4 a5 a6 a7 a8 a9 a10) (by kernel_rfl) h)

noncomputable def M_ref11_May (N : Nat) (n_0 : Int) : Option (Bool × Unit) :=
 cnd (eqI n_0 1)
  (some (true, ()))
  (some ((eqI n_0 2), ()))
noncomputable def q_ref11_May : Lift := ⟨tyX, look2 .todo (α := LoopAs) (.o), [], bsX⟩
theorem u_ref11_May {N : Nat} {a0 : Int} {q : (Bool × Unit)} (h : M_ref11_May N a0 = some q) : S_ref11_May a0 = some q :=
 Sof_of (Q := q_ref11_May) (N := N) (n := 3) (f := 113) (tin := i_ref11_May) (tout := o_ref11_May) (d := (a0, ())) all0 bs_ok (by kernel_rfl) (by kernel_rfl) (by kernel_rfl) (Eq.trans (b := M_ref11_May N a0) (by kernel_rfl) h)

noncomputable def M_ref11_Right (N : Nat) (l_0 : LI) (n_1 : Int) : Option (Bool × Unit) :=
 qS (eI l_0) <|
 qI n_1 <|
 iter (fun (d1 : (Int × Unit)) again2 =>
  cnd (ltI d1.1 (vlen (eI l_0)))
   (chk (leI 0 d1.1) <|
   getE tI (eI l_0) (natI d1.1) <| fun n3 =>
   bnd (S_ref11_May n3) <| fun p4 =>
   cnd (notB p4.1)
    (some (false, ()))
    (qS (eI l_0) <|
    qI n_1 <|
    again2 ((wrp .i64 (addI d1.1 1)), ())))
   (some ((leI (vlen (eI l_0)) n_1), ()))) N (0, ())
noncomputable def q_ref11_Right : Lift := ⟨tyX, look2 .todo (α := LoopAs) (.n 56 [(2, (.as ⟨[], [], (.one, [.fix]) :: (.one, [.fix]) :: (.one, [.junk]) :: (.one, [.junk]) :: (.one, [.junk]) :: (.one, [.hole tI]) :: rp 16 (.one, [.junk]) ([])⟩))] .o .o), [c_ref11_May], bsX⟩
theorem u_ref11_Right {N : Nat} {a0 : LI} {a1 : Int} {q : (Bool × Unit)} (h : M_ref11_Right N a0 a1 = some q) : S_ref11_Right a0 a1 = some q :=
 Sof_of (Q := q_ref11_Right) (N := N) (n := 3) (f := 56) (tin := i_ref11_Right) (tout := o_ref11_Right) (d := (a0, (a1, ()))) (all1 k_ref11_May all0) bs_ok (by kernel_rfl) (by kernel_rfl) (by kernel_rfl) (Eq.trans (b := M_ref11_Right N a0 a1) (by kernel_rfl) h)

noncomputable def M_ref12_Right (N : Nat) (l_0 : LI) : Option (Bool × Unit) :=
 qS (eI l_0) <|
 iter (fun (d1 : (Int × Unit)) again2 =>
  cnd (ltI d1.1 (vlen (eI l_0)))
   (joinK (δ := Unit) (chk (leI 0 d1.1) <|
    getE tI (eI l_0) (natI d1.1) <| fun n3 =>
    cnd (ltI n3 0)
     (rightK <| some (false, ()))
     (chk (leI 0 d1.1) <|
     getE tI (eI l_0) (natI d1.1) <| fun n4 =>
     cnd (ltI 65535 n4)
      (rightK <| some (false, ()))
      (qS (eI l_0) <|
      qI d1.1 <|
      leftK ())))
   <| fun x5 =>
   qS (eI l_0) <|
   again2 ((wrp .i64 (addI d1.1 1)), ()))
   (some ((leI (vlen (eI l_0)) 2000), ()))) N (0, ())
noncomputable def q_ref12_Right : Lift := ⟨tyX, look2 .todo (α := LoopAs) (.n 58 [(2, (.as ⟨[], [], (.one, [.fix]) :: (.one, [.junk]) :: (.one, [.junk]) :: (.one, [.hole tI]) :: rp 21 (.one, [.junk]) ([])⟩)), (1024580, (.as ⟨[], [], (.one, [.fix]) :: (.one, [.junk]) :: (.one, [.junk]) :: (.one, [.fix]) :: rp 21 (.one, [.junk]) ([])⟩))] .o .o), [], bsX⟩
theorem u_ref12_Right {N : Nat} {a0 : LI} {q : (Bool × Unit)} (h : M_ref12_Right N a0 = some q) : S_ref12_Right a0 = some q :=
 Sof_of (Q := q_ref12_Right) (N := N) (n := 3) (f := 58) (tin := i_ref12_Right) (tout := o_ref12_Right) (d := (a0, ())) all0 bs_ok (by kernel_rfl) (by kernel_rfl) (by kernel_rfl) (Eq.trans (b := M_ref12_Right N a0) (by kernel_rfl) h)

noncomputable def M_ref15_Bare (N : Nat) (l_0 : LB) (b_1 : Bool) (l_2 : LI) (l_3 : LI) (l_4 : LI) (l_5 : LI) (l_6 : LC) (l_7 : LI) (l_8 : LN) (l_9 : LI) (l_10 : LS) : Option (Bool × Unit) :=
 some ((eqI (wrp .i64 (addI (wrp .i64 (addI (vlen (eN l_8)) (vlen (eI l_9)))) (vlen (eS l_10)))) 0), ())
noncomputable def q_ref15_Bare : Lift := ⟨tyX, look2 .todo (α := LoopAs) (.o), [], bsX⟩
theorem u_ref15_Bare {N : Nat} {a0 : LB} {a1 : Bool} {a2 : LI} {a3 : LI} {a4 : LI} {a5 : LI} {a6 : LC} {a7 : LI} {a8 : LN} {a9 : LI} {a10 : LS} {q : (Bool × Unit)} (h : M_ref15_Bare N a0 a1 a2 a3 a4 a5 a6 a7 a8 a9 a10 = some q) : S_ref15_Bare a0 a1 a2 a3 a4 a5 a6 a7 a8 a9 a10 = some q :=
 Sof_of (Q := q_ref15_Bare) (N := N) (n := 3) (f := 115) (tin := i_ref15_Bare) (tout := o_ref15_Bare) (d := (a0, (a1, (a2, (a3, (a4, (a5, (a6, (a7, (a8, (a9, (a10, ())))))))))))) all0 bs_ok (by kernel_rfl) (by kernel_rfl) (by kernel_rfl) (Eq.trans (b := M_ref15_Bare N a0 a1 a2 a3 a4 a5 a6 a7 a8 a9 a10) (by kernel_rfl) h)

noncomputable def M_ref14_Right (N : Nat) (l_0 : LS) (n_1 : Int) : Option (Bool × Unit) :=
 qS (eS l_0) <|
 qI n_1 <|
 iter (fun (d1 : (Int × Unit)) again2 =>
  cnd (ltI d1.1 (vlen (eS l_0)))
   (chk (leI 0 d1.1) <|
   getE tS (eS l_0) (natI d1.1) <| fun p3 =>
   bnd (S_ref03_Range 0 n_1) <| fun p4 =>
   bnd (S_ref03_Inside p3.1 p3.2.1 p3.2.2.1 p3.2.2.2 p4.1 p4.2.1 p4.2.2.1 p4.2.2.2.1) <| fun p5 =>
   cnd (notB p5.1)
    (some (false, ()))
    (qS (eS l_0) <|
    qI n_1 <|
    again2 ((wrp .i64 (addI d1.1 1)), ())))
   (some ((leI (vlen (eS l_0)) 2000), ()))) N (0, ())
noncomputable def q_ref14_Right : Lift := ⟨tyX, look2 .todo (α := LoopAs) (.n 116 [(2, (.as ⟨[], [], (.one, [.fix]) :: (.one, [.fix]) :: (.one, [.junk]) :: (.one, [.junk]) :: (.one, [.junk]) :: (.one, [.hole tI]) :: rp 17 (.one, [.junk]) ([])⟩))] .o .o), [c_ref03_Range, c_ref03_Inside], bsX⟩
theorem u_ref14_Right {N : Nat} {a0 : LS} {a1 : Int} {q : (Bool × Unit)} (h : M_ref14_Right N a0 a1 = some q) : S_ref14_Right a0 a1 = some q :=
 Sof_of (Q := q_ref14_Right) (N := N) (n := 3) (f := 116) (tin := i_ref14_Right) (tout := o_ref14_Right) (d := (a0, (a1, ()))) (all1 k_ref03_Range (all1 k_ref03_Inside all0)) bs_ok (by kernel_rfl) (by kernel_rfl) (by kernel_rfl) (Eq.trans (b := M_ref14_Right N a0 a1) (by kernel_rfl) h)

noncomputable def M_ref15_tables (N : Nat) (l_0 : LB) (b_1 : Bool) (l_2 : LI) (l_3 : LI) (l_4 : LI) (l_5 : LI) (l_6 : LC) (l_7 : LI) (l_8 : LN) (l_9 : LI) (l_10 : LS) (n_11 : Int) : Option (Bool × Unit) :=
 dI l_2 <| fun l1 =>
 dI l_3 <| fun l2 =>
 dI l_4 <| fun l3 =>
 dI l_5 <| fun l4 =>
 dC l_6 <| fun l5 =>
 dI l_7 <| fun l6 =>
 dN l_8 <| fun l7 =>
 dI l_9 <| fun l8 =>
 dS l_10 <| fun l9 =>
 bnd (S_ref15_Bare l_0 b_1 l1 l2 l3 l4 l5 l6 l7 l8 l9) <| fun p10 =>
 cnd p10.1
  (some (true, ()))
  (joinK (δ := Unit) (dN l_8 <| fun l11 =>
   bnd (S_ref13_Right l11) <| fun p12 =>
   cnd (notB p12.1)
    (rightK <| some (false, ()))
    (cnd (notB (eqI (vlen (eI l_9)) (vlen (eC l_6))))
     (rightK <| some (false, ()))
     (cnd (notB (eqI (vlen (eS l_10)) (vlen (eC l_6))))
      (rightK <| some (false, ()))
      (dS l_10 <| fun l13 =>
      bnd (S_ref14_Right l13 n_11) <| fun p14 =>
      cnd (notB p14.1)
       (rightK <| some (false, ()))
       (qB (ByteArray.mk (Array.mk l_0)) <|
       qO b_1 <|
       qS (eI l_2) <|
       qS (eI l_3) <|
       qS (eI l_4) <|
       qS (eI l_5) <|
       qS (eC l_6) <|
       qS (eI l_7) <|
       qS (eN l_8) <|
       qS (eI l_9) <|
       qS (eS l_10) <|
       leftK ())))))
  <| fun x15 =>
  qB (ByteArray.mk (Array.mk l_0)) <|
  qO b_1 <|
  qS (eI l_2) <|
  qS (eI l_3) <|
  qS (eI l_4) <|
  qS (eI l_5) <|
  qS (eC l_6) <|
  qS (eI l_7) <|
  qS (eN l_8) <|
  qS (eI l_9) <|
  qS (eS l_10) <|
  iter (fun (d16 : (Int × Unit)) again17 =>
   cnd (ltI d16.1 (vlen (eI l_9)))
    (joinK (δ := Unit) (chk (leI 0 d16.1) <|
     getE tI (eI l_9) (natI d16.1) <| fun n18 =>
     cnd (ltI n18 0)
      (rightK <| some (false, ()))
      (chk (leI 0 d16.1) <|
      getE tI (eI l_9) (natI d16.1) <| fun n19 =>
      cnd (leI (vlen (eN l_8)) n19)
       (rightK <| some (false, ()))
       (qB (ByteArray.mk (Array.mk l_0)) <|
       qO b_1 <|
       qS (eI l_2) <|
       qS (eI l_3) <|
       qS (eI l_4) <|
       qS (eI l_5) <|
       qS (eC l_6) <|
       qS (eI l_7) <|
       qS (eN l_8) <|
       qS (eI l_9) <|
       qS (eS l_10) <|
       qI d16.1 <|
       leftK ())))
    <| fun x20 =>
    qB (ByteArray.mk (Array.mk l_0)) <|
    qO b_1 <|
    qS (eI l_2) <|
    qS (eI l_3) <|
    qS (eI l_4) <|
    qS (eI l_5) <|
    qS (eC l_6) <|
    qS (eI l_7) <|
    qS (eN l_8) <|
    qS (eI l_9) <|
    qS (eS l_10) <|
    again17 ((wrp .i64 (addI d16.1 1)), ()))
    (some (true, ()))) N (0, ()))
noncomputable def q_ref15_tables : Lift := ⟨tyX, look2 .todo (α := LoopAs) (.n 59 [(6, (.as ⟨[], [[.fix, .fix, .fix, .fix, .fix, .fix, .fix, .fix, .fix, .fix, .fix]], (.one, [.junk]) :: (.one, [.junk]) :: (.one, [.stat (.ptr 0 0)]) :: (.one, [.junk]) :: (.one, [.junk]) :: (.one, [.hole tI]) :: rp 55 (.one, [.junk]) ([])⟩)), (1020486, (.as ⟨[], [[.fix, .fix, .fix, .fix, .fix, .fix, .fix, .fix, .fix, .fix, .fix]], (.one, [.junk]) :: (.one, [.junk]) :: (.one, [.stat (.ptr 0 0)]) :: rp 58 (.one, [.junk]) ([])⟩)), (1040968, (.as ⟨[], [[.fix, .fix, .fix, .fix, .fix, .fix, .fix, .fix, .fix, .fix, .fix]], (.one, [.junk]) :: (.one, [.junk]) :: (.one, [.stat (.ptr 0 0)]) :: (.one, [.junk]) :: (.one, [.junk]) :: (.one, [.fix]) :: rp 55 (.one, [.junk]) ([])⟩))] .o .o), [c_ref15_Bare, c_ref13_Right, c_ref14_Right], bsX⟩
theorem u_ref15_tables {N : Nat} {a0 : LB} {a1 : Bool} {a2 : LI} {a3 : LI} {a4 : LI} {a5 : LI} {a6 : LC} {a7 : LI} {a8 : LN} {a9 : LI} {a10 : LS} {a11 : Int} {q : (Bool × Unit)} (h : M_ref15_tables N a0 a1 a2 a3 a4 a5 a6 a7 a8 a9 a10 a11 = some q) : S_ref15_tables a0 a1 a2 a3 a4 a5 a6 a7 a8 a9 a10 a11 = some q :=
 Sof_of (Q := q_ref15_tables) (N := N) (n := 3) (f := 59) (tin := i_ref15_tables) (tout := o_ref15_tables) (d := (a0, (a1, (a2, (a3, (a4, (a5, (a6, (a7, (a8, (a9, (a10, (a11, ()))))))))))))) (all1 k_ref15_Bare (all1 k_ref13_Right (all1 k_ref14_Right all0))) bs_ok (by kernel_rfl) (by kernel_rfl) (by kernel_rfl) (Eq.trans (b := M_ref15_tables N a0 a1 a2 a3 a4 a5 a6 a7 a8 a9 a10 a11) (by kernel_rfl) h)

noncomputable def M_ref15_Can (N : Nat) (l_0 : LB) (b_1 : Bool) (l_2 : LI) (l_3 : LI) (l_4 : LI) (l_5 : LI) (l_6 : LC) (l_7 : LI) (l_8 : LN) (l_9 : LI) (l_10 : LS) : Option (Int × Unit) :=
 joinK (δ := Unit) (bnd (S_ref05_May l_0) <| fun p1 =>
  cnd (notB p1.1)
   (rightK <| some (7, ()))
   (joinK (δ := (Bool × Unit)) (dI l_2 <| fun l2 =>
    bnd (S_ref11_Right l2 4) <| fun p3 =>
    cnd (notB p3.1)
     (qB (ByteArray.mk (Array.mk l_0)) <|
     qO b_1 <|
     qS (eI l_2) <|
     qS (eI l_3) <|
     qS (eI l_4) <|
     qS (eI l_5) <|
     qS (eC l_6) <|
     qS (eI l_7) <|
     qS (eN l_8) <|
     qS (eI l_9) <|
     qS (eS l_10) <|
     qI (wrp .i64 (addI (wrp .i64 (addI (vlen (eI l_3)) (vlen (eI l_4)))) (vlen (eI l_5)))) <|
     leftK (true, ()))
     (dI l_3 <| fun l4 =>
     bnd (S_ref11_Right l4 8) <| fun p5 =>
     cnd (notB p5.1)
      (qB (ByteArray.mk (Array.mk l_0)) <|
      qO b_1 <|
      qS (eI l_2) <|
      qS (eI l_3) <|
      qS (eI l_4) <|
      qS (eI l_5) <|
      qS (eC l_6) <|
      qS (eI l_7) <|
      qS (eN l_8) <|
      qS (eI l_9) <|
      qS (eS l_10) <|
      qI (wrp .i64 (addI (wrp .i64 (addI (vlen (eI l_3)) (vlen (eI l_4)))) (vlen (eI l_5)))) <|
      leftK (true, ()))
      (dI l_4 <| fun l6 =>
      bnd (S_ref11_Right l6 4) <| fun p7 =>
      cnd (notB p7.1)
       (qB (ByteArray.mk (Array.mk l_0)) <|
       qO b_1 <|
       qS (eI l_2) <|
       qS (eI l_3) <|
       qS (eI l_4) <|
       qS (eI l_5) <|
       qS (eC l_6) <|
       qS (eI l_7) <|
       qS (eN l_8) <|
       qS (eI l_9) <|
       qS (eS l_10) <|
       qI (wrp .i64 (addI (wrp .i64 (addI (vlen (eI l_3)) (vlen (eI l_4)))) (vlen (eI l_5)))) <|
       leftK (true, ()))
       (dI l_5 <| fun l8 =>
       bnd (S_ref11_Right l8 256) <| fun p9 =>
       cnd (notB p9.1)
        (qB (ByteArray.mk (Array.mk l_0)) <|
        qO b_1 <|
        qS (eI l_2) <|
        qS (eI l_3) <|
        qS (eI l_4) <|
        qS (eI l_5) <|
        qS (eC l_6) <|
        qS (eI l_7) <|
        qS (eN l_8) <|
        qS (eI l_9) <|
        qS (eS l_10) <|
        qI (wrp .i64 (addI (wrp .i64 (addI (vlen (eI l_3)) (vlen (eI l_4)))) (vlen (eI l_5)))) <|
        leftK (true, ()))
        (cnd (ltI 0 (vlen (eI l_2)))
         (qB (ByteArray.mk (Array.mk l_0)) <|
         qO b_1 <|
         qS (eI l_2) <|
         qS (eI l_3) <|
         qS (eI l_4) <|
         qS (eI l_5) <|
         qS (eC l_6) <|
         qS (eI l_7) <|
         qS (eN l_8) <|
         qS (eI l_9) <|
         qS (eS l_10) <|
         qI (wrp .i64 (addI (wrp .i64 (addI (vlen (eI l_3)) (vlen (eI l_4)))) (vlen (eI l_5)))) <|
         leftK ((notB b_1), ()))
         (qB (ByteArray.mk (Array.mk l_0)) <|
         qO b_1 <|
         qS (eI l_2) <|
         qS (eI l_3) <|
         qS (eI l_4) <|
         qS (eI l_5) <|
         qS (eC l_6) <|
         qS (eI l_7) <|
         qS (eN l_8) <|
         qS (eI l_9) <|
         qS (eS l_10) <|
         qI (wrp .i64 (addI (wrp .i64 (addI (vlen (eI l_3)) (vlen (eI l_4)))) (vlen (eI l_5)))) <|
         leftK (false, ())))))))
   <| fun p10 =>
   cnd p10.1
    (rightK <| some (9, ()))
    (cnd (ltI 256 (wrp .i64 (addI (wrp .i64 (addI (vlen (eI l_3)) (vlen (eI l_4)))) (vlen (eI l_5)))))
     (rightK <| some (6, ()))
     (cnd (ltI (vlen (eC l_6)) 1)
      (rightK <| some (6, ()))
      (cnd (ltI 2000 (vlen (eC l_6)))
       (rightK <| some (6, ()))
       (qB (ByteArray.mk (Array.mk l_0)) <|
       qO b_1 <|
       qS (eI l_2) <|
       qS (eI l_3) <|
       qS (eI l_4) <|
       qS (eI l_5) <|
       qS (eC l_6) <|
       qS (eI l_7) <|
       qS (eN l_8) <|
       qS (eI l_9) <|
       qS (eS l_10) <|
       qI (wrp .i64 (addI (wrp .i64 (addI (vlen (eI l_3)) (vlen (eI l_4)))) (vlen (eI l_5)))) <|
       leftK ()))))))
 <| fun x11 =>
 qB (ByteArray.mk (Array.mk l_0)) <|
 qO b_1 <|
 qS (eI l_2) <|
 qS (eI l_3) <|
 qS (eI l_4) <|
 qS (eI l_5) <|
 qS (eC l_6) <|
 qS (eI l_7) <|
 qS (eN l_8) <|
 qS (eI l_9) <|
 qS (eS l_10) <|
 qI (wrp .i64 (addI (wrp .i64 (addI (vlen (eI l_3)) (vlen (eI l_4)))) (vlen (eI l_5)))) <|
 iter (fun (d12 : (Int × Unit)) again13 =>
  cnd (ltI d12.1 (vlen (eC l_6)))
   (chk (leI 0 d12.1) <|
   getE tC (eC l_6) (natI d12.1) <| fun p14 =>
   bnd (S_ref10_Right p14.1 p14.2) <| fun p15 =>
   cnd (notB p15.1)
    (some (8, ()))
    (qB (ByteArray.mk (Array.mk l_0)) <|
    qO b_1 <|
    qS (eI l_2) <|
    qS (eI l_3) <|
    qS (eI l_4) <|
    qS (eI l_5) <|
    qS (eC l_6) <|
    qS (eI l_7) <|
    qS (eN l_8) <|
    qS (eI l_9) <|
    qS (eS l_10) <|
    qI (wrp .i64 (addI (wrp .i64 (addI (vlen (eI l_3)) (vlen (eI l_4)))) (vlen (eI l_5)))) <|
    again13 ((wrp .i64 (addI d12.1 1)), ())))
   (joinK (δ := Unit) (cnd (notB (eqI (vlen (eI l_7)) (vlen (eC l_6))))
     (rightK <| some (19, ()))
     (dI l_7 <| fun l16 =>
     bnd (S_ref12_Right l16) <| fun p17 =>
     cnd (notB p17.1)
      (rightK <| some (19, ()))
      (qB (ByteArray.mk (Array.mk l_0)) <|
      qO b_1 <|
      qS (eI l_2) <|
      qS (eI l_3) <|
      qS (eI l_4) <|
      qS (eI l_5) <|
      qS (eC l_6) <|
      qS (eI l_7) <|
      qS (eN l_8) <|
      qS (eI l_9) <|
      qS (eS l_10) <|
      qI (wrp .i64 (addI (wrp .i64 (addI (vlen (eI l_3)) (vlen (eI l_4)))) (vlen (eI l_5)))) <|
      leftK ())))
   <| fun x18 =>
   dI l_2 <| fun l19 =>
   dI l_3 <| fun l20 =>
   dI l_4 <| fun l21 =>
   dI l_5 <| fun l22 =>
   dC l_6 <| fun l23 =>
   dI l_7 <| fun l24 =>
   dN l_8 <| fun l25 =>
   dI l_9 <| fun l26 =>
   dS l_10 <| fun l27 =>
   bnd (S_ref15_tables l_0 b_1 l19 l20 l21 l22 l23 l24 l25 l26 l27 (wrp .i64 (addI (wrp .i64 (addI (vlen (eI l_3)) (vlen (eI l_4)))) (vlen (eI l_5))))) <| fun p28 =>
   cnd (notB p28.1)
    (some (14, ()))
    (some (0, ())))) N (0, ())
noncomputable def q_ref15_Can : Lift := ⟨tyX, look2 .todo (α := LoopAs) (.n 19 [(9, (.as ⟨[], [[.fix, .fix, .fix, .fix, .fix, .fix, .fix, .fix, .fix, .fix, .fix]], (.one, [.junk]) :: (.one, [.stat (.ptr 0 0)]) :: (.one, [.junk]) :: (.one, [.fix]) :: (.one, [.hole tI]) :: rp 96 (.one, [.junk]) ([])⟩)), (1020486, (.as ⟨[], [[.fix, .fix, .fix, .fix, .fix, .fix, .fix, .fix, .fix, .fix, .fix]], (.one, [.junk]) :: (.one, [.stat (.ptr 0 0)]) :: (.one, [.junk]) :: (.one, [.fix]) :: rp 17 (.one, [.junk]) ((.one, [.hole .bool]) :: rp 79 (.one, [.junk]) ([]))⟩)), (1032777, (.as ⟨[], [[.fix, .fix, .fix, .fix, .fix, .fix, .fix, .fix, .fix, .fix, .fix]], (.one, [.junk]) :: (.one, [.stat (.ptr 0 0)]) :: (.one, [.junk]) :: (.one, [.fix]) :: rp 97 (.one, [.junk]) ([])⟩)), (1061456, (.as ⟨[], [[.fix, .fix, .fix, .fix, .fix, .fix, .fix, .fix, .fix, .fix, .fix]], (.one, [.junk]) :: (.one, [.stat (.ptr 0 0)]) :: (.one, [.junk]) :: (.one, [.fix]) :: rp 97 (.one, [.junk]) ([])⟩))] .o .o), [c_ref05_May, c_ref11_Right, c_ref10_Right, c_ref12_Right, c_ref15_tables], bsX⟩
theorem u_ref15_Can {N : Nat} {a0 : LB} {a1 : Bool} {a2 : LI} {a3 : LI} {a4 : LI} {a5 : LI} {a6 : LC} {a7 : LI} {a8 : LN} {a9 : LI} {a10 : LS} {q : (Int × Unit)} (h : M_ref15_Can N a0 a1 a2 a3 a4 a5 a6 a7 a8 a9 a10 = some q) : S_ref15_Can a0 a1 a2 a3 a4 a5 a6 a7 a8 a9 a10 = some q :=
 Sof_of (Q := q_ref15_Can) (N := N) (n := 3) (f := 19) (tin := i_ref15_Can) (tout := o_ref15_Can) (d := (a0, (a1, (a2, (a3, (a4, (a5, (a6, (a7, (a8, (a9, (a10, ())))))))))))) (all1 k_ref05_May (all1 k_ref11_Right (all1 k_ref10_Right (all1 k_ref12_Right (all1 k_ref15_tables all0))))) bs_ok (by kernel_rfl) (by kernel_rfl) (by kernel_rfl) (Eq.trans (b := M_ref15_Can N a0 a1 a2 a3 a4 a5 a6 a7 a8 a9 a10) (by kernel_rfl) h)

noncomputable def M_uvar_Put (N : Nat) (l_0 : LB) (n_1 : Int) : Option (LB × Unit) :=
 dY l_0 <| fun l1 =>
 qN (vnum (eY l_0)) <|
 iter (fun (d2 : (LB × (Int × Unit))) again3 =>
  cnd (leI 128 d2.2.1)
   (qN (vnum (eY d2.1)) <|
   chk (room (vnum (eY d2.1)) (vnum (vcut [[(C.v (Go.Value.int .u8 (bitI .or .u8 (wrp .u8 d2.2.1) 128)))]] 0 1)) 1) <|
   decL tY (vapp (eY d2.1) (vcut [[(C.v (Go.Value.int .u8 (bitI .or .u8 (wrp .u8 d2.2.1) 128)))]] 0 1)) <| fun l4 =>
   chk (eqN (addN (vnum (eY d2.1)) (vnum (vcut [[(C.v (Go.Value.int .u8 (bitI .or .u8 (wrp .u8 d2.2.1) 128)))]] 0 1))) (vnum (vapp (eY d2.1) (vcut [[(C.v (Go.Value.int .u8 (bitI .or .u8 (wrp .u8 d2.2.1) 128)))]] 0 1)))) <|
   again3 (l4, ((shrI .u64 d2.2.1 7), ())))
   (qN (vnum (eY d2.1)) <|
   chk (room (vnum (eY d2.1)) (vnum (vcut [[(C.v (Go.Value.int .u8 (wrp .u8 d2.2.1)))]] 0 1)) 1) <|
   decL tY (vapp (eY d2.1) (vcut [[(C.v (Go.Value.int .u8 (wrp .u8 d2.2.1)))]] 0 1)) <| fun l5 =>
   chk (eqN (addN (vnum (eY d2.1)) (vnum (vcut [[(C.v (Go.Value.int .u8 (wrp .u8 d2.2.1)))]] 0 1))) (vnum (vapp (eY d2.1) (vcut [[(C.v (Go.Value.int .u8 (wrp .u8 d2.2.1)))]] 0 1)))) <|
   some (l5, ()))) N (l1, (n_1, ()))
noncomputable def q_uvar_Put : Lift := ⟨tyX, look2 .todo (α := LoopAs) (.n 60 [(1, (.as ⟨[.dead, .mu 5 1 tY], [], (.one, [.own 1]) :: (.one, [.hole tW]) :: rp 18 (.one, [.junk]) ([])⟩)), (1020480, (.times 0))] .o .o), [], bsX⟩
theorem u_uvar_Put {N : Nat} {a0 : LB} {a1 : Int} {q : (LB × Unit)} (h : M_uvar_Put N a0 a1 = some q) : S_uvar_Put a0 a1 = some q :=
 Sof_of (Q := q_uvar_Put) (N := N) (n := 3) (f := 60) (tin := i_uvar_Put) (tout := o_uvar_Put) (d := (a0, (a1, ()))) all0 bs_ok (by kernel_rfl) (by kernel_rfl) (by kernel_rfl) (Eq.trans (b := M_uvar_Put N a0 a1) (by kernel_rfl) h)

noncomputable def M_fnc_flag (N : Nat) (l_0 : LB) (b_1 : Bool) (l_2 : LI) (l_3 : LI) (l_4 : LI) (l_5 : LI) (l_6 : LC) (l_7 : LI) (l_8 : LN) (l_9 : LI) (l_10 : LS) : Option (UInt8 × Unit) :=
 joinK (δ := (UInt8 × Unit)) (cnd b_1
   (qB (ByteArray.mk (Array.mk l_0)) <|
   qO b_1 <|
   qS (eI l_2) <|
   qS (eI l_3) <|
   qS (eI l_4) <|
   qS (eI l_5) <|
   qS (eC l_6) <|
   qS (eI l_7) <|
   qS (eN l_8) <|
   qS (eI l_9) <|
   qS (eS l_10) <|
   chk (inU8 (bitI .or .u8 0 1)) <|
   leftK ((toU8 (bitI .or .u8 0 1)), ()))
   (qB (ByteArray.mk (Array.mk l_0)) <|
   qO b_1 <|
   qS (eI l_2) <|
   qS (eI l_3) <|
   qS (eI l_4) <|
   qS (eI l_5) <|
   qS (eC l_6) <|
   qS (eI l_7) <|
   qS (eN l_8) <|
   qS (eI l_9) <|
   qS (eS l_10) <|
   leftK ((toU8 0), ())))
 <| fun p1 =>
 dI l_2 <| fun l2 =>
 dI l_3 <| fun l3 =>
 dI l_4 <| fun l4 =>
 dI l_5 <| fun l5 =>
 dC l_6 <| fun l6 =>
 dI l_7 <| fun l7 =>
 dN l_8 <| fun l8 =>
 dI l_9 <| fun l9 =>
 dS l_10 <| fun l10 =>
 bnd (S_fnc_Bare l_0 b_1 l2 l3 l4 l5 l6 l7 l8 l9 l10) <| fun p11 =>
 cnd (notB p11.1)
  (chk (inU8 (bitI .or .u8 (u8I p1.1) 2)) <|
  some ((toU8 (bitI .or .u8 (u8I p1.1) 2)), ()))
  (chk (inU8 (u8I p1.1)) <|
  some ((toU8 (u8I p1.1)), ()))
noncomputable def q_fnc_flag : Lift := ⟨tyX, look2 .todo (α := LoopAs) (.n 61 [(1016389, (.as ⟨[], [[.fix, .fix, .fix, .fix, .fix, .fix, .fix, .fix, .fix, .fix, .fix]], (.one, [.junk]) :: (.one, [.stat (.ptr 0 0)]) :: (.one, [.junk]) :: (.one, [.hole tY]) :: rp 10 (.one, [.junk]) ([])⟩))] .o .o), [c_fnc_Bare], bsX⟩
theorem u_fnc_flag {N : Nat} {a0 : LB} {a1 : Bool} {a2 : LI} {a3 : LI} {a4 : LI} {a5 : LI} {a6 : LC} {a7 : LI} {a8 : LN} {a9 : LI} {a10 : LS} {q : (UInt8 × Unit)} (h : M_fnc_flag N a0 a1 a2 a3 a4 a5 a6 a7 a8 a9 a10 = some q) : S_fnc_flag a0 a1 a2 a3 a4 a5 a6 a7 a8 a9 a10 = some q :=
 Sof_of (Q := q_fnc_flag) (N := N) (n := 3) (f := 61) (tin := i_fnc_flag) (tout := o_fnc_flag) (d := (a0, (a1, (a2, (a3, (a4, (a5, (a6, (a7, (a8, (a9, (a10, ())))))))))))) (all1 k_fnc_Bare all0) bs_ok (by kernel_rfl) (by kernel_rfl) (by kernel_rfl) (Eq.trans (b := M_fnc_flag N a0 a1 a2 a3 a4 a5 a6 a7 a8 a9 a10) (by kernel_rfl) h)

noncomputable def M_sig_Put (N : Nat) (l_0 : LB) (l_1 : LI) : Option (LB × Unit) :=
 dI l_1 <| fun l1 =>
 bnd (S_sig_Right l1 (vlen (eI l_1))) <| fun p2 =>
 cnd (notB p2.1)
  (dY l_0 <| fun l3 =>
  qN (vnum (eY l_0)) <|
  some (l3, ()))
  (dY l_0 <| fun l4 =>
  qN (vnum (eY l_0)) <|
  bnd (S_uvar_Put l4 (wrp .u64 (vlen (eI l_1)))) <| fun p5 =>
  dY p5.1 <| fun l6 =>
  qN (vnum (eY p5.1)) <|
  qS (eI l_1) <|
  qI (vlen (eI l_1)) <|
  iter (fun (d7 : (LB × (Int × Unit))) again8 =>
   cnd (ltI d7.2.1 (vlen (eI l_1)))
    (chk (leI 0 d7.2.1) <|
    getE tI (eI l_1) (natI d7.2.1) <| fun n9 =>
    qN (vnum (eY d7.1)) <|
    chk (room (vnum (eY d7.1)) (vnum (vcut [[(C.v (Go.Value.int .u8 (wrp .u8 n9)))]] 0 1)) 1) <|
    decL tY (vapp (eY d7.1) (vcut [[(C.v (Go.Value.int .u8 (wrp .u8 n9)))]] 0 1)) <| fun l10 =>
    chk (eqN (addN (vnum (eY d7.1)) (vnum (vcut [[(C.v (Go.Value.int .u8 (wrp .u8 n9)))]] 0 1))) (vnum (vapp (eY d7.1) (vcut [[(C.v (Go.Value.int .u8 (wrp .u8 n9)))]] 0 1)))) <|
    qS (eI l_1) <|
    qI (vlen (eI l_1)) <|
    again8 (l10, ((wrp .i64 (addI d7.2.1 1)), ())))
    (dY d7.1 <| fun l11 =>
    qN (vnum (eY d7.1)) <|
    some (l11, ()))) N (l6, (0, ())))
noncomputable def q_sig_Put : Lift := ⟨tyX, look2 .todo (α := LoopAs) (.n 62 [(5, (.as ⟨[.dead, .mu 5 1 tY], [], (.one, [.own 1]) :: rp 17 (.one, [.junk]) ((.one, [.fix]) :: (.one, [.fix]) :: (.one, [.hole tI]) :: rp 10 (.one, [.junk]) ([]))⟩)), (1012288, (.times 0)), (1040960, (.times 0))] .o .o), [c_sig_Right, c_uvar_Put], bsX⟩
theorem u_sig_Put {N : Nat} {a0 : LB} {a1 : LI} {q : (LB × Unit)} (h : M_sig_Put N a0 a1 = some q) : S_sig_Put a0 a1 = some q :=
 Sof_of (Q := q_sig_Put) (N := N) (n := 3) (f := 62) (tin := i_sig_Put) (tout := o_sig_Put) (d := (a0, (a1, ()))) (all1 k_sig_Right (all1 k_uvar_Put all0)) bs_ok (by kernel_rfl) (by kernel_rfl) (by kernel_rfl) (Eq.trans (b := M_sig_Put N a0 a1) (by kernel_rfl) h)

noncomputable def M_uvar_Fold (N : Nat) (n_0 : Int) : Option (Int × Unit) :=
 some ((bitI .xor .u64 (wrp .u64 (shlI .u64 (wrp .u64 n_0) 1)) (wrp .u64 (shrI .i64 n_0 63))), ())
noncomputable def q_uvar_Fold : Lift := ⟨tyX, look2 .todo (α := LoopAs) (.o), [], bsX⟩
theorem u_uvar_Fold {N : Nat} {a0 : Int} {q : (Int × Unit)} (h : M_uvar_Fold N a0 = some q) : S_uvar_Fold a0 = some q :=
 Sof_of (Q := q_uvar_Fold) (N := N) (n := 3) (f := 158) (tin := i_uvar_Fold) (tout := o_uvar_Fold) (d := (a0, ())) all0 bs_ok (by kernel_rfl) (by kernel_rfl) (by kernel_rfl) (Eq.trans (b := M_uvar_Fold N a0) (by kernel_rfl) h)
end Go.Proofs.YtkdnbnkbnegckaaGreat
