/- Functions, lifted: what the program comes to by them. -/
import Derived.Test.YtkdnbnkbnegckaaGreatDoorAbA
namespace Go.Proofs.YtkdnbnkbnegckaaGreatDoor
open Go.RowKit
set_option maxRecDepth 100000
set_option linter.unusedVariables false
noncomputable def M_ref09_Operand (N : Nat) (n_0 : Int) : Option (Int × Unit) :=
 cnd (eqI n_0 1)
  (some (1, ()))
  (joinK (δ := (Bool × Unit)) (cnd (eqI n_0 2)
    (qI n_0 <|
    leftK ((eqI n_0 2), ()))
    (qI n_0 <|
    leftK ((eqI n_0 3), ())))
  <| fun p1 =>
  cnd p1.1
   (some (2, ()))
   (joinK (δ := (Bool × Unit)) (cnd (eqI n_0 21)
     (qI n_0 <|
     leftK ((eqI n_0 21), ()))
     (qI n_0 <|
     leftK ((eqI n_0 22), ())))
   <| fun p2 =>
   cnd p2.1
    (some (3, ()))
    (joinK (δ := (Bool × Unit)) (cnd (eqI n_0 23)
      (qI n_0 <|
      leftK ((eqI n_0 23), ()))
      (qI n_0 <|
      leftK ((eqI n_0 24), ())))
    <| fun p3 =>
    cnd p3.1
     (some (4, ()))
     (joinK (δ := (Bool × Unit)) (cnd (eqI n_0 28)
       (qI n_0 <|
       leftK ((eqI n_0 28), ()))
       (qI n_0 <|
       leftK ((eqI n_0 29), ())))
     <| fun p4 =>
     cnd p4.1
      (some (5, ()))
      (cnd (eqI n_0 33)
       (cnd (eqI n_0 33)
        (some (6, ()))
        (some (0, ())))
       (cnd (eqI n_0 34)
        (some (6, ()))
        (some (0, ()))))))))
noncomputable def q_ref09_Operand : Lift := ⟨tyX, look2 .todo (α := LoopAs) (.n 54 [(1024583, (.as ⟨[], [], (.one, [.junk]) :: (.one, [.junk]) :: (.one, [.junk]) :: (.one, [.fix]) :: (.one, [.junk]) :: (.one, [.junk]) :: (.one, [.hole .bool]) :: rp 14 (.one, [.junk]) ([])⟩)), (1036874, (.as ⟨[], [], (.one, [.junk]) :: (.one, [.junk]) :: (.one, [.junk]) :: (.one, [.fix]) :: rp 5 (.one, [.junk]) ((.one, [.hole .bool]) :: rp 11 (.one, [.junk]) ([]))⟩)), (1049165, (.as ⟨[], [], (.one, [.junk]) :: (.one, [.junk]) :: (.one, [.junk]) :: (.one, [.fix]) :: rp 8 (.one, [.junk]) ((.one, [.hole .bool]) :: rp 8 (.one, [.junk]) ([]))⟩)), (1061456, (.as ⟨[], [], (.one, [.junk]) :: (.one, [.junk]) :: (.one, [.junk]) :: (.one, [.fix]) :: rp 11 (.one, [.junk]) ((.one, [.hole .bool]) :: rp 5 (.one, [.junk]) ([]))⟩))] .o .o), [], bsX⟩
theorem u_ref09_Operand {N : Nat} {a0 : Int} {q : (Int × Unit)} (h : M_ref09_Operand N a0 = some q) : S_ref09_Operand a0 = some q :=
 Sof_of (Q := q_ref09_Operand) (N := N) (n := 3) (f := 54) (tin := i_ref09_Operand) (tout := o_ref09_Operand) (d := (a0, ())) all0 bs_ok (by kernel_rfl) (by kernel_rfl) (by kernel_rfl) (Eq.trans (b := M_ref09_Operand N a0) (by kernel_rfl) h)

noncomputable def M_ref10_most (N : Nat) (n_0 : Int) : Option (Int × Unit) :=
 cnd (eqI n_0 6)
  (some (119, ()))
  (cnd (eqI n_0 5)
   (some (3, ()))
   (cnd (eqI n_0 4)
    (some (39, ()))
    (cnd (eqI n_0 3)
     (some (1999, ()))
     (cnd (eqI n_0 2)
      (some (255, ()))
      (cnd (eqI n_0 1)
       (some (0, ()))
       (cnd (eqI n_0 0)
        (some (0, ()))
        (none)))))))
noncomputable def q_ref10_most : Lift := ⟨tyX, look2 .todo (α := LoopAs) (.o), [], bsX⟩
theorem u_ref10_most {N : Nat} {a0 : Int} {q : (Int × Unit)} (h : M_ref10_most N a0 = some q) : S_ref10_most a0 = some q :=
 Sof_of (Q := q_ref10_most) (N := N) (n := 3) (f := 81) (tin := i_ref10_most) (tout := o_ref10_most) (d := (a0, ())) all0 bs_ok (by kernel_rfl) (by kernel_rfl) (by kernel_rfl) (Eq.trans (b := M_ref10_most N a0) (by kernel_rfl) h)

noncomputable def M_ref10_Right (N : Nat) (n_0 : Int) (n_1 : Int) : Option (Bool × Unit) :=
 joinK (δ := Unit) (cnd (ltI n_0 0)
   (rightK <| some (false, ()))
   (cnd (leI 35 n_0)
    (rightK <| some (false, ()))
    (qI n_0 <|
    qI n_1 <|
    leftK ())))
 <| fun x1 =>
 bnd (S_ref09_Operand n_0) <| fun p2 =>
 cnd (eqI p2.1 1)
  (some (true, ()))
  (cnd (leI 0 n_1)
   (bnd (S_ref10_most p2.1) <| fun p3 =>
   some ((leI n_1 p3.1), ()))
   (some (false, ())))
noncomputable def q_ref10_Right : Lift := ⟨tyX, look2 .todo (α := LoopAs) (.n 55 [(1012292, (.as ⟨[], [[.fix, .fix]], (.one, [.junk]) :: (.one, [.stat (.ptr 0 0)]) :: rp 27 (.one, [.junk]) ([])⟩))] .o .o), [c_ref09_Operand, c_ref10_most], bsX⟩
theorem u_ref10_Right {N : Nat} {a0 : Int} {a1 : Int} {q : (Bool × Unit)} (h : M_ref10_Right N a0 a1 = some q) : S_ref10_Right a0 a1 = some q :=
 Sof_of (Q := q_ref10_Right) (N := N) (n := 3) (f := 55) (tin := i_ref10_Right) (tout := o_ref10_Right) (d := (a0, (a1, ()))) (all1 k_ref09_Operand (all1 k_ref10_most all0)) bs_ok (by kernel_rfl) (by kernel_rfl) (by kernel_rfl) (Eq.trans (b := M_ref10_Right N a0 a1) (by kernel_rfl) h)

noncomputable def M_ref12_Right (N : Nat) (l_0 : LI) : Option (Bool × Unit) :=
 qS (eI l_0) <|
 iter (fun (d1 : (Int × Unit)) again2 =>
  cnd (ltI d1.1 (vlen (eI l_0)))
   (joinK (δ := Unit) (chk (leI 0 d1.1) <|
    getE tI (eI l_0) (natI d1.1) <| fun n3 =>
    cnd (ltI n3 0)
     (rightK <| some (false, ()))
     (chk (leI 0 d1.1) <|
     getE tI (eI l_0) (natI d1.1) <| fun n4 =>
     cnd (ltI 65535 n4)
      (rightK <| some (false, ()))
      (qS (eI l_0) <|
      qI d1.1 <|
      leftK ())))
   <| fun x5 =>
   qS (eI l_0) <|
   again2 ((wrp .i64 (addI d1.1 1)), ()))
   (some ((leI (vlen (eI l_0)) 2000), ()))) N (0, ())
noncomputable def q_ref12_Right : Lift := ⟨tyX, look2 .todo (α := LoopAs) (.n 60 [(2, (.as ⟨[], [], (.one, [.fix]) :: (.one, [.junk]) :: (.one, [.junk]) :: (.one, [.hole tI]) :: rp 21 (.one, [.junk]) ([])⟩)), (1024580, (.as ⟨[], [], (.one, [.fix]) :: (.one, [.junk]) :: (.one, [.junk]) :: (.one, [.fix]) :: rp 21 (.one, [.junk]) ([])⟩))] .o .o), [], bsX⟩
theorem u_ref12_Right {N : Nat} {a0 : LI} {q : (Bool × Unit)} (h : M_ref12_Right N a0 = some q) : S_ref12_Right a0 = some q :=
 Sof_of (Q := q_ref12_Right) (N := N) (n := 3) (f := 60) (tin := i_ref12_Right) (tout := o_ref12_Right) (d := (a0, ())) all0 bs_ok (by kernel_rfl) (by kernel_rfl) (by kernel_rfl) (Eq.trans (b := M_ref12_Right N a0) (by kernel_rfl) h)

noncomputable def M_ref15_Bare (N : Nat) (l_0 : LB) (b_1 : Bool) (l_2 : LI) (l_3 : LI) (l_4 : LI) (l_5 : LI) (l_6 : LC) (l_7 : LI) (l_8 : LN) (l_9 : LI) (l_10 : LS) : Option (Bool × Unit) :=
 some ((eqI (wrp .i64 (addI (wrp .i64 (addI (vlen (eN l_8)) (vlen (eI l_9)))) (vlen (eS l_10)))) 0), ())
noncomputable def q_ref15_Bare : Lift := ⟨tyX, look2 .todo (α := LoopAs) (.o), [], bsX⟩
theorem u_ref15_Bare {N : Nat} {a0 : LB} {a1 : Bool} {a2 : LI} {a3 : LI} {a4 : LI} {a5 : LI} {a6 : LC} {a7 : LI} {a8 : LN} {a9 : LI} {a10 : LS} {q : (Bool × Unit)} (h : M_ref15_Bare N a0 a1 a2 a3 a4 a5 a6 a7 a8 a9 a10 = some q) : S_ref15_Bare a0 a1 a2 a3 a4 a5 a6 a7 a8 a9 a10 = some q :=
 Sof_of (Q := q_ref15_Bare) (N := N) (n := 3) (f := 14) (tin := i_ref15_Bare) (tout := o_ref15_Bare) (d := (a0, (a1, (a2, (a3, (a4, (a5, (a6, (a7, (a8, (a9, (a10, ())))))))))))) all0 bs_ok (by kernel_rfl) (by kernel_rfl) (by kernel_rfl) (Eq.trans (b := M_ref15_Bare N a0 a1 a2 a3 a4 a5 a6 a7 a8 a9 a10) (by kernel_rfl) h)

noncomputable def M_ref13_Right (N : Nat) (l_0 : LN) : Option (Bool × Unit) :=
 joinK (δ := Unit) (cnd (ltI (vlen (eN l_0)) 1)
   (rightK <| some (false, ()))
   (cnd (ltI 120 (vlen (eN l_0)))
    (rightK <| some (false, ()))
    (qS (eN l_0) <|
    leftK ())))
 <| fun x1 =>
 qS (eN l_0) <|
 iter (fun (d2 : (Int × (Int × Unit))) again3 =>
  cnd (ltI d2.2.1 (vlen (eN l_0)))
   (chk (leI 0 d2.2.1) <|
   getE tN (eN l_0) (natI d2.2.1) <| fun p4 =>
   joinK (δ := Unit) (cnd (ltI p4.2.1 0)
     (rightK <| some (false, ()))
     (cnd (ltI 39 p4.2.1)
      (rightK <| some (false, ()))
      (cnd (ltI p4.2.2.1 0)
       (rightK <| some (false, ()))
       (cnd (ltI 65535 p4.2.2.1)
        (rightK <| some (false, ()))
        (cnd (ltI p4.2.2.2.2.1 0)
         (rightK <| some (false, ()))
         (cnd (ltI 8 p4.2.2.2.2.1)
          (rightK <| some (false, ()))
          (cnd (ltI p4.2.2.2.1 d2.1)
           (rightK <| some (false, ()))
           (cnd (ltI 256 p4.2.2.2.1)
            (rightK <| some (false, ()))
            (cnd (ltI p4.2.2.2.2.2.1 p4.2.2.2.1)
             (rightK <| some (false, ()))
             (cnd (ltI 256 p4.2.2.2.2.2.1)
              (rightK <| some (false, ()))
              (cnd (ltI (wrp .i64 (subI p4.2.2.2.2.2.1 p4.2.2.2.1)) p4.2.2.2.2.1)
               (rightK <| some (false, ()))
               (qI p4.1 <|
               qI p4.2.1 <|
               qI p4.2.2.1 <|
               qI p4.2.2.2.1 <|
               qI p4.2.2.2.2.1 <|
               qI p4.2.2.2.2.2.1 <|
               qI p4.2.2.2.2.2.2 <|
               qS (eN l_0) <|
               qI d2.2.1 <|
               leftK ()))))))))))))
   <| fun x5 =>
   joinK (δ := Unit) (cnd (eqI d2.2.1 0)
     (cnd (notB (eqI p4.1 (-1)))
      (rightK <| some (false, ()))
      (cnd (notB (eqI p4.2.2.1 0))
       (rightK <| some (false, ()))
       (cnd (notB (eqI p4.2.2.2.1 0))
        (rightK <| some (false, ()))
        (cnd (notB (eqI p4.2.2.2.2.2.2 0))
         (rightK <| some (false, ()))
         (qI p4.1 <|
         qI p4.2.1 <|
         qI p4.2.2.1 <|
         qI p4.2.2.2.1 <|
         qI p4.2.2.2.2.1 <|
         qI p4.2.2.2.2.2.1 <|
         qI p4.2.2.2.2.2.2 <|
         qS (eN l_0) <|
         qI d2.2.1 <|
         leftK ())))))
     (qI p4.1 <|
     qI p4.2.1 <|
     qI p4.2.2.1 <|
     qI p4.2.2.2.1 <|
     qI p4.2.2.2.2.1 <|
     qI p4.2.2.2.2.2.1 <|
     qI p4.2.2.2.2.2.2 <|
     qS (eN l_0) <|
     qI d2.2.1 <|
     leftK ()))
   <| fun x6 =>
   joinK (δ := Unit) (cnd (ltI 0 d2.2.1)
     (cnd (ltI p4.1 0)
      (rightK <| some (false, ()))
      (cnd (leI d2.2.1 p4.1)
       (rightK <| some (false, ()))
       (cnd (ltI p4.2.2.2.2.2.2 1)
        (rightK <| some (false, ()))
        (cnd (ltI 1999 p4.2.2.2.2.2.2)
         (rightK <| some (false, ()))
         (qI p4.1 <|
         qI p4.2.1 <|
         qI p4.2.2.1 <|
         qI p4.2.2.2.1 <|
         qI p4.2.2.2.2.1 <|
         qI p4.2.2.2.2.2.1 <|
         qI p4.2.2.2.2.2.2 <|
         qS (eN l_0) <|
         qI d2.2.1 <|
         leftK ())))))
     (qI p4.1 <|
     qI p4.2.1 <|
     qI p4.2.2.1 <|
     qI p4.2.2.2.1 <|
     qI p4.2.2.2.2.1 <|
     qI p4.2.2.2.2.2.1 <|
     qI p4.2.2.2.2.2.2 <|
     qS (eN l_0) <|
     qI d2.2.1 <|
     leftK ()))
   <| fun x7 =>
   qS (eN l_0) <|
   again3 (p4.2.2.2.2.2.1, ((wrp .i64 (addI d2.2.1 1)), ())))
   (some (true, ()))) N (0, (0, ()))
noncomputable def q_ref13_Right : Lift := ⟨tyX, look2 .todo (α := LoopAs) (.n 84 [(5, (.as ⟨[], [], (.one, [.fix]) :: (.one, [.junk]) :: (.one, [.junk]) :: (.one, [.hole tI]) :: (.one, [.hole tI]) :: rp 127 (.one, [.junk]) ([])⟩)), (1012292, (.as ⟨[], [], (.one, [.fix]) :: rp 131 (.one, [.junk]) ([])⟩)), (1040971, (.as ⟨[], [[.fix, .fix, .fix, .fix, .fix, .fix, .fix]], (.one, [.fix]) :: (.one, [.junk]) :: (.one, [.junk]) :: (.one, [.junk]) :: (.one, [.fix]) :: (.one, [.stat (.ptr 0 0)]) :: rp 126 (.one, [.junk]) ([])⟩)), (1049165, (.as ⟨[], [[.fix, .fix, .fix, .fix, .fix, .fix, .fix]], (.one, [.fix]) :: (.one, [.junk]) :: (.one, [.junk]) :: (.one, [.junk]) :: (.one, [.fix]) :: (.one, [.stat (.ptr 0 0)]) :: rp 126 (.one, [.junk]) ([])⟩)), (1057359, (.as ⟨[], [[.fix, .fix, .fix, .fix, .fix, .fix, .fix]], (.one, [.fix]) :: (.one, [.junk]) :: (.one, [.junk]) :: (.one, [.junk]) :: (.one, [.fix]) :: (.one, [.stat (.ptr 0 0)]) :: rp 126 (.one, [.junk]) ([])⟩))] .o .o), [], bsX⟩
theorem u_ref13_Right {N : Nat} {a0 : LN} {q : (Bool × Unit)} (h : M_ref13_Right N a0 = some q) : S_ref13_Right a0 = some q :=
 Sof_of (Q := q_ref13_Right) (N := N) (n := 3) (f := 84) (tin := i_ref13_Right) (tout := o_ref13_Right) (d := (a0, ())) all0 bs_ok (by kernel_rfl) (by kernel_rfl) (by kernel_rfl) (Eq.trans (b := M_ref13_Right N a0) (by kernel_rfl) h)

noncomputable def M_ref03_Range (N : Nat) (n_0 : Int) (n_1 : Int) : Option (Int × (Int × (Int × (Int × Unit)))) :=
 qI n_1 <|
 iter (fun (d1 : (Int × (Int × (Int × (Int × (Int × (Int × (Int × (Int × (Int × Unit)))))))))) again2 =>
  cnd (ltI d1.2.2.2.2.2.2.2.2.1 (minI n_1 256))
   (joinK (δ := (Int × (Int × (Int × (Int × (Int × (Int × (Int × (Int × Unit))))))))) (cnd (eqI (wrp .i64 (quoI d1.2.2.2.2.2.2.2.2.1 64)) 3)
     (chk (leI 0 (wrp .u64 (remI d1.2.2.2.2.2.2.2.2.1 64))) <|
     cnd (eqI (wrp .i64 (quoI d1.2.2.2.2.2.2.2.2.1 64)) 3)
      (qI n_1 <|
      qI d1.2.2.2.2.2.2.2.2.1 <|
      leftK (d1.1, (d1.2.1, (d1.2.2.1, (d1.2.2.2.1, (d1.2.2.2.2.1, (d1.2.2.2.2.2.1, (d1.2.2.2.2.2.2.1, ((wrp .u64 (addI d1.2.2.2.2.2.2.2.1 (wrp .u64 (shlI .u64 1 (wrp .u64 (remI d1.2.2.2.2.2.2.2.2.1 64)))))), ())))))))))
      (cnd (eqI (wrp .i64 (quoI d1.2.2.2.2.2.2.2.2.1 64)) 2)
       (qI n_1 <|
       qI d1.2.2.2.2.2.2.2.2.1 <|
       leftK (d1.1, (d1.2.1, (d1.2.2.1, (d1.2.2.2.1, (d1.2.2.2.2.1, (d1.2.2.2.2.2.1, ((wrp .u64 (addI d1.2.2.2.2.2.2.2.1 (wrp .u64 (shlI .u64 1 (wrp .u64 (remI d1.2.2.2.2.2.2.2.2.1 64)))))), (d1.2.2.2.2.2.2.2.1, ())))))))))
       (cnd (eqI (wrp .i64 (quoI d1.2.2.2.2.2.2.2.2.1 64)) 1)
        (qI n_1 <|
        qI d1.2.2.2.2.2.2.2.2.1 <|
        leftK (d1.1, (d1.2.1, (d1.2.2.1, (d1.2.2.2.1, (d1.2.2.2.2.1, ((wrp .u64 (addI d1.2.2.2.2.2.2.2.1 (wrp .u64 (shlI .u64 1 (wrp .u64 (remI d1.2.2.2.2.2.2.2.2.1 64)))))), (d1.2.2.2.2.2.2.1, (d1.2.2.2.2.2.2.2.1, ())))))))))
        (cnd (eqI (wrp .i64 (quoI d1.2.2.2.2.2.2.2.2.1 64)) 0)
         (qI n_1 <|
         qI d1.2.2.2.2.2.2.2.2.1 <|
         leftK (d1.1, (d1.2.1, (d1.2.2.1, (d1.2.2.2.1, ((wrp .u64 (addI d1.2.2.2.2.2.2.2.1 (wrp .u64 (shlI .u64 1 (wrp .u64 (remI d1.2.2.2.2.2.2.2.2.1 64)))))), (d1.2.2.2.2.2.1, (d1.2.2.2.2.2.2.1, (d1.2.2.2.2.2.2.2.1, ())))))))))
         (none)))))
     (cnd (eqI (wrp .i64 (quoI d1.2.2.2.2.2.2.2.2.1 64)) 2)
      (chk (leI 0 (wrp .u64 (remI d1.2.2.2.2.2.2.2.2.1 64))) <|
      cnd (eqI (wrp .i64 (quoI d1.2.2.2.2.2.2.2.2.1 64)) 3)
       (qI n_1 <|
       qI d1.2.2.2.2.2.2.2.2.1 <|
       leftK (d1.1, (d1.2.1, (d1.2.2.1, (d1.2.2.2.1, (d1.2.2.2.2.1, (d1.2.2.2.2.2.1, (d1.2.2.2.2.2.2.1, ((wrp .u64 (addI d1.2.2.2.2.2.2.1 (wrp .u64 (shlI .u64 1 (wrp .u64 (remI d1.2.2.2.2.2.2.2.2.1 64)))))), ())))))))))
       (cnd (eqI (wrp .i64 (quoI d1.2.2.2.2.2.2.2.2.1 64)) 2)
        (qI n_1 <|
        qI d1.2.2.2.2.2.2.2.2.1 <|
        leftK (d1.1, (d1.2.1, (d1.2.2.1, (d1.2.2.2.1, (d1.2.2.2.2.1, (d1.2.2.2.2.2.1, ((wrp .u64 (addI d1.2.2.2.2.2.2.1 (wrp .u64 (shlI .u64 1 (wrp .u64 (remI d1.2.2.2.2.2.2.2.2.1 64)))))), (d1.2.2.2.2.2.2.2.1, ())))))))))
        (cnd (eqI (wrp .i64 (quoI d1.2.2.2.2.2.2.2.2.1 64)) 1)
         (qI n_1 <|
         qI d1.2.2.2.2.2.2.2.2.1 <|
         leftK (d1.1, (d1.2.1, (d1.2.2.1, (d1.2.2.2.1, (d1.2.2.2.2.1, ((wrp .u64 (addI d1.2.2.2.2.2.2.1 (wrp .u64 (shlI .u64 1 (wrp .u64 (remI d1.2.2.2.2.2.2.2.2.1 64)))))), (d1.2.2.2.2.2.2.1, (d1.2.2.2.2.2.2.2.1, ())))))))))
         (cnd (eqI (wrp .i64 (quoI d1.2.2.2.2.2.2.2.2.1 64)) 0)
          (qI n_1 <|
          qI d1.2.2.2.2.2.2.2.2.1 <|
          leftK (d1.1, (d1.2.1, (d1.2.2.1, (d1.2.2.2.1, ((wrp .u64 (addI d1.2.2.2.2.2.2.1 (wrp .u64 (shlI .u64 1 (wrp .u64 (remI d1.2.2.2.2.2.2.2.2.1 64)))))), (d1.2.2.2.2.2.1, (d1.2.2.2.2.2.2.1, (d1.2.2.2.2.2.2.2.1, ())))))))))
          (none)))))
      (cnd (eqI (wrp .i64 (quoI d1.2.2.2.2.2.2.2.2.1 64)) 1)
       (chk (leI 0 (wrp .u64 (remI d1.2.2.2.2.2.2.2.2.1 64))) <|
       cnd (eqI (wrp .i64 (quoI d1.2.2.2.2.2.2.2.2.1 64)) 3)
        (qI n_1 <|
        qI d1.2.2.2.2.2.2.2.2.1 <|
        leftK (d1.1, (d1.2.1, (d1.2.2.1, (d1.2.2.2.1, (d1.2.2.2.2.1, (d1.2.2.2.2.2.1, (d1.2.2.2.2.2.2.1, ((wrp .u64 (addI d1.2.2.2.2.2.1 (wrp .u64 (shlI .u64 1 (wrp .u64 (remI d1.2.2.2.2.2.2.2.2.1 64)))))), ())))))))))
        (cnd (eqI (wrp .i64 (quoI d1.2.2.2.2.2.2.2.2.1 64)) 2)
         (qI n_1 <|
         qI d1.2.2.2.2.2.2.2.2.1 <|
         leftK (d1.1, (d1.2.1, (d1.2.2.1, (d1.2.2.2.1, (d1.2.2.2.2.1, (d1.2.2.2.2.2.1, ((wrp .u64 (addI d1.2.2.2.2.2.1 (wrp .u64 (shlI .u64 1 (wrp .u64 (remI d1.2.2.2.2.2.2.2.2.1 64)))))), (d1.2.2.2.2.2.2.2.1, ())))))))))
         (cnd (eqI (wrp .i64 (quoI d1.2.2.2.2.2.2.2.2.1 64)) 1)
          (qI n_1 <|
          qI d1.2.2.2.2.2.2.2.2.1 <|
          leftK (d1.1, (d1.2.1, (d1.2.2.1, (d1.2.2.2.1, (d1.2.2.2.2.1, ((wrp .u64 (addI d1.2.2.2.2.2.1 (wrp .u64 (shlI .u64 1 (wrp .u64 (remI d1.2.2.2.2.2.2.2.2.1 64)))))), (d1.2.2.2.2.2.2.1, (d1.2.2.2.2.2.2.2.1, ())))))))))
          (cnd (eqI (wrp .i64 (quoI d1.2.2.2.2.2.2.2.2.1 64)) 0)
           (qI n_1 <|
           qI d1.2.2.2.2.2.2.2.2.1 <|
           leftK (d1.1, (d1.2.1, (d1.2.2.1, (d1.2.2.2.1, ((wrp .u64 (addI d1.2.2.2.2.2.1 (wrp .u64 (shlI .u64 1 (wrp .u64 (remI d1.2.2.2.2.2.2.2.2.1 64)))))), (d1.2.2.2.2.2.1, (d1.2.2.2.2.2.2.1, (d1.2.2.2.2.2.2.2.1, ())))))))))
           (none)))))
       (cnd (eqI (wrp .i64 (quoI d1.2.2.2.2.2.2.2.2.1 64)) 0)
        (chk (leI 0 (wrp .u64 (remI d1.2.2.2.2.2.2.2.2.1 64))) <|
        cnd (eqI (wrp .i64 (quoI d1.2.2.2.2.2.2.2.2.1 64)) 3)
         (qI n_1 <|
         qI d1.2.2.2.2.2.2.2.2.1 <|
         leftK (d1.1, (d1.2.1, (d1.2.2.1, (d1.2.2.2.1, (d1.2.2.2.2.1, (d1.2.2.2.2.2.1, (d1.2.2.2.2.2.2.1, ((wrp .u64 (addI d1.2.2.2.2.1 (wrp .u64 (shlI .u64 1 (wrp .u64 (remI d1.2.2.2.2.2.2.2.2.1 64)))))), ())))))))))
         (cnd (eqI (wrp .i64 (quoI d1.2.2.2.2.2.2.2.2.1 64)) 2)
          (qI n_1 <|
          qI d1.2.2.2.2.2.2.2.2.1 <|
          leftK (d1.1, (d1.2.1, (d1.2.2.1, (d1.2.2.2.1, (d1.2.2.2.2.1, (d1.2.2.2.2.2.1, ((wrp .u64 (addI d1.2.2.2.2.1 (wrp .u64 (shlI .u64 1 (wrp .u64 (remI d1.2.2.2.2.2.2.2.2.1 64)))))), (d1.2.2.2.2.2.2.2.1, ())))))))))
          (cnd (eqI (wrp .i64 (quoI d1.2.2.2.2.2.2.2.2.1 64)) 1)
           (qI n_1 <|
           qI d1.2.2.2.2.2.2.2.2.1 <|
           leftK (d1.1, (d1.2.1, (d1.2.2.1, (d1.2.2.2.1, (d1.2.2.2.2.1, ((wrp .u64 (addI d1.2.2.2.2.1 (wrp .u64 (shlI .u64 1 (wrp .u64 (remI d1.2.2.2.2.2.2.2.2.1 64)))))), (d1.2.2.2.2.2.2.1, (d1.2.2.2.2.2.2.2.1, ())))))))))
           (cnd (eqI (wrp .i64 (quoI d1.2.2.2.2.2.2.2.2.1 64)) 0)
            (qI n_1 <|
            qI d1.2.2.2.2.2.2.2.2.1 <|
            leftK (d1.1, (d1.2.1, (d1.2.2.1, (d1.2.2.2.1, ((wrp .u64 (addI d1.2.2.2.2.1 (wrp .u64 (shlI .u64 1 (wrp .u64 (remI d1.2.2.2.2.2.2.2.2.1 64)))))), (d1.2.2.2.2.2.1, (d1.2.2.2.2.2.2.1, (d1.2.2.2.2.2.2.2.1, ())))))))))
            (none)))))
        (none)))))
   <| fun p3 =>
   qI n_1 <|
   again2 (p3.1, (p3.2.1, (p3.2.2.1, (p3.2.2.2.1, (p3.2.2.2.2.1, (p3.2.2.2.2.2.1, (p3.2.2.2.2.2.2.1, (p3.2.2.2.2.2.2.2.1, ((wrp .i64 (addI d1.2.2.2.2.2.2.2.2.1 1)), ()))))))))))
   (some (d1.2.2.2.2.1, (d1.2.2.2.2.2.1, (d1.2.2.2.2.2.2.1, (d1.2.2.2.2.2.2.2.1, ())))))) N (0, (0, (0, (0, (0, (0, (0, (0, ((maxI n_0 0), ())))))))))
noncomputable def q_ref03_Range : Lift := ⟨tyX, look2 .todo (α := LoopAs) (.n 106 [(3, (.as ⟨[], [[.hole tW, .hole tW, .hole tW, .hole tW], [.hole tW, .hole tW, .hole tW, .hole tW]], (.one, [.junk]) :: (.one, [.fix]) :: (.one, [.junk]) :: (.one, [.junk]) :: (.one, [.stat (.ptr 0 0)]) :: (.one, [.stat (.ptr 1 0)]) :: (.one, [.hole tI]) :: rp 21 (.one, [.junk]) ([])⟩)), (1024581, (.as ⟨[], [[.hole tW, .hole tW, .hole tW, .hole tW], [.hole tW, .hole tW, .hole tW, .hole tW]], (.one, [.junk]) :: (.one, [.fix]) :: (.one, [.junk]) :: (.one, [.junk]) :: (.one, [.stat (.ptr 0 0)]) :: (.one, [.stat (.ptr 1 0)]) :: (.one, [.fix]) :: rp 21 (.one, [.junk]) ([])⟩))] .o .o), [], bsX⟩
theorem u_ref03_Range {N : Nat} {a0 : Int} {a1 : Int} {q : (Int × (Int × (Int × (Int × Unit))))} (h : M_ref03_Range N a0 a1 = some q) : S_ref03_Range a0 a1 = some q :=
 Sof_of (Q := q_ref03_Range) (N := N) (n := 3) (f := 106) (tin := i_ref03_Range) (tout := o_ref03_Range) (d := (a0, (a1, ()))) all0 bs_ok (by kernel_rfl) (by kernel_rfl) (by kernel_rfl) (Eq.trans (b := M_ref03_Range N a0 a1) (by kernel_rfl) h)

noncomputable def M_ref03_Sub (N : Nat) (n_0 : Int) (n_1 : Int) (n_2 : Int) (n_3 : Int) (n_4 : Int) (n_5 : Int) (n_6 : Int) (n_7 : Int) : Option (Int × (Int × (Int × (Int × Unit)))) :=
 some ((bitI .andNot .u64 n_0 n_4), ((bitI .andNot .u64 n_1 n_5), ((bitI .andNot .u64 n_2 n_6), ((bitI .andNot .u64 n_3 n_7), ()))))
noncomputable def q_ref03_Sub : Lift := ⟨tyX, look2 .todo (α := LoopAs) (.n 122 [(2, (.times 5))] .o .o), [], bsX⟩
theorem u_ref03_Sub {N : Nat} {a0 : Int} {a1 : Int} {a2 : Int} {a3 : Int} {a4 : Int} {a5 : Int} {a6 : Int} {a7 : Int} {q : (Int × (Int × (Int × (Int × Unit))))} (h : M_ref03_Sub N a0 a1 a2 a3 a4 a5 a6 a7 = some q) : S_ref03_Sub a0 a1 a2 a3 a4 a5 a6 a7 = some q :=
 Sof_of (Q := q_ref03_Sub) (N := N) (n := 3) (f := 122) (tin := i_ref03_Sub) (tout := o_ref03_Sub) (d := (a0, (a1, (a2, (a3, (a4, (a5, (a6, (a7, ()))))))))) all0 bs_ok (by kernel_rfl) (by kernel_rfl) (by kernel_rfl) (Eq.trans (b := M_ref03_Sub N a0 a1 a2 a3 a4 a5 a6 a7) (by kernel_rfl) h)

noncomputable def M_ref03_Inside (N : Nat) (n_0 : Int) (n_1 : Int) (n_2 : Int) (n_3 : Int) (n_4 : Int) (n_5 : Int) (n_6 : Int) (n_7 : Int) : Option (Bool × Unit) :=
 bnd (S_ref03_Sub n_0 n_1 n_2 n_3 n_4 n_5 n_6 n_7) <| fun p1 =>
 some ((eqL [p1.1, p1.2.1, p1.2.2.1, p1.2.2.2.1] [0, 0, 0, 0]), ())
noncomputable def q_ref03_Inside : Lift := ⟨tyX, look2 .todo (α := LoopAs) (.o), [c_ref03_Sub], bsX⟩
theorem u_ref03_Inside {N : Nat} {a0 : Int} {a1 : Int} {a2 : Int} {a3 : Int} {a4 : Int} {a5 : Int} {a6 : Int} {a7 : Int} {q : (Bool × Unit)} (h : M_ref03_Inside N a0 a1 a2 a3 a4 a5 a6 a7 = some q) : S_ref03_Inside a0 a1 a2 a3 a4 a5 a6 a7 = some q :=
 Sof_of (Q := q_ref03_Inside) (N := N) (n := 3) (f := 105) (tin := i_ref03_Inside) (tout := o_ref03_Inside) (d := (a0, (a1, (a2, (a3, (a4, (a5, (a6, (a7, ()))))))))) (all1 k_ref03_Sub all0) bs_ok (by kernel_rfl) (by kernel_rfl) (by kernel_rfl) (Eq.trans (b := M_ref03_Inside N a0 a1 a2 a3 a4 a5 a6 a7) (by kernel_rfl) h)

noncomputable def M_ref14_Right (N : Nat) (l_0 : LS) (n_1 : Int) : Option (Bool × Unit) :=
 qS (eS l_0) <|
 qI n_1 <|
 iter (fun (d1 : (Int × Unit)) again2 =>
  cnd (ltI d1.1 (vlen (eS l_0)))
   (chk (leI 0 d1.1) <|
   getE tS (eS l_0) (natI d1.1) <| fun p3 =>
   bnd (S_ref03_Range 0 n_1) <| fun p4 =>
   bnd (S_ref03_Inside p3.1 p3.2.1 p3.2.2.1 p3.2.2.2 p4.1 p4.2.1 p4.2.2.1 p4.2.2.2.1) <| fun p5 =>
   cnd (notB p5.1)
    (some (false, ()))
    (qS (eS l_0) <|
    qI n_1 <|
    again2 ((wrp .i64 (addI d1.1 1)), ())))
   (some ((leI (vlen (eS l_0)) 2000), ()))) N (0, ())
noncomputable def q_ref14_Right : Lift := ⟨tyX, look2 .todo (α := LoopAs) (.n 85 [(2, (.as ⟨[], [], (.one, [.fix]) :: (.one, [.fix]) :: (.one, [.junk]) :: (.one, [.junk]) :: (.one, [.junk]) :: (.one, [.hole tI]) :: rp 17 (.one, [.junk]) ([])⟩))] .o .o), [c_ref03_Range, c_ref03_Inside], bsX⟩
theorem u_ref14_Right {N : Nat} {a0 : LS} {a1 : Int} {q : (Bool × Unit)} (h : M_ref14_Right N a0 a1 = some q) : S_ref14_Right a0 a1 = some q :=
 Sof_of (Q := q_ref14_Right) (N := N) (n := 3) (f := 85) (tin := i_ref14_Right) (tout := o_ref14_Right) (d := (a0, (a1, ()))) (all1 k_ref03_Range (all1 k_ref03_Inside all0)) bs_ok (by kernel_rfl) (by kernel_rfl) (by kernel_rfl) (Eq.trans (b := M_ref14_Right N a0 a1) (by kernel_rfl) h)

end Go.Proofs.YtkdnbnkbnegckaaGreatDoor
