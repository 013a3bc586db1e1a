/- Functions, lifted: what the program comes to by them. -/
import Derived.Test.YtkdnbnkbnegckaaDoorDbA
namespace Go.Proofs.YtkdnbnkbnegckaaDoor
open Go.RowKit
set_option maxRecDepth 100000
set_option linter.unusedVariables false
noncomputable def M_ref15_tables (N : Nat) (l_0 : LB) (b_1 : Bool) (l_2 : LI) (l_3 : LI) (l_4 : LI) (l_5 : LI) (l_6 : LC) (l_7 : LI) (l_8 : LN) (l_9 : LI) (l_10 : LS) (n_11 : Int) : Option (Bool × Unit) :=
 dI l_2 <| fun l1 =>
 dI l_3 <| fun l2 =>
 dI l_4 <| fun l3 =>
 dI l_5 <| fun l4 =>
 dC l_6 <| fun l5 =>
 dI l_7 <| fun l6 =>
 dN l_8 <| fun l7 =>
 dI l_9 <| fun l8 =>
 dS l_10 <| fun l9 =>
 bnd (S_ref15_Bare l_0 b_1 l1 l2 l3 l4 l5 l6 l7 l8 l9) <| fun p10 =>
 cnd p10.1
  (some (true, ()))
  (joinK (δ := Unit) (dN l_8 <| fun l11 =>
   bnd (S_ref13_Right l11) <| fun p12 =>
   cnd (notB p12.1)
    (rightK <| some (false, ()))
    (cnd (notB (eqI (vlen (eI l_9)) (vlen (eC l_6))))
     (rightK <| some (false, ()))
     (cnd (notB (eqI (vlen (eS l_10)) (vlen (eC l_6))))
      (rightK <| some (false, ()))
      (dS l_10 <| fun l13 =>
      bnd (S_ref14_Right l13 n_11) <| fun p14 =>
      cnd (notB p14.1)
       (rightK <| some (false, ()))
       (qB (ByteArray.mk (Array.mk l_0)) <|
       qO b_1 <|
       qS (eI l_2) <|
       qS (eI l_3) <|
       qS (eI l_4) <|
       qS (eI l_5) <|
       qS (eC l_6) <|
       qS (eI l_7) <|
       qS (eN l_8) <|
       qS (eI l_9) <|
       qS (eS l_10) <|
       leftK ())))))
  <| fun x15 =>
  qB (ByteArray.mk (Array.mk l_0)) <|
  qO b_1 <|
  qS (eI l_2) <|
  qS (eI l_3) <|
  qS (eI l_4) <|
  qS (eI l_5) <|
  qS (eC l_6) <|
  qS (eI l_7) <|
  qS (eN l_8) <|
  qS (eI l_9) <|
  qS (eS l_10) <|
  iter (fun (d16 : (Int × Unit)) again17 =>
   cnd (ltI d16.1 (vlen (eI l_9)))
    (joinK (δ := Unit) (chk (leI 0 d16.1) <|
     getE tI (eI l_9) (natI d16.1) <| fun n18 =>
     cnd (ltI n18 0)
      (rightK <| some (false, ()))
      (chk (leI 0 d16.1) <|
      getE tI (eI l_9) (natI d16.1) <| fun n19 =>
      cnd (leI (vlen (eN l_8)) n19)
       (rightK <| some (false, ()))
       (qB (ByteArray.mk (Array.mk l_0)) <|
       qO b_1 <|
       qS (eI l_2) <|
       qS (eI l_3) <|
       qS (eI l_4) <|
       qS (eI l_5) <|
       qS (eC l_6) <|
       qS (eI l_7) <|
       qS (eN l_8) <|
       qS (eI l_9) <|
       qS (eS l_10) <|
       qI d16.1 <|
       leftK ())))
    <| fun x20 =>
    qB (ByteArray.mk (Array.mk l_0)) <|
    qO b_1 <|
    qS (eI l_2) <|
    qS (eI l_3) <|
    qS (eI l_4) <|
    qS (eI l_5) <|
    qS (eC l_6) <|
    qS (eI l_7) <|
    qS (eN l_8) <|
    qS (eI l_9) <|
    qS (eS l_10) <|
    again17 ((wrp .i64 (addI d16.1 1)), ()))
    (some (true, ()))) N (0, ()))
noncomputable def q_ref15_tables : Lift := ⟨tyX, look2 .todo (α := LoopAs) (.n 17 [(6, (.as ⟨[], [[.fix, .fix, .fix, .fix, .fix, .fix, .fix, .fix, .fix, .fix, .fix]], (.one, [.junk]) :: (.one, [.junk]) :: (.one, [.stat (.ptr 0 0)]) :: (.one, [.junk]) :: (.one, [.junk]) :: (.one, [.hole tI]) :: rp 55 (.one, [.junk]) ([])⟩)), (1020486, (.as ⟨[], [[.fix, .fix, .fix, .fix, .fix, .fix, .fix, .fix, .fix, .fix, .fix]], (.one, [.junk]) :: (.one, [.junk]) :: (.one, [.stat (.ptr 0 0)]) :: rp 58 (.one, [.junk]) ([])⟩)), (1040968, (.as ⟨[], [[.fix, .fix, .fix, .fix, .fix, .fix, .fix, .fix, .fix, .fix, .fix]], (.one, [.junk]) :: (.one, [.junk]) :: (.one, [.stat (.ptr 0 0)]) :: (.one, [.junk]) :: (.one, [.junk]) :: (.one, [.fix]) :: rp 55 (.one, [.junk]) ([])⟩))] .o .o), [c_ref15_Bare, c_ref13_Right, c_ref14_Right], bsX⟩
theorem u_ref15_tables {N : Nat} {a0 : LB} {a1 : Bool} {a2 : LI} {a3 : LI} {a4 : LI} {a5 : LI} {a6 : LC} {a7 : LI} {a8 : LN} {a9 : LI} {a10 : LS} {a11 : Int} {q : (Bool × Unit)} (h : M_ref15_tables N a0 a1 a2 a3 a4 a5 a6 a7 a8 a9 a10 a11 = some q) : S_ref15_tables a0 a1 a2 a3 a4 a5 a6 a7 a8 a9 a10 a11 = some q :=
 Sof_of (Q := q_ref15_tables) (N := N) (n := 3) (f := 17) (tin := i_ref15_tables) (tout := o_ref15_tables) (d := (a0, (a1, (a2, (a3, (a4, (a5, (a6, (a7, (a8, (a9, (a10, (a11, ()))))))))))))) (all1 k_ref15_Bare (all1 k_ref13_Right (all1 k_ref14_Right all0))) bs_ok (by kernel_rfl) (by kernel_rfl) (by kernel_rfl) (Eq.trans (b := M_ref15_tables N a0 a1 a2 a3 a4 a5 a6 a7 a8 a9 a10 a11) (by kernel_rfl) h)

noncomputable def M_ref15_Can (N : Nat) (l_0 : LB) (b_1 : Bool) (l_2 : LI) (l_3 : LI) (l_4 : LI) (l_5 : LI) (l_6 : LC) (l_7 : LI) (l_8 : LN) (l_9 : LI) (l_10 : LS) : Option (Int × Unit) :=
 joinK (δ := Unit) (bnd (S_ref05_May l_0) <| fun p1 =>
  cnd (notB p1.1)
   (rightK <| some (7, ()))
   (joinK (δ := (Bool × Unit)) (dI l_2 <| fun l2 =>
    bnd (S_ref11_Right l2 4) <| fun p3 =>
    cnd (notB p3.1)
     (qB (ByteArray.mk (Array.mk l_0)) <|
     qO b_1 <|
     qS (eI l_2) <|
     qS (eI l_3) <|
     qS (eI l_4) <|
     qS (eI l_5) <|
     qS (eC l_6) <|
     qS (eI l_7) <|
     qS (eN l_8) <|
     qS (eI l_9) <|
     qS (eS l_10) <|
     qI (wrp .i64 (addI (wrp .i64 (addI (vlen (eI l_3)) (vlen (eI l_4)))) (vlen (eI l_5)))) <|
     leftK (true, ()))
     (dI l_3 <| fun l4 =>
     bnd (S_ref11_Right l4 8) <| fun p5 =>
     cnd (notB p5.1)
      (qB (ByteArray.mk (Array.mk l_0)) <|
      qO b_1 <|
      qS (eI l_2) <|
      qS (eI l_3) <|
      qS (eI l_4) <|
      qS (eI l_5) <|
      qS (eC l_6) <|
      qS (eI l_7) <|
      qS (eN l_8) <|
      qS (eI l_9) <|
      qS (eS l_10) <|
      qI (wrp .i64 (addI (wrp .i64 (addI (vlen (eI l_3)) (vlen (eI l_4)))) (vlen (eI l_5)))) <|
      leftK (true, ()))
      (dI l_4 <| fun l6 =>
      bnd (S_ref11_Right l6 4) <| fun p7 =>
      cnd (notB p7.1)
       (qB (ByteArray.mk (Array.mk l_0)) <|
       qO b_1 <|
       qS (eI l_2) <|
       qS (eI l_3) <|
       qS (eI l_4) <|
       qS (eI l_5) <|
       qS (eC l_6) <|
       qS (eI l_7) <|
       qS (eN l_8) <|
       qS (eI l_9) <|
       qS (eS l_10) <|
       qI (wrp .i64 (addI (wrp .i64 (addI (vlen (eI l_3)) (vlen (eI l_4)))) (vlen (eI l_5)))) <|
       leftK (true, ()))
       (dI l_5 <| fun l8 =>
       bnd (S_ref11_Right l8 256) <| fun p9 =>
       cnd (notB p9.1)
        (qB (ByteArray.mk (Array.mk l_0)) <|
        qO b_1 <|
        qS (eI l_2) <|
        qS (eI l_3) <|
        qS (eI l_4) <|
        qS (eI l_5) <|
        qS (eC l_6) <|
        qS (eI l_7) <|
        qS (eN l_8) <|
        qS (eI l_9) <|
        qS (eS l_10) <|
        qI (wrp .i64 (addI (wrp .i64 (addI (vlen (eI l_3)) (vlen (eI l_4)))) (vlen (eI l_5)))) <|
        leftK (true, ()))
        (cnd (ltI 0 (vlen (eI l_2)))
         (qB (ByteArray.mk (Array.mk l_0)) <|
         qO b_1 <|
         qS (eI l_2) <|
         qS (eI l_3) <|
         qS (eI l_4) <|
         qS (eI l_5) <|
         qS (eC l_6) <|
         qS (eI l_7) <|
         qS (eN l_8) <|
         qS (eI l_9) <|
         qS (eS l_10) <|
         qI (wrp .i64 (addI (wrp .i64 (addI (vlen (eI l_3)) (vlen (eI l_4)))) (vlen (eI l_5)))) <|
         leftK ((notB b_1), ()))
         (qB (ByteArray.mk (Array.mk l_0)) <|
         qO b_1 <|
         qS (eI l_2) <|
         qS (eI l_3) <|
         qS (eI l_4) <|
         qS (eI l_5) <|
         qS (eC l_6) <|
         qS (eI l_7) <|
         qS (eN l_8) <|
         qS (eI l_9) <|
         qS (eS l_10) <|
         qI (wrp .i64 (addI (wrp .i64 (addI (vlen (eI l_3)) (vlen (eI l_4)))) (vlen (eI l_5)))) <|
         leftK (false, ())))))))
   <| fun p10 =>
   cnd p10.1
    (rightK <| some (9, ()))
    (cnd (ltI 256 (wrp .i64 (addI (wrp .i64 (addI (vlen (eI l_3)) (vlen (eI l_4)))) (vlen (eI l_5)))))
     (rightK <| some (6, ()))
     (cnd (ltI (vlen (eC l_6)) 1)
      (rightK <| some (6, ()))
      (cnd (ltI 2000 (vlen (eC l_6)))
       (rightK <| some (6, ()))
       (qB (ByteArray.mk (Array.mk l_0)) <|
       qO b_1 <|
       qS (eI l_2) <|
       qS (eI l_3) <|
       qS (eI l_4) <|
       qS (eI l_5) <|
       qS (eC l_6) <|
       qS (eI l_7) <|
       qS (eN l_8) <|
       qS (eI l_9) <|
       qS (eS l_10) <|
       qI (wrp .i64 (addI (wrp .i64 (addI (vlen (eI l_3)) (vlen (eI l_4)))) (vlen (eI l_5)))) <|
       leftK ()))))))
 <| fun x11 =>
 qB (ByteArray.mk (Array.mk l_0)) <|
 qO b_1 <|
 qS (eI l_2) <|
 qS (eI l_3) <|
 qS (eI l_4) <|
 qS (eI l_5) <|
 qS (eC l_6) <|
 qS (eI l_7) <|
 qS (eN l_8) <|
 qS (eI l_9) <|
 qS (eS l_10) <|
 qI (wrp .i64 (addI (wrp .i64 (addI (vlen (eI l_3)) (vlen (eI l_4)))) (vlen (eI l_5)))) <|
 iter (fun (d12 : (Int × Unit)) again13 =>
  cnd (ltI d12.1 (vlen (eC l_6)))
   (chk (leI 0 d12.1) <|
   getE tC (eC l_6) (natI d12.1) <| fun p14 =>
   bnd (S_ref10_Right p14.1 p14.2) <| fun p15 =>
   cnd (notB p15.1)
    (some (8, ()))
    (qB (ByteArray.mk (Array.mk l_0)) <|
    qO b_1 <|
    qS (eI l_2) <|
    qS (eI l_3) <|
    qS (eI l_4) <|
    qS (eI l_5) <|
    qS (eC l_6) <|
    qS (eI l_7) <|
    qS (eN l_8) <|
    qS (eI l_9) <|
    qS (eS l_10) <|
    qI (wrp .i64 (addI (wrp .i64 (addI (vlen (eI l_3)) (vlen (eI l_4)))) (vlen (eI l_5)))) <|
    again13 ((wrp .i64 (addI d12.1 1)), ())))
   (joinK (δ := Unit) (cnd (notB (eqI (vlen (eI l_7)) (vlen (eC l_6))))
     (rightK <| some (19, ()))
     (dI l_7 <| fun l16 =>
     bnd (S_ref12_Right l16) <| fun p17 =>
     cnd (notB p17.1)
      (rightK <| some (19, ()))
      (qB (ByteArray.mk (Array.mk l_0)) <|
      qO b_1 <|
      qS (eI l_2) <|
      qS (eI l_3) <|
      qS (eI l_4) <|
      qS (eI l_5) <|
      qS (eC l_6) <|
      qS (eI l_7) <|
      qS (eN l_8) <|
      qS (eI l_9) <|
      qS (eS l_10) <|
      qI (wrp .i64 (addI (wrp .i64 (addI (vlen (eI l_3)) (vlen (eI l_4)))) (vlen (eI l_5)))) <|
      leftK ())))
   <| fun x18 =>
   dI l_2 <| fun l19 =>
   dI l_3 <| fun l20 =>
   dI l_4 <| fun l21 =>
   dI l_5 <| fun l22 =>
   dC l_6 <| fun l23 =>
   dI l_7 <| fun l24 =>
   dN l_8 <| fun l25 =>
   dI l_9 <| fun l26 =>
   dS l_10 <| fun l27 =>
   bnd (S_ref15_tables l_0 b_1 l19 l20 l21 l22 l23 l24 l25 l26 l27 (wrp .i64 (addI (wrp .i64 (addI (vlen (eI l_3)) (vlen (eI l_4)))) (vlen (eI l_5))))) <| fun p28 =>
   cnd (notB p28.1)
    (some (14, ()))
    (some (0, ())))) N (0, ())
noncomputable def q_ref15_Can : Lift := ⟨tyX, look2 .todo (α := LoopAs) (.n 5 [(9, (.as ⟨[], [[.fix, .fix, .fix, .fix, .fix, .fix, .fix, .fix, .fix, .fix, .fix]], (.one, [.junk]) :: (.one, [.stat (.ptr 0 0)]) :: (.one, [.junk]) :: (.one, [.fix]) :: (.one, [.hole tI]) :: rp 96 (.one, [.junk]) ([])⟩)), (1020486, (.as ⟨[], [[.fix, .fix, .fix, .fix, .fix, .fix, .fix, .fix, .fix, .fix, .fix]], (.one, [.junk]) :: (.one, [.stat (.ptr 0 0)]) :: (.one, [.junk]) :: (.one, [.fix]) :: rp 17 (.one, [.junk]) ((.one, [.hole .bool]) :: rp 79 (.one, [.junk]) ([]))⟩)), (1032777, (.as ⟨[], [[.fix, .fix, .fix, .fix, .fix, .fix, .fix, .fix, .fix, .fix, .fix]], (.one, [.junk]) :: (.one, [.stat (.ptr 0 0)]) :: (.one, [.junk]) :: (.one, [.fix]) :: rp 97 (.one, [.junk]) ([])⟩)), (1061456, (.as ⟨[], [[.fix, .fix, .fix, .fix, .fix, .fix, .fix, .fix, .fix, .fix, .fix]], (.one, [.junk]) :: (.one, [.stat (.ptr 0 0)]) :: (.one, [.junk]) :: (.one, [.fix]) :: rp 97 (.one, [.junk]) ([])⟩))] .o .o), [c_ref05_May, c_ref11_Right, c_ref10_Right, c_ref12_Right, c_ref15_tables], bsX⟩
theorem u_ref15_Can {N : Nat} {a0 : LB} {a1 : Bool} {a2 : LI} {a3 : LI} {a4 : LI} {a5 : LI} {a6 : LC} {a7 : LI} {a8 : LN} {a9 : LI} {a10 : LS} {q : (Int × Unit)} (h : M_ref15_Can N a0 a1 a2 a3 a4 a5 a6 a7 a8 a9 a10 = some q) : S_ref15_Can a0 a1 a2 a3 a4 a5 a6 a7 a8 a9 a10 = some q :=
 Sof_of (Q := q_ref15_Can) (N := N) (n := 3) (f := 5) (tin := i_ref15_Can) (tout := o_ref15_Can) (d := (a0, (a1, (a2, (a3, (a4, (a5, (a6, (a7, (a8, (a9, (a10, ())))))))))))) (all1 k_ref05_May (all1 k_ref11_Right (all1 k_ref10_Right (all1 k_ref12_Right (all1 k_ref15_tables all0))))) bs_ok (by kernel_rfl) (by kernel_rfl) (by kernel_rfl) (Eq.trans (b := M_ref15_Can N a0 a1 a2 a3 a4 a5 a6 a7 a8 a9 a10) (by kernel_rfl) h)

noncomputable def M_dis_Head (N : Nat) (l_0 : LB) (b_1 : Bool) (l_2 : LI) (l_3 : LI) (l_4 : LI) (l_5 : LI) (l_6 : LC) (l_7 : LI) (l_8 : LN) (l_9 : LI) (l_10 : LS) : Option (LB × Unit) :=
 dI l_3 <| fun l1 =>
 bnd (S_sig_Text l1) <| fun p2 =>
 dI l_4 <| fun l3 =>
 bnd (S_sig_Text l3) <| fun p4 =>
 dI l_5 <| fun l5 =>
 bnd (S_sig_Text l5) <| fun p6 =>
 joinK (δ := ((List LB) × Unit)) (cnd b_1
   (dI l_2 <| fun l7 =>
   bnd (S_sig_Text l7) <| fun p8 =>
   chk (room 5 (vnum (vcut [[(C.v (Go.Value.string (ByteArray.mk (Array.mk p8.1))))]] 0 1)) 16) <|
   decL .str (vapp [[(C.v (Go.Value.string (ByteArray.mk (Array.mk [(UInt8.ofNat 102), (UInt8.ofNat 117), (UInt8.ofNat 110), (UInt8.ofNat 99)]))))], [(C.v (Go.Value.string (ByteArray.mk (Array.mk l_0))))], [(C.v (Go.Value.string (ByteArray.mk (Array.mk p2.1))))], [(C.v (Go.Value.string (ByteArray.mk (Array.mk p4.1))))], [(C.v (Go.Value.string (ByteArray.mk (Array.mk p6.1))))]] (vcut [[(C.v (Go.Value.string (ByteArray.mk (Array.mk p8.1))))]] 0 1)) <| fun l9 =>
   qB (ByteArray.mk (Array.mk l_0)) <|
   qO b_1 <|
   qS (eI l_2) <|
   qS (eI l_3) <|
   qS (eI l_4) <|
   qS (eI l_5) <|
   qS (eC l_6) <|
   qS (eI l_7) <|
   qS (eN l_8) <|
   qS (eI l_9) <|
   qS (eS l_10) <|
   chk (eqN (addN 5 (vnum (vcut [[(C.v (Go.Value.string (ByteArray.mk (Array.mk p8.1))))]] 0 1))) (vnum (vapp [[(C.v (Go.Value.string (ByteArray.mk (Array.mk [(UInt8.ofNat 102), (UInt8.ofNat 117), (UInt8.ofNat 110), (UInt8.ofNat 99)]))))], [(C.v (Go.Value.string (ByteArray.mk (Array.mk l_0))))], [(C.v (Go.Value.string (ByteArray.mk (Array.mk p2.1))))], [(C.v (Go.Value.string (ByteArray.mk (Array.mk p4.1))))], [(C.v (Go.Value.string (ByteArray.mk (Array.mk p6.1))))]] (vcut [[(C.v (Go.Value.string (ByteArray.mk (Array.mk p8.1))))]] 0 1)))) <|
   leftK (l9, ()))
   (decL .str [[(C.v (Go.Value.string (ByteArray.mk (Array.mk [(UInt8.ofNat 102), (UInt8.ofNat 117), (UInt8.ofNat 110), (UInt8.ofNat 99)]))))], [(C.v (Go.Value.string (ByteArray.mk (Array.mk l_0))))], [(C.v (Go.Value.string (ByteArray.mk (Array.mk p2.1))))], [(C.v (Go.Value.string (ByteArray.mk (Array.mk p4.1))))], [(C.v (Go.Value.string (ByteArray.mk (Array.mk p6.1))))]] <| fun l10 =>
   qB (ByteArray.mk (Array.mk l_0)) <|
   qO b_1 <|
   qS (eI l_2) <|
   qS (eI l_3) <|
   qS (eI l_4) <|
   qS (eI l_5) <|
   qS (eC l_6) <|
   qS (eI l_7) <|
   qS (eN l_8) <|
   qS (eI l_9) <|
   qS (eS l_10) <|
   leftK (l10, ())))
 <| fun p11 =>
 chk (leN (addN 0 (vnum (encL .str p11.1))) (vnum (encL .str p11.1))) <|
 decL .str (vcut (encL .str p11.1) 0 (vnum (encL .str p11.1))) <| fun l12 =>
 bnd (S_strings_Join l12 [(UInt8.ofNat 32)]) <| fun p13 =>
 some (p13.1, ())
noncomputable def q_dis_Head : Lift := ⟨tyX, look2 .todo (α := LoopAs) (.n 9 [(1016389, (.as ⟨[.mu 9 1 .str], [[.fix, .fix, .fix, .fix, .fix, .fix, .fix, .fix, .fix, .fix, .fix]], (.one, [.junk]) :: (.one, [.junk]) :: (.one, [.junk]) :: (.one, [.own 0]) :: rp 22 (.one, [.junk]) ([])⟩))] .o .o), [c_sig_Text, c_strings_Join], bsX⟩
theorem u_dis_Head {N : Nat} {a0 : LB} {a1 : Bool} {a2 : LI} {a3 : LI} {a4 : LI} {a5 : LI} {a6 : LC} {a7 : LI} {a8 : LN} {a9 : LI} {a10 : LS} {q : (LB × Unit)} (h : M_dis_Head N a0 a1 a2 a3 a4 a5 a6 a7 a8 a9 a10 = some q) : S_dis_Head a0 a1 a2 a3 a4 a5 a6 a7 a8 a9 a10 = some q :=
 Sof_of (Q := q_dis_Head) (N := N) (n := 3) (f := 9) (tin := i_dis_Head) (tout := o_dis_Head) (d := (a0, (a1, (a2, (a3, (a4, (a5, (a6, (a7, (a8, (a9, (a10, ())))))))))))) (all1 k_sig_Text (all1 k_strings_Join all0)) bs_ok (by kernel_rfl) (by kernel_rfl) (by kernel_rfl) (Eq.trans (b := M_dis_Head N a0 a1 a2 a3 a4 a5 a6 a7 a8 a9 a10) (by kernel_rfl) h)

noncomputable def M_lines_At (N : Nat) (l_0 : LI) (n_1 : Int) : Option (Int × Unit) :=
 joinK (δ := Unit) (cnd (ltI n_1 0)
   (rightK <| some (0, ()))
   (cnd (leI (vlen (eI l_0)) n_1)
    (rightK <| some (0, ()))
    (qS (eI l_0) <|
    qI n_1 <|
    leftK ())))
 <| fun x1 =>
 chk (leI 0 n_1) <|
 getE tI (eI l_0) (natI n_1) <| fun n2 =>
 some (n2, ())
noncomputable def q_lines_At : Lift := ⟨tyX, look2 .todo (α := LoopAs) (.n 22 [(1012292, (.as ⟨[], [], (.one, [.fix]) :: (.one, [.fix]) :: rp 15 (.one, [.junk]) ([])⟩))] .o .o), [], bsX⟩
theorem u_lines_At {N : Nat} {a0 : LI} {a1 : Int} {q : (Int × Unit)} (h : M_lines_At N a0 a1 = some q) : S_lines_At a0 a1 = some q :=
 Sof_of (Q := q_lines_At) (N := N) (n := 3) (f := 22) (tin := i_lines_At) (tout := o_lines_At) (d := (a0, (a1, ()))) all0 bs_ok (by kernel_rfl) (by kernel_rfl) (by kernel_rfl) (Eq.trans (b := M_lines_At N a0 a1) (by kernel_rfl) h)

noncomputable def M_fnc_Bare (N : Nat) (l_0 : LB) (b_1 : Bool) (l_2 : LI) (l_3 : LI) (l_4 : LI) (l_5 : LI) (l_6 : LC) (l_7 : LI) (l_8 : LN) (l_9 : LI) (l_10 : LS) : Option (Bool × Unit) :=
 cnd (eqI (vlen (eN l_8)) 0)
  (cnd (eqI (vlen (eI l_9)) 0)
   (some ((eqI (vlen (eS l_10)) 0), ()))
   (some (false, ())))
  (some (false, ()))
noncomputable def q_fnc_Bare : Lift := ⟨tyX, look2 .todo (α := LoopAs) (.o), [], bsX⟩
theorem u_fnc_Bare {N : Nat} {a0 : LB} {a1 : Bool} {a2 : LI} {a3 : LI} {a4 : LI} {a5 : LI} {a6 : LC} {a7 : LI} {a8 : LN} {a9 : LI} {a10 : LS} {q : (Bool × Unit)} (h : M_fnc_Bare N a0 a1 a2 a3 a4 a5 a6 a7 a8 a9 a10 = some q) : S_fnc_Bare a0 a1 a2 a3 a4 a5 a6 a7 a8 a9 a10 = some q :=
 Sof_of (Q := q_fnc_Bare) (N := N) (n := 3) (f := 20) (tin := i_fnc_Bare) (tout := o_fnc_Bare) (d := (a0, (a1, (a2, (a3, (a4, (a5, (a6, (a7, (a8, (a9, (a10, ())))))))))))) all0 bs_ok (by kernel_rfl) (by kernel_rfl) (by kernel_rfl) (Eq.trans (b := M_fnc_Bare N a0 a1 a2 a3 a4 a5 a6 a7 a8 a9 a10) (by kernel_rfl) h)

noncomputable def M_maps_At (N : Nat) (l_0 : LS) (n_1 : Int) : Option (Int × (Int × (Int × (Int × Unit)))) :=
 joinK (δ := (Bool × Unit)) (cnd (ltI n_1 0)
   (qS (eS l_0) <|
   qI n_1 <|
   leftK (true, ()))
   (qS (eS l_0) <|
   qI n_1 <|
   leftK ((leI (vlen (eS l_0)) n_1), ())))
 <| fun p1 =>
 cnd p1.1
  (some (0, (0, (0, (0, ())))))
  (chk (leI 0 n_1) <|
  getE tS (eS l_0) (natI n_1) <| fun p2 =>
  some (p2.1, (p2.2.1, (p2.2.2.1, (p2.2.2.2, ())))))
noncomputable def q_maps_At : Lift := ⟨tyX, look2 .todo (α := LoopAs) (.n 24 [(1008195, (.as ⟨[], [[.fix, .fix, .fix, .fix]], (.one, [.fix]) :: (.one, [.fix]) :: (.one, [.junk]) :: (.one, [.junk]) :: (.one, [.stat (.ptr 0 0)]) :: rp 7 (.one, [.junk]) ((.one, [.hole .bool]) :: rp 5 (.one, [.junk]) ([]))⟩))] .o .o), [], bsX⟩
theorem u_maps_At {N : Nat} {a0 : LS} {a1 : Int} {q : (Int × (Int × (Int × (Int × Unit))))} (h : M_maps_At N a0 a1 = some q) : S_maps_At a0 a1 = some q :=
 Sof_of (Q := q_maps_At) (N := N) (n := 3) (f := 24) (tin := i_maps_At) (tout := o_maps_At) (d := (a0, (a1, ()))) all0 bs_ok (by kernel_rfl) (by kernel_rfl) (by kernel_rfl) (Eq.trans (b := M_maps_At N a0 a1) (by kernel_rfl) h)

noncomputable def M_ref14_At (N : Nat) (l_0 : LS) (n_1 : Int) : Option (Int × (Int × (Int × (Int × Unit)))) :=
 joinK (δ := (Bool × Unit)) (cnd (ltI n_1 0)
   (qS (eS l_0) <|
   qI n_1 <|
   leftK (true, ()))
   (qS (eS l_0) <|
   qI n_1 <|
   leftK ((leI (vlen (eS l_0)) n_1), ())))
 <| fun p1 =>
 cnd p1.1
  (some (0, (0, (0, (0, ())))))
  (chk (leI 0 n_1) <|
  getE tS (eS l_0) (natI n_1) <| fun p2 =>
  some (p2.1, (p2.2.1, (p2.2.2.1, (p2.2.2.2, ())))))
noncomputable def q_ref14_At : Lift := ⟨tyX, look2 .todo (α := LoopAs) (.n 32 [(1008195, (.as ⟨[], [[.fix, .fix, .fix, .fix]], (.one, [.fix]) :: (.one, [.fix]) :: (.one, [.junk]) :: (.one, [.junk]) :: (.one, [.stat (.ptr 0 0)]) :: rp 7 (.one, [.junk]) ((.one, [.hole .bool]) :: rp 5 (.one, [.junk]) ([]))⟩))] .o .o), [], bsX⟩
theorem u_ref14_At {N : Nat} {a0 : LS} {a1 : Int} {q : (Int × (Int × (Int × (Int × Unit))))} (h : M_ref14_At N a0 a1 = some q) : S_ref14_At a0 a1 = some q :=
 Sof_of (Q := q_ref14_At) (N := N) (n := 3) (f := 32) (tin := i_ref14_At) (tout := o_ref14_At) (d := (a0, (a1, ()))) all0 bs_ok (by kernel_rfl) (by kernel_rfl) (by kernel_rfl) (Eq.trans (b := M_ref14_At N a0 a1) (by kernel_rfl) h)

noncomputable def M_ref03_Has (N : Nat) (n_0 : Int) (n_1 : Int) (n_2 : Int) (n_3 : Int) (n_4 : Int) : Option (Bool × Unit) :=
 cnd (leI 0 n_4)
  (cnd (leI n_4 255)
   (cnd (eqI (wrp .i64 (quoI n_4 64)) 3)
    (chk (leI 0 (wrp .u64 (remI n_4 64))) <|
    some ((eqI (remI (shrI .u64 n_3 (wrp .u64 (remI n_4 64))) 2) 1), ()))
    (cnd (eqI (wrp .i64 (quoI n_4 64)) 2)
     (chk (leI 0 (wrp .u64 (remI n_4 64))) <|
     some ((eqI (remI (shrI .u64 n_2 (wrp .u64 (remI n_4 64))) 2) 1), ()))
     (cnd (eqI (wrp .i64 (quoI n_4 64)) 1)
      (chk (leI 0 (wrp .u64 (remI n_4 64))) <|
      some ((eqI (remI (shrI .u64 n_1 (wrp .u64 (remI n_4 64))) 2) 1), ()))
      (cnd (eqI (wrp .i64 (quoI n_4 64)) 0)
       (chk (leI 0 (wrp .u64 (remI n_4 64))) <|
       some ((eqI (remI (shrI .u64 n_0 (wrp .u64 (remI n_4 64))) 2) 1), ()))
       (none)))))
   (some (false, ())))
  (some (false, ()))
noncomputable def q_ref03_Has : Lift := ⟨tyX, look2 .todo (α := LoopAs) (.o), [], bsX⟩
theorem u_ref03_Has {N : Nat} {a0 : Int} {a1 : Int} {a2 : Int} {a3 : Int} {a4 : Int} {q : (Bool × Unit)} (h : M_ref03_Has N a0 a1 a2 a3 a4 = some q) : S_ref03_Has a0 a1 a2 a3 a4 = some q :=
 Sof_of (Q := q_ref03_Has) (N := N) (n := 3) (f := 52) (tin := i_ref03_Has) (tout := o_ref03_Has) (d := (a0, (a1, (a2, (a3, (a4, ())))))) all0 bs_ok (by kernel_rfl) (by kernel_rfl) (by kernel_rfl) (Eq.trans (b := M_ref03_Has N a0 a1 a2 a3 a4) (by kernel_rfl) h)

noncomputable def M_ref03_List (N : Nat) (n_0 : Int) (n_1 : Int) (n_2 : Int) (n_3 : Int) : Option (LI × Unit) :=
 decL tI [] <| fun l1 =>
 qI n_0 <|
 qI n_1 <|
 qI n_2 <|
 qI n_3 <|
 iter (fun (d2 : (LI × (Int × Unit))) again3 =>
  cnd (ltI d2.2.1 256)
   (joinK (δ := (LI × Unit)) (bnd (S_ref03_Has n_0 n_1 n_2 n_3 d2.2.1) <| fun p4 =>
    cnd p4.1
     (qN (vnum (eI d2.1)) <|
     chk (room (vnum (eI d2.1)) (vnum (vcut [[(C.v (Go.Value.int .i64 d2.2.1))]] 0 1)) 8) <|
     decL tI (vapp (eI d2.1) (vcut [[(C.v (Go.Value.int .i64 d2.2.1))]] 0 1)) <| fun l5 =>
     qI n_0 <|
     qI n_1 <|
     qI n_2 <|
     qI n_3 <|
     chk (eqN (addN (vnum (eI d2.1)) (vnum (vcut [[(C.v (Go.Value.int .i64 d2.2.1))]] 0 1))) (vnum (vapp (eI d2.1) (vcut [[(C.v (Go.Value.int .i64 d2.2.1))]] 0 1)))) <|
     qI d2.2.1 <|
     leftK (l5, ()))
     (dI d2.1 <| fun l6 =>
     qI n_0 <|
     qI n_1 <|
     qI n_2 <|
     qI n_3 <|
     qN (vnum (eI d2.1)) <|
     qI d2.2.1 <|
     leftK (l6, ())))
   <| fun p7 =>
   dI p7.1 <| fun l8 =>
   qI n_0 <|
   qI n_1 <|
   qI n_2 <|
   qI n_3 <|
   qN (vnum (eI p7.1)) <|
   again3 (l8, ((wrp .i64 (addI d2.2.1 1)), ())))
   (chk (leN (addN 0 (vnum (eI d2.1))) (vnum (eI d2.1))) <|
   decL tI (vcut (eI d2.1) 0 (vnum (eI d2.1))) <| fun l9 =>
   some (l9, ()))) N (l1, (0, ()))
noncomputable def q_ref03_List : Lift := ⟨tyX, look2 .todo (α := LoopAs) (.n 31 [(3, (.as ⟨[.mu 3 1 tI], [[.fix, .fix, .fix, .fix]], (.one, [.junk]) :: (.one, [.stat (.ptr 0 0)]) :: (.one, [.junk]) :: (.one, [.own 0]) :: (.one, [.hole tI]) :: rp 12 (.one, [.junk]) ([])⟩)), (1028677, (.as ⟨[.mu 3 1 tI], [[.fix, .fix, .fix, .fix]], (.one, [.junk]) :: (.one, [.stat (.ptr 0 0)]) :: (.one, [.junk]) :: (.one, [.own 0]) :: (.one, [.fix]) :: rp 12 (.one, [.junk]) ([])⟩))] .o .o), [c_ref03_Has], bsX⟩
theorem u_ref03_List {N : Nat} {a0 : Int} {a1 : Int} {a2 : Int} {a3 : Int} {q : (LI × Unit)} (h : M_ref03_List N a0 a1 a2 a3 = some q) : S_ref03_List a0 a1 a2 a3 = some q :=
 Sof_of (Q := q_ref03_List) (N := N) (n := 3) (f := 31) (tin := i_ref03_List) (tout := o_ref03_List) (d := (a0, (a1, (a2, (a3, ()))))) (all1 k_ref03_Has all0) bs_ok (by kernel_rfl) (by kernel_rfl) (by kernel_rfl) (Eq.trans (b := M_ref03_List N a0 a1 a2 a3) (by kernel_rfl) h)

end Go.Proofs.YtkdnbnkbnegckaaDoor
