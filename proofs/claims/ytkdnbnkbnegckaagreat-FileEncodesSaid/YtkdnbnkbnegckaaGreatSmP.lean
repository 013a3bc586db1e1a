/- Functions, lifted: what the program comes to by them. All lifted functions. The reference's Can of programs: what the lifted functions come to. The document's answer's bytes: what the lifted functions come to. -/
import Derived.Test.YtkdnbnkbnegckaaGreatLeA
import Derived.Test.YtkdnbnkbnegckaaGreatLe1
import Derived.Test.YtkdnbnkbnegckaaGreatEnd
import Derived.Test.YtkdnbnkbnegckaaGreatSpG
namespace Go.Proofs.YtkdnbnkbnegckaaGreat
open Go.RowKit
set_option maxRecDepth 100000
set_option linter.unusedVariables false
noncomputable def M_ref14_Put (N : Nat) (l_0 : LS) : Option (LB × Unit) :=
 decL tY [] <| fun l1 =>
 qS (eS l_0) <|
 iter (fun (d2 : (LB × (Int × Unit))) again3 =>
  cnd (ltI d2.2.1 (vlen (eS l_0)))
   (joinK (δ := (LB × (Int × Unit))) (qS (eY d2.1) <|
    qS (eS l_0) <|
    qN (vnum (eY d2.1)) <|
    qI d2.2.1 <|
    iter (fun (d4 : (Int × Unit)) again5 =>
     joinK (δ := (LB × Unit)) (cnd (ltI d4.1 (vlen (eS l_0)))
       (chk (leI 0 d4.1) <|
       getE tS (eS l_0) (natI d4.1) <| fun p6 =>
       chk (leI 0 d2.2.1) <|
       getE tS (eS l_0) (natI d2.2.1) <| fun p7 =>
       cnd (eqL [p6.1, p6.2.1, p6.2.2.1, p6.2.2.2] [p7.1, p7.2.1, p7.2.2.1, p7.2.2.2])
        (dY d2.1 <| fun l8 =>
        qS (eS l_0) <|
        qN (vnum (eY d2.1)) <|
        qI d2.2.1 <|
        qI d4.1 <|
        leftK (l8, ()))
        (rightK <| dY d2.1 <| fun l9 =>
        qS (eS l_0) <|
        qN (vnum (eY d2.1)) <|
        qI d2.2.1 <|
        leftK (l9, (d4.1, ()))))
       (rightK <| dY d2.1 <| fun l10 =>
       qS (eS l_0) <|
       qN (vnum (eY d2.1)) <|
       qI d2.2.1 <|
       leftK (l10, (d4.1, ()))))
     <| fun p11 =>
     chk (eqES (eY p11.1) (eY d2.1)) <|
     qS (eS l_0) <|
     qN (vnum (eY p11.1)) <|
     qI d2.2.1 <|
     again5 ((wrp .i64 (addI d4.1 1)), ())) N (d2.2.1, ()))
   <| fun p12 =>
   bnd (S_ref01_Put (wrp .u64 (wrp .i64 (subI p12.2.1 d2.2.1)))) <| fun p13 =>
   chk (leN (addN 0 (vnum (eY p13.1))) (vnum (eY p13.1))) <|
   qN (vnum (eY p12.1)) <|
   chk (room (vnum (eY p12.1)) (vnum (vcut (eY p13.1) 0 (vnum (eY p13.1)))) 1) <|
   chk (leI 0 d2.2.1) <|
   getE tS (eS l_0) (natI d2.2.1) <| fun p14 =>
   bnd (S_ref01_Put p14.1) <| fun p15 =>
   chk (leN (addN 0 (vnum (eY p15.1))) (vnum (eY p15.1))) <|
   chk (eqN (addN (vnum (eY p12.1)) (vnum (vcut (eY p13.1) 0 (vnum (eY p13.1))))) (vnum (vapp (eY p12.1) (vcut (eY p13.1) 0 (vnum (eY p13.1)))))) <|
   chk (room (vnum (vapp (eY p12.1) (vcut (eY p13.1) 0 (vnum (eY p13.1))))) (vnum (vcut (eY p15.1) 0 (vnum (eY p15.1)))) 1) <|
   chk (leI 0 d2.2.1) <|
   getE tS (eS l_0) (natI d2.2.1) <| fun p16 =>
   bnd (S_ref01_Put p16.2.1) <| fun p17 =>
   chk (leN (addN 0 (vnum (eY p17.1))) (vnum (eY p17.1))) <|
   chk (eqN (addN (vnum (vapp (eY p12.1) (vcut (eY p13.1) 0 (vnum (eY p13.1))))) (vnum (vcut (eY p15.1) 0 (vnum (eY p15.1))))) (vnum (vapp (vapp (eY p12.1) (vcut (eY p13.1) 0 (vnum (eY p13.1)))) (vcut (eY p15.1) 0 (vnum (eY p15.1)))))) <|
   chk (room (vnum (vapp (vapp (eY p12.1) (vcut (eY p13.1) 0 (vnum (eY p13.1)))) (vcut (eY p15.1) 0 (vnum (eY p15.1))))) (vnum (vcut (eY p17.1) 0 (vnum (eY p17.1)))) 1) <|
   chk (leI 0 d2.2.1) <|
   getE tS (eS l_0) (natI d2.2.1) <| fun p18 =>
   bnd (S_ref01_Put p18.2.2.1) <| fun p19 =>
   chk (leN (addN 0 (vnum (eY p19.1))) (vnum (eY p19.1))) <|
   chk (eqN (addN (vnum (vapp (vapp (eY p12.1) (vcut (eY p13.1) 0 (vnum (eY p13.1)))) (vcut (eY p15.1) 0 (vnum (eY p15.1))))) (vnum (vcut (eY p17.1) 0 (vnum (eY p17.1))))) (vnum (vapp (vapp (vapp (eY p12.1) (vcut (eY p13.1) 0 (vnum (eY p13.1)))) (vcut (eY p15.1) 0 (vnum (eY p15.1)))) (vcut (eY p17.1) 0 (vnum (eY p17.1)))))) <|
   chk (room (vnum (vapp (vapp (vapp (eY p12.1) (vcut (eY p13.1) 0 (vnum (eY p13.1)))) (vcut (eY p15.1) 0 (vnum (eY p15.1)))) (vcut (eY p17.1) 0 (vnum (eY p17.1))))) (vnum (vcut (eY p19.1) 0 (vnum (eY p19.1)))) 1) <|
   chk (leI 0 d2.2.1) <|
   getE tS (eS l_0) (natI d2.2.1) <| fun p20 =>
   bnd (S_ref01_Put p20.2.2.2) <| fun p21 =>
   chk (leN (addN 0 (vnum (eY p21.1))) (vnum (eY p21.1))) <|
   chk (eqN (addN (vnum (vapp (vapp (vapp (eY p12.1) (vcut (eY p13.1) 0 (vnum (eY p13.1)))) (vcut (eY p15.1) 0 (vnum (eY p15.1)))) (vcut (eY p17.1) 0 (vnum (eY p17.1))))) (vnum (vcut (eY p19.1) 0 (vnum (eY p19.1))))) (vnum (vapp (vapp (vapp (vapp (eY p12.1) (vcut (eY p13.1) 0 (vnum (eY p13.1)))) (vcut (eY p15.1) 0 (vnum (eY p15.1)))) (vcut (eY p17.1) 0 (vnum (eY p17.1)))) (vcut (eY p19.1) 0 (vnum (eY p19.1)))))) <|
   chk (room (vnum (vapp (vapp (vapp (vapp (eY p12.1) (vcut (eY p13.1) 0 (vnum (eY p13.1)))) (vcut (eY p15.1) 0 (vnum (eY p15.1)))) (vcut (eY p17.1) 0 (vnum (eY p17.1)))) (vcut (eY p19.1) 0 (vnum (eY p19.1))))) (vnum (vcut (eY p21.1) 0 (vnum (eY p21.1)))) 1) <|
   decL tY (vapp (vapp (vapp (vapp (vapp (eY p12.1) (vcut (eY p13.1) 0 (vnum (eY p13.1)))) (vcut (eY p15.1) 0 (vnum (eY p15.1)))) (vcut (eY p17.1) 0 (vnum (eY p17.1)))) (vcut (eY p19.1) 0 (vnum (eY p19.1)))) (vcut (eY p21.1) 0 (vnum (eY p21.1)))) <| fun l22 =>
   qS (eS l_0) <|
   chk (eqN (addN (vnum (vapp (vapp (vapp (vapp (eY p12.1) (vcut (eY p13.1) 0 (vnum (eY p13.1)))) (vcut (eY p15.1) 0 (vnum (eY p15.1)))) (vcut (eY p17.1) 0 (vnum (eY p17.1)))) (vcut (eY p19.1) 0 (vnum (eY p19.1))))) (vnum (vcut (eY p21.1) 0 (vnum (eY p21.1))))) (vnum (vapp (vapp (vapp (vapp (vapp (eY p12.1) (vcut (eY p13.1) 0 (vnum (eY p13.1)))) (vcut (eY p15.1) 0 (vnum (eY p15.1)))) (vcut (eY p17.1) 0 (vnum (eY p17.1)))) (vcut (eY p19.1) 0 (vnum (eY p19.1)))) (vcut (eY p21.1) 0 (vnum (eY p21.1)))))) <|
   again3 (l22, (p12.2.1, ())))
   (chk (leN (addN 0 (vnum (eY d2.1))) (vnum (eY d2.1))) <|
   decL tY (vcut (eY d2.1) 0 (vnum (eY d2.1))) <| fun l23 =>
   some (l23, ()))) N (l1, (0, ()))
noncomputable def q_ref14_Put : Lift := ⟨tyX, look2 .todo (α := LoopAs) (.n 126 [(3, (.as ⟨[.mu 5 1 tY], [], (.one, [.fix]) :: (.one, [.junk]) :: (.one, [.junk]) :: (.one, [.own 0]) :: (.one, [.hole tI]) :: rp 46 (.one, [.junk]) ([])⟩)), (5, (.as ⟨[.fix], [], (.one, [.fix]) :: (.one, [.junk]) :: (.one, [.junk]) :: (.one, [.own 0]) :: (.one, [.fix]) :: (.one, [.hole tI]) :: rp 45 (.one, [.junk]) ([])⟩)), (9, (.times 5)), (1024583, (.as ⟨[.mu 5 1 tY], [], (.one, [.fix]) :: (.one, [.junk]) :: (.one, [.junk]) :: (.one, [.own 0]) :: (.one, [.fix]) :: (.one, [.fix]) :: rp 45 (.one, [.junk]) ([])⟩)), (1028680, (.as ⟨[.mu 5 1 tY], [], (.one, [.fix]) :: (.one, [.junk]) :: (.one, [.junk]) :: (.one, [.own 0]) :: (.one, [.fix]) :: (.one, [.hole tI]) :: rp 45 (.one, [.junk]) ([])⟩))] .o .o), [c_ref01_Put], bsX⟩
theorem u_ref14_Put {N : Nat} {a0 : LS} {q : (LB × Unit)} (h : M_ref14_Put N a0 = some q) : S_ref14_Put a0 = some q :=
 Sof_of (Q := q_ref14_Put) (N := N) (n := 3) (f := 126) (tin := i_ref14_Put) (tout := o_ref14_Put) (d := (a0, ())) (all1 k_ref01_Put all0) bs_ok (by kernel_rfl) (by kernel_rfl) (by kernel_rfl) (Eq.trans (b := M_ref14_Put N a0) (by kernel_rfl) h)

noncomputable def M_ref15_Put (N : Nat) (l_0 : LB) (b_1 : Bool) (l_2 : LI) (l_3 : LI) (l_4 : LI) (l_5 : LI) (l_6 : LC) (l_7 : LI) (l_8 : LN) (l_9 : LI) (l_10 : LS) : Option (LB × Unit) :=
 dI l_2 <| fun l1 =>
 dI l_3 <| fun l2 =>
 dI l_4 <| fun l3 =>
 dI l_5 <| fun l4 =>
 dC l_6 <| fun l5 =>
 dI l_7 <| fun l6 =>
 dN l_8 <| fun l7 =>
 dI l_9 <| fun l8 =>
 dS l_10 <| fun l9 =>
 bnd (S_ref15_Can l_0 b_1 l1 l2 l3 l4 l5 l6 l7 l8 l9) <| fun p10 =>
 cnd (notB (eqI p10.1 0))
  (decL tY [] <| fun l11 =>
  some (l11, ()))
  (bnd (S_ref01_Put (wrp .u64 (slen (ByteArray.mk (Array.mk l_0))))) <| fun p12 =>
  qN (vnum (eY p12.1)) <|
  chk (room (vnum (eY p12.1)) (vnum (encS (ByteArray.mk (Array.mk l_0)))) 1) <|
  joinK (δ := (LB × (UInt8 × Unit))) (cnd b_1
    (decL tY (vapp (eY p12.1) (encS (ByteArray.mk (Array.mk l_0)))) <| fun l13 =>
    qB (ByteArray.mk (Array.mk l_0)) <|
    qO b_1 <|
    qS (eI l_2) <|
    qS (eI l_3) <|
    qS (eI l_4) <|
    qS (eI l_5) <|
    qS (eC l_6) <|
    qS (eI l_7) <|
    qS (eN l_8) <|
    qS (eI l_9) <|
    qS (eS l_10) <|
    chk (eqN (addN (vnum (eY p12.1)) (vnum (encS (ByteArray.mk (Array.mk l_0))))) (vnum (vapp (eY p12.1) (encS (ByteArray.mk (Array.mk l_0)))))) <|
    leftK (l13, ((toU8 1), ())))
    (decL tY (vapp (eY p12.1) (encS (ByteArray.mk (Array.mk l_0)))) <| fun l14 =>
    qB (ByteArray.mk (Array.mk l_0)) <|
    qO b_1 <|
    qS (eI l_2) <|
    qS (eI l_3) <|
    qS (eI l_4) <|
    qS (eI l_5) <|
    qS (eC l_6) <|
    qS (eI l_7) <|
    qS (eN l_8) <|
    qS (eI l_9) <|
    qS (eS l_10) <|
    chk (eqN (addN (vnum (eY p12.1)) (vnum (encS (ByteArray.mk (Array.mk l_0))))) (vnum (vapp (eY p12.1) (encS (ByteArray.mk (Array.mk l_0)))))) <|
    leftK (l14, ((toU8 0), ()))))
  <| fun p15 =>
  joinK (δ := (LB × (UInt8 × Unit))) (dI l_2 <| fun l16 =>
   dI l_3 <| fun l17 =>
   dI l_4 <| fun l18 =>
   dI l_5 <| fun l19 =>
   dC l_6 <| fun l20 =>
   dI l_7 <| fun l21 =>
   dN l_8 <| fun l22 =>
   dI l_9 <| fun l23 =>
   dS l_10 <| fun l24 =>
   bnd (S_ref15_Bare l_0 b_1 l16 l17 l18 l19 l20 l21 l22 l23 l24) <| fun p25 =>
   cnd (notB p25.1)
    (dY p15.1 <| fun l26 =>
    qB (ByteArray.mk (Array.mk l_0)) <|
    qO b_1 <|
    qS (eI l_2) <|
    qS (eI l_3) <|
    qS (eI l_4) <|
    qS (eI l_5) <|
    qS (eC l_6) <|
    qS (eI l_7) <|
    qS (eN l_8) <|
    qS (eI l_9) <|
    qS (eS l_10) <|
    qN (vnum (eY p15.1)) <|
    chk (inU8 (wrp .u8 (addI (u8I p15.2.1) 2))) <|
    leftK (l26, ((toU8 (wrp .u8 (addI (u8I p15.2.1) 2))), ())))
    (dY p15.1 <| fun l27 =>
    qB (ByteArray.mk (Array.mk l_0)) <|
    qO b_1 <|
    qS (eI l_2) <|
    qS (eI l_3) <|
    qS (eI l_4) <|
    qS (eI l_5) <|
    qS (eC l_6) <|
    qS (eI l_7) <|
    qS (eN l_8) <|
    qS (eI l_9) <|
    qS (eS l_10) <|
    qN (vnum (eY p15.1)) <|
    chk (inU8 (u8I p15.2.1)) <|
    leftK (l27, ((toU8 (u8I p15.2.1)), ()))))
  <| fun p28 =>
  qN (vnum (eY p28.1)) <|
  chk (room (vnum (eY p28.1)) (vnum (vcut [[(C.v (Go.Value.int .u8 (u8I p28.2.1)))]] 0 1)) 1) <|
  joinK (δ := (LB × Unit)) (cnd b_1
    (dI l_2 <| fun l29 =>
    bnd (S_ref11_Put l29) <| fun p30 =>
    chk (eqN (addN (vnum (eY p28.1)) (vnum (vcut [[(C.v (Go.Value.int .u8 (u8I p28.2.1)))]] 0 1))) (vnum (vapp (eY p28.1) (vcut [[(C.v (Go.Value.int .u8 (u8I p28.2.1)))]] 0 1)))) <|
    chk (room (vnum (vapp (eY p28.1) (vcut [[(C.v (Go.Value.int .u8 (u8I p28.2.1)))]] 0 1))) (vnum (eY p30.1)) 1) <|
    decL tY (vapp (vapp (eY p28.1) (vcut [[(C.v (Go.Value.int .u8 (u8I p28.2.1)))]] 0 1)) (eY p30.1)) <| fun l31 =>
    qB (ByteArray.mk (Array.mk l_0)) <|
    qO b_1 <|
    qS (eI l_2) <|
    qS (eI l_3) <|
    qS (eI l_4) <|
    qS (eI l_5) <|
    qS (eC l_6) <|
    qS (eI l_7) <|
    qS (eN l_8) <|
    qS (eI l_9) <|
    qS (eS l_10) <|
    chk (eqN (addN (vnum (vapp (eY p28.1) (vcut [[(C.v (Go.Value.int .u8 (u8I p28.2.1)))]] 0 1))) (vnum (eY p30.1))) (vnum (vapp (vapp (eY p28.1) (vcut [[(C.v (Go.Value.int .u8 (u8I p28.2.1)))]] 0 1)) (eY p30.1)))) <|
    leftK (l31, ()))
    (decL tY (vapp (eY p28.1) (vcut [[(C.v (Go.Value.int .u8 (u8I p28.2.1)))]] 0 1)) <| fun l32 =>
    qB (ByteArray.mk (Array.mk l_0)) <|
    qO b_1 <|
    qS (eI l_2) <|
    qS (eI l_3) <|
    qS (eI l_4) <|
    qS (eI l_5) <|
    qS (eC l_6) <|
    qS (eI l_7) <|
    qS (eN l_8) <|
    qS (eI l_9) <|
    qS (eS l_10) <|
    chk (eqN (addN (vnum (eY p28.1)) (vnum (vcut [[(C.v (Go.Value.int .u8 (u8I p28.2.1)))]] 0 1))) (vnum (vapp (eY p28.1) (vcut [[(C.v (Go.Value.int .u8 (u8I p28.2.1)))]] 0 1)))) <|
    leftK (l32, ())))
  <| fun p33 =>
  dI l_3 <| fun l34 =>
  bnd (S_ref11_Put l34) <| fun p35 =>
  qN (vnum (eY p33.1)) <|
  chk (room (vnum (eY p33.1)) (vnum (eY p35.1)) 1) <|
  dI l_4 <| fun l36 =>
  bnd (S_ref11_Put l36) <| fun p37 =>
  chk (eqN (addN (vnum (eY p33.1)) (vnum (eY p35.1))) (vnum (vapp (eY p33.1) (eY p35.1)))) <|
  chk (room (vnum (vapp (eY p33.1) (eY p35.1))) (vnum (eY p37.1)) 1) <|
  dI l_5 <| fun l38 =>
  bnd (S_ref11_Put l38) <| fun p39 =>
  chk (eqN (addN (vnum (vapp (eY p33.1) (eY p35.1))) (vnum (eY p37.1))) (vnum (vapp (vapp (eY p33.1) (eY p35.1)) (eY p37.1)))) <|
  chk (room (vnum (vapp (vapp (eY p33.1) (eY p35.1)) (eY p37.1))) (vnum (eY p39.1)) 1) <|
  bnd (S_ref01_Put (wrp .u64 (vlen (eC l_6)))) <| fun p40 =>
  chk (leN (addN 0 (vnum (eY p40.1))) (vnum (eY p40.1))) <|
  chk (eqN (addN (vnum (vapp (vapp (eY p33.1) (eY p35.1)) (eY p37.1))) (vnum (eY p39.1))) (vnum (vapp (vapp (vapp (eY p33.1) (eY p35.1)) (eY p37.1)) (eY p39.1)))) <|
  chk (room (vnum (vapp (vapp (vapp (eY p33.1) (eY p35.1)) (eY p37.1)) (eY p39.1))) (vnum (vcut (eY p40.1) 0 (vnum (eY p40.1)))) 1) <|
  decL tY (vapp (vapp (vapp (vapp (eY p33.1) (eY p35.1)) (eY p37.1)) (eY p39.1)) (vcut (eY p40.1) 0 (vnum (eY p40.1)))) <| fun l41 =>
  qB (ByteArray.mk (Array.mk l_0)) <|
  qO b_1 <|
  qS (eI l_2) <|
  qS (eI l_3) <|
  qS (eI l_4) <|
  qS (eI l_5) <|
  qS (eC l_6) <|
  qS (eI l_7) <|
  qS (eN l_8) <|
  qS (eI l_9) <|
  qS (eS l_10) <|
  chk (eqN (addN (vnum (vapp (vapp (vapp (eY p33.1) (eY p35.1)) (eY p37.1)) (eY p39.1))) (vnum (vcut (eY p40.1) 0 (vnum (eY p40.1))))) (vnum (vapp (vapp (vapp (vapp (eY p33.1) (eY p35.1)) (eY p37.1)) (eY p39.1)) (vcut (eY p40.1) 0 (vnum (eY p40.1)))))) <|
  iter (fun (d42 : (LB × (Int × Unit))) again43 =>
   cnd (ltI d42.2.1 (vlen (eC l_6)))
    (chk (leI 0 d42.2.1) <|
    getE tC (eC l_6) (natI d42.2.1) <| fun p44 =>
    bnd (S_ref10_Put p44.1 p44.2) <| fun p45 =>
    qN (vnum (eY d42.1)) <|
    chk (room (vnum (eY d42.1)) (vnum (eY p45.1)) 1) <|
    decL tY (vapp (eY d42.1) (eY p45.1)) <| fun l46 =>
    qB (ByteArray.mk (Array.mk l_0)) <|
    qO b_1 <|
    qS (eI l_2) <|
    qS (eI l_3) <|
    qS (eI l_4) <|
    qS (eI l_5) <|
    qS (eC l_6) <|
    qS (eI l_7) <|
    qS (eN l_8) <|
    qS (eI l_9) <|
    qS (eS l_10) <|
    chk (eqN (addN (vnum (eY d42.1)) (vnum (eY p45.1))) (vnum (vapp (eY d42.1) (eY p45.1)))) <|
    again43 (l46, ((wrp .i64 (addI d42.2.1 1)), ())))
    (dI l_7 <| fun l47 =>
    bnd (S_ref04_Put l47) <| fun p48 =>
    qN (vnum (eY d42.1)) <|
    chk (room (vnum (eY d42.1)) (vnum (eY p48.1)) 1) <|
    dI l_2 <| fun l49 =>
    dI l_3 <| fun l50 =>
    dI l_4 <| fun l51 =>
    dI l_5 <| fun l52 =>
    dC l_6 <| fun l53 =>
    dI l_7 <| fun l54 =>
    dN l_8 <| fun l55 =>
    dI l_9 <| fun l56 =>
    dS l_10 <| fun l57 =>
    bnd (S_ref15_Bare l_0 b_1 l49 l50 l51 l52 l53 l54 l55 l56 l57) <| fun p58 =>
    cnd (notB p58.1)
     (dN l_8 <| fun l59 =>
     bnd (S_ref13_Put l59) <| fun p60 =>
     chk (eqN (addN (vnum (eY d42.1)) (vnum (eY p48.1))) (vnum (vapp (eY d42.1) (eY p48.1)))) <|
     chk (room (vnum (vapp (eY d42.1) (eY p48.1))) (vnum (eY p60.1)) 1) <|
     dI l_9 <| fun l61 =>
     bnd (S_ref04_Put l61) <| fun p62 =>
     chk (eqN (addN (vnum (vapp (eY d42.1) (eY p48.1))) (vnum (eY p60.1))) (vnum (vapp (vapp (eY d42.1) (eY p48.1)) (eY p60.1)))) <|
     chk (room (vnum (vapp (vapp (eY d42.1) (eY p48.1)) (eY p60.1))) (vnum (eY p62.1)) 1) <|
     dS l_10 <| fun l63 =>
     bnd (S_ref14_Put l63) <| fun p64 =>
     chk (eqN (addN (vnum (vapp (vapp (eY d42.1) (eY p48.1)) (eY p60.1))) (vnum (eY p62.1))) (vnum (vapp (vapp (vapp (eY d42.1) (eY p48.1)) (eY p60.1)) (eY p62.1)))) <|
     chk (room (vnum (vapp (vapp (vapp (eY d42.1) (eY p48.1)) (eY p60.1)) (eY p62.1))) (vnum (eY p64.1)) 1) <|
     chk (leN (addN 0 (addN (vnum (vapp (vapp (vapp (eY d42.1) (eY p48.1)) (eY p60.1)) (eY p62.1))) (vnum (eY p64.1)))) (vnum (vapp (vapp (vapp (vapp (eY d42.1) (eY p48.1)) (eY p60.1)) (eY p62.1)) (eY p64.1)))) <|
     decL tY (vcut (vapp (vapp (vapp (vapp (eY d42.1) (eY p48.1)) (eY p60.1)) (eY p62.1)) (eY p64.1)) 0 (addN (vnum (vapp (vapp (vapp (eY d42.1) (eY p48.1)) (eY p60.1)) (eY p62.1))) (vnum (eY p64.1)))) <| fun l65 =>
     some (l65, ()))
     (chk (leN (addN 0 (addN (vnum (eY d42.1)) (vnum (eY p48.1)))) (vnum (vapp (eY d42.1) (eY p48.1)))) <|
     decL tY (vcut (vapp (eY d42.1) (eY p48.1)) 0 (addN (vnum (eY d42.1)) (vnum (eY p48.1)))) <| fun l66 =>
     some (l66, ())))) N (l41, (0, ())))
noncomputable def q_ref15_Put : Lift := ⟨tyX, look2 .todo (α := LoopAs) (.n 75 [(17, (.as ⟨[.mu 5 1 tY], [[.fix, .fix, .fix, .fix, .fix, .fix, .fix, .fix, .fix, .fix, .fix]], (.one, [.junk]) :: (.one, [.stat (.ptr 0 0)]) :: (.one, [.junk]) :: (.one, [.own 0]) :: (.one, [.junk]) :: (.one, [.hole tI]) :: rp 91 (.one, [.junk]) ([])⟩)), (1028680, (.as ⟨[.mu 5 1 tY], [[.fix, .fix, .fix, .fix, .fix, .fix, .fix, .fix, .fix, .fix, .fix]], (.one, [.junk]) :: (.one, [.stat (.ptr 0 0)]) :: (.one, [.junk]) :: (.one, [.own 0]) :: (.one, [.hole tY]) :: rp 92 (.one, [.junk]) ([])⟩)), (1036874, (.as ⟨[.mu 5 1 tY], [[.fix, .fix, .fix, .fix, .fix, .fix, .fix, .fix, .fix, .fix, .fix]], (.one, [.junk]) :: (.one, [.stat (.ptr 0 0)]) :: (.one, [.junk]) :: (.one, [.own 0]) :: (.one, [.hole tY]) :: rp 92 (.one, [.junk]) ([])⟩)), (1049165, (.as ⟨[.mu 5 1 tY], [[.fix, .fix, .fix, .fix, .fix, .fix, .fix, .fix, .fix, .fix, .fix]], (.one, [.junk]) :: (.one, [.stat (.ptr 0 0)]) :: (.one, [.junk]) :: (.one, [.own 0]) :: rp 93 (.one, [.junk]) ([])⟩))] .o .o), [c_ref15_Bare, c_ref15_Can, c_ref01_Put, c_ref11_Put, c_ref10_Put, c_ref04_Put, c_ref13_Put, c_ref14_Put], bsX⟩
theorem u_ref15_Put {N : Nat} {a0 : LB} {a1 : Bool} {a2 : LI} {a3 : LI} {a4 : LI} {a5 : LI} {a6 : LC} {a7 : LI} {a8 : LN} {a9 : LI} {a10 : LS} {q : (LB × Unit)} (h : M_ref15_Put N a0 a1 a2 a3 a4 a5 a6 a7 a8 a9 a10 = some q) : S_ref15_Put a0 a1 a2 a3 a4 a5 a6 a7 a8 a9 a10 = some q :=
 Sof_of (Q := q_ref15_Put) (N := N) (n := 3) (f := 75) (tin := i_ref15_Put) (tout := o_ref15_Put) (d := (a0, (a1, (a2, (a3, (a4, (a5, (a6, (a7, (a8, (a9, (a10, ())))))))))))) (all1 k_ref15_Bare (all1 k_ref15_Can (all1 k_ref01_Put (all1 k_ref11_Put (all1 k_ref10_Put (all1 k_ref04_Put (all1 k_ref13_Put (all1 k_ref14_Put all0)))))))) bs_ok (by kernel_rfl) (by kernel_rfl) (by kernel_rfl) (Eq.trans (b := M_ref15_Put N a0 a1 a2 a3 a4 a5 a6 a7 a8 a9 a10) (by kernel_rfl) h)
end Go.Proofs.YtkdnbnkbnegckaaGreat

namespace Go.Proofs.YtkdnbnkbnegckaaGreat
open Go.RowKit
set_option maxRecDepth 20000
theorem sp_Names {fs : List Fn} (hl : fs.length ≤ 1000000) : S_ref16_Names fs = some (fs.map (·.1), ()) := by
  refine u_ref16_Names (N := fs.length + 1) ?_
  simp [M_ref16_Names]
  refine iter_to (fun d => fs.length - d.2.1.toNat) (fun d => ∃ k : Nat, d = ((fs.take k).map (·.1), (k : Int), ()) ∧ k ≤ fs.length) ?_ _ _ ⟨0, by simp, Nat.zero_le _⟩ (by simp)
  rintro _ again ⟨k, rfl, hk⟩ ih
  by_cases h : k < fs.length
  · have hw : wrp .i64 ((k : Int) + 1) = (k : Int) + 1 := wi64 (by omega) (by omega)
    have hr := room_t (a := k) (b := 1) (c := 16) (by omega) (by omega)
    have hm : min k fs.length = k := by omega
    have := ih ((fs.take (k + 1)).map (·.1), (k : Int) + 1, ()) ⟨k + 1, rfl, h⟩ (by simp; omega)
    have e : (fs.take k).map (·.1) ++ [fs[k].1] = (fs.take (k + 1)).map (·.1) := by rw [List.take_succ_eq_append_getElem h, List.map_append]; rfl
    rw [← e] at this
    simpa [h, bnd_get h, hw, hr, hm] using this
  · have : k = fs.length := by omega
    subst this
    simp
/-- Where a text comes first. -/
def findI : List (List UInt8) → List UInt8 → Nat → Int
  | [], _, _ => -1
  | x :: l, y, i => if x = y then i else findI l y (i + 1)
theorem sp_Find5 {l : List (List UInt8)} {y : List UInt8} (hl : l.length ≤ 1000000) : S_ref05_Find l y = some (findI l y 0, ()) := by
  refine u_ref05_Find (N := l.length + 1) ?_
  simp [M_ref05_Find]
  refine iter_to (fun d => l.length - d.1.toNat) (fun d => ∃ k : Nat, d = ((k : Int), ()) ∧ k ≤ l.length ∧ findI l y 0 = findI (l.drop k) y k) ?_ _ _ ⟨0, rfl, Nat.zero_le _, rfl⟩ (by simp)
  rintro _ again ⟨k, rfl, hk, hf⟩ ih
  by_cases h : k < l.length
  · have hw : wrp .i64 ((k : Int) + 1) = (k : Int) + 1 := wi64 (by omega) (by omega)
    rw [List.drop_eq_getElem_cons h, findI] at hf
    by_cases he : l[k] = y
    · rw [if_pos he] at hf
      rw [hf]
      simp [h, bnd_get h, he]
    · rw [if_neg he] at hf
      have := ih ((k : Int) + 1, ()) ⟨k + 1, rfl, h, hf⟩ (by simp; omega)
      simpa [h, bnd_get h, hw, he] using this
  · have : k = l.length := by omega
    subst this
    rw [hf]
    simp [findI]
theorem findI_at : ∀ {l : List (List UInt8)} {i k : Nat} (h : k < l.length), (∀ j (hj : j < k), l[j] ≠ l[k]) → findI l l[k] i = ((i + k : Nat) : Int)
  | x :: l, i, 0, h, _ => by simp [findI]
  | x :: l, i, k + 1, h, hh => by
    have h1 : x ≠ l[k]'(by simpa using h) := by simpa using hh 0 (by omega)
    show (if x = l[k]'(by simpa using h) then _ else findI l (l[k]'(by simpa using h)) (i + 1)) = _
    rw [if_neg h1, findI_at (by simpa using h) fun j hj => by simpa using hh (j + 1) (by omega)]
    omega
theorem findI_before : ∀ {l : List (List UInt8)} {i j k : Nat} (h : k < l.length) (hj : j < k), l[j]'(by omega) = l[k] → findI l l[k] i < ((i + k : Nat) : Int)
  | x :: l, i, j, 0, h, hj, _ => by omega
  | x :: l, i, j, k + 1, h, hj, he => by
    show (if x = l[k]'(by simpa using h) then (i : Int) else findI l (l[k]'(by simpa using h)) (i + 1)) < _
    by_cases hx : x = l[k]'(by simpa using h)
    · rw [if_pos hx]; omega
    · rw [if_neg hx]
      cases j with
      | zero => exact absurd (by simpa using he) hx
      | succ j =>
        have := findI_before (i := i + 1) (j := j) (k := k) (l := l) (by simpa using h) (by omega) (by simpa using he)
        omega
theorem sp_Unlike5 {l : List (List UInt8)} (hl : l.length ≤ 1000000) : S_ref05_Unlike l = some (decide l.Nodup, ()) := by
  refine u_ref05_Unlike (N := l.length + 1) ?_
  simp [M_ref05_Unlike]
  refine iter_to (fun d => l.length - d.1.toNat) (fun d => ∃ k : Nat, d = ((k : Int), ()) ∧ k ≤ l.length ∧ ∀ i j (hi : i < k) (hj : j < i) (hk : i < l.length), l[j] ≠ l[i]) ?_ _ _ ⟨0, rfl, Nat.zero_le _, fun i j hi => by omega⟩ (by simp)
  rintro _ again ⟨k, rfl, hk, hf⟩ ih
  by_cases h : k < l.length
  · have hw : wrp .i64 ((k : Int) + 1) = (k : Int) + 1 := wi64 (by omega) (by omega)
    by_cases hd : ∃ j, ∃ hj : j < k, l[j] = l[k]
    · obtain ⟨j, hj, he⟩ := hd
      have h1 := findI_before (i := 0) h hj he
      have hn : ¬l.Nodup := fun hn => by
        have := (List.nodup_iff_pairwise_ne.1 hn)
        exact (List.pairwise_iff_getElem.1 this j k (by omega) h hj) he
      have h2 : ¬findI l l[k] 0 = (k : Int) := by omega
      simp [h, bnd_get h, sp_Find5 hl, h2, hn]
    · have h1 := findI_at (i := 0) h fun j hj he => hd ⟨j, hj, he⟩
      have h2 : findI l l[k] 0 = (k : Int) := by rw [h1, Nat.zero_add]
      have := ih ((k : Int) + 1, ()) ⟨k + 1, rfl, h, fun i j hi hj hk2 he => by
        by_cases e : i = k
        · subst e; exact hd ⟨j, hj, he⟩
        · exact hf i j (by omega) hj hk2 he⟩ (by simp; omega)
      simpa [h, bnd_get h, hw, sp_Find5 hl, h2] using this
  · have : k = l.length := by omega
    subst this
    have hn : l.Nodup := List.nodup_iff_pairwise_ne.2 (List.pairwise_iff_getElem.2 fun i j hi hj hij => hf j i hj hij hj)
    simp [hn]
theorem sp_rfileCan {fs : List Fn} (hl : ∀ f ∈ fs, LenV f) (hn : fs.length ≤ 1000000) : S_ref16_Can fs = some (canP fs, ()) := by
  refine u_ref16_Can (N := fs.length + 1) ?_
  by_cases h1 : fs.length < 1
  · have h2 : (fs.length : Int) < 1 := by omega
    simp [M_ref16_Can, canP, h1, h2]
  have h2 : ¬(fs.length : Int) < 1 := by omega
  by_cases h3 : 40 < fs.length
  · have h4 : (40 : Int) < (fs.length : Int) := by omega
    simp [M_ref16_Can, canP, h1, h2, h3, h4]
  have h4 : ¬(40 : Int) < (fs.length : Int) := by omega
  simp [M_ref16_Can, canP, h1, h2, h3, h4]
  refine iter_to (fun d => fs.length - d.1.toNat) (fun d => ∃ k : Nat, d = ((k : Int), ()) ∧ k ≤ fs.length ∧ firstE fs = firstE (fs.drop k)) ?_ _ _ ⟨0, rfl, Nat.zero_le _, rfl⟩ (by simp)
  rintro _ again ⟨k, rfl, hk, hf⟩ ih
  by_cases h : k < fs.length
  · have hw : wrp .i64 ((k : Int) + 1) = (k : Int) + 1 := wi64 (by omega) (by omega)
    obtain ⟨g1, g2, g3⟩ := hl fs[k] (List.getElem_mem h)
    have hC : S_ref15_Can fs[k].1 fs[k].2.1 fs[k].2.2.1 fs[k].2.2.2.1 fs[k].2.2.2.2.1 fs[k].2.2.2.2.2.1 fs[k].2.2.2.2.2.2.1 fs[k].2.2.2.2.2.2.2.1 fs[k].2.2.2.2.2.2.2.2.1 fs[k].2.2.2.2.2.2.2.2.2.1 fs[k].2.2.2.2.2.2.2.2.2.2 = some (canV fs[k], ()) := sp_rCan (inner := fs[k].2.1) g1 g2
    have hd : fs.drop k = fs[k] :: fs.drop (k + 1) := List.drop_eq_getElem_cons h
    rw [hd, firstE] at hf
    by_cases hz : canV fs[k] = 0
    · rw [if_pos hz] at hf
      rw [hz] at hC
      have := ih ((k : Int) + 1, ()) ⟨k + 1, rfl, h, hf⟩ (by simp; omega)
      simpa [h, bnd_get h, hw, hC] using this
    · rw [if_neg hz] at hf
      have hf2 : ¬firstE fs = 0 := by rw [hf]; exact hz
      rw [if_neg hf2, hf]
      simp [h, bnd_get h, hC, hz]
  · have : k = fs.length := by omega
    subst this
    have hf0 : firstE fs = 0 := by rw [hf]; simp [firstE]
    by_cases hnd : (fs.map (·.1)).Nodup <;> simp [sp_Names hn, sp_Unlike5 (l := fs.map (·.1)) (by rw [List.length_map]; exact hn), hf0, hnd]
end Go.Proofs.YtkdnbnkbnegckaaGreat
namespace Go.Proofs.YtkdnbnkbnegckaaGreat
open Go.RowKit
set_option maxRecDepth 20000
theorem sp_rPutF : ∀ (f n : Nat), n < 2 ^ (7 * (f + 1)) → f ≤ 9 → n < 18446744073709551616 → S_ref01_Put (n : Int) = some (putF f n, ())
  | f, n, h, hf, h64 => by
    refine u_ref01_Put (N := 0) ?_
    by_cases hlt : n < 128
    · have e1 : wrp .u8 (n : Int) = u8I (UInt8.ofNat n) := by
        rw [wrp, IntKind.wrap_u8']
        have := ofNat_lt (n := n) (by omega)
        simp only [u8I]
        omega
      simp [M_ref01_Put, show (n : Int) < 128 by omega, e1, putF_lt f hlt]
    · match f with
      | 0 => simp at h; omega
      | f + 1 =>
        have hp : n / 128 < 2 ^ (7 * (f + 1)) := by rw [pow128] at h; omega
        have ih := sp_rPutF f (n / 128) hp (by omega) (by omega)
        have hc : ((n / 128 : Nat) : Int) = (n : Int) / 128 := by omega
        rw [hc] at ih
        have e1 : wrp .u64 ((n : Int) / 128) = (n : Int) / 128 := wu64 (by omega) (by omega)
        have e2 : wrp .u8 (wrp .u8 ((n : Int).tmod 128) + 128) = u8I (UInt8.ofNat (n % 128 + 128)) := by
          rw [Int.tmod_eq_emod_of_nonneg (by omega)]
          have := ofNat_lt (n := n % 128 + 128) (by omega)
          simp only [wrp, IntKind.wrap_u8', u8I]
          omega
        have hl := putF_le f (n / 128)
        have hr := room_b (a := 1) (b := (putF f (n / 128)).length) (by omega)
        rw [putF_ge f (by omega)]
        simp [M_ref01_Put, show ¬(n : Int) < 128 by omega, e1, e2, ih, hr, Nat.add_comm 1]
theorem sp_rPut {n : Nat} (h : n < 18446744073709551616) : S_ref01_Put (n : Int) = some (putB n, ()) := sp_rPutF 9 n (Nat.lt_of_lt_of_le h (by decide)) (by omega) h
theorem sp_rFold {n : Int} (hn : I64 n) : S_ref01_Fold n = some ((foldN n : Int), ()) := by
  obtain ⟨h1, h2⟩ := hn
  refine u_ref01_Fold (N := 0) ?_
  by_cases h : n < 0
  · have e := foldN_neg h
    have e1 : wrp .i64 (n + 1) = n + 1 := wi64 (by omega) (by omega)
    have e2 : wrp .i64 (0 - (n + 1)) = 0 - (n + 1) := wi64 (by omega) (by omega)
    have e3 : wrp .u64 (0 - (n + 1)) = 0 - (n + 1) := wu64 (by omega) (by omega)
    have e4 : wrp .u64 (2 * (0 - (n + 1))) = 2 * (0 - (n + 1)) := wu64 (by omega) (by omega)
    have e5 : wrp .u64 (2 * (0 - (n + 1)) + 1) = 2 * (0 - (n + 1)) + 1 := wu64 (by omega) (by omega)
    simp only [M_ref01_Fold, ltI_d, addI_d, subI_d, mulI_d, negI, h, decide_true, cnd_t, e1, e2, e3, e4, e5]
    rw [e]
    congr 2
    omega
  · have e := foldN_nn h
    have e3 : wrp .u64 n = n := wu64 (by omega) (by omega)
    have e4 : wrp .u64 (2 * n) = 2 * n := wu64 (by omega) (by omega)
    simp [M_ref01_Fold, h, e3, e4, e]
theorem sp_rPutI {n : Int} (hn : I64 n) : S_ref01_Put ((foldN n : Nat) : Int) = some (intB n, ()) := sp_rPut (by have := foldN_lt hn.1 hn.2; omega)
theorem sp_rOf {l : List Int} (hl : l.length ≤ 1000000) : S_ref04_Of l = some (groupsG l, ()) := by
  refine u_ref04_Of (N := l.length + 1) ?_
  simp [M_ref04_Of]
  refine iter_to (fun d => l.length - d.2.1.toNat) (fun d => ∃ k : Nat, d = (groupsG (l.take k), ((k : Int), ())) ∧ k ≤ l.length) ?_ _ _ ⟨0, by simp [groupsG], Nat.zero_le _⟩ (by simp)
  rintro _ again ⟨k, rfl, hk⟩ ih
  by_cases h : k < l.length
  · have hw : wrp .i64 ((k : Int) + 1) = (k : Int) + 1 := wi64 (by omega) (by omega)
    obtain ⟨-, -, h3, h4⟩ := groupsG_ok l k hk
    have hi := ih (stepG (groupsG (l.take k)) l[k], ((k : Int) + 1, ())) ⟨k + 1, by rw [groupsG_take h]; rfl, h⟩ (by simp; omega)
    generalize groupsG (l.take k) = acc at *
    have hr := room_t (a := acc.length) (b := 1) (c := 16) (by omega) (by omega)
    cases hg : acc.getLast? with
    | none =>
      have : acc = [] := List.getLast?_eq_none_iff.1 hg
      subst this
      simp at hr
      simpa [h, bnd_get h, hw, hr, stepG, show wrp .i64 (-1) = -1 from rfl] using hi
    | some p =>
      obtain ⟨ys, rfl⟩ := List.getLast?_eq_some_iff.1 hg
      have hp := h4 p (by simp)
      simp at h3
      have hw2 : wrp .i64 (ys.length : Int) = ys.length := wi64 (by omega) (by omega)
      have hw3 : wrp .i64 (p.1 + 1) = p.1 + 1 := wi64 (by omega) (by omega)
      by_cases e : p.2 = l[k]
      · rw [← e, stepG_same] at hi
        simpa [h, bnd_get h, hw, hw2, hw3, e, show (ys.length : Int) < ys.length + 1 by omega] using hi
      · rw [stepG_new e] at hi
        simp at hr
        simpa [h, bnd_get h, hw, hw2, hr, e, show (ys.length : Int) < ys.length + 1 by omega] using hi
  · have : k = l.length := by omega
    subst this
    simp
theorem sp_rPut04 {l : List Int} (hl : l.length ≤ 1000000) (hI : ∀ v ∈ l, I64 v) : S_ref04_Put l = some (runsL l, ()) := by
  obtain ⟨-, -, h3, h4⟩ := groupsG_all l
  refine u_ref04_Put (N := (groupsG l).length + 1) ?_
  simp [M_ref04_Put, sp_rOf hl]
  refine iter_lay (b := []) (l := groupsG l) (g := runL) (c := 20) (by omega) (by omega) (fun x _ => runL_le x) ?_ ?_
  · intro k acc again hk ha
    obtain ⟨q1, q2, q3⟩ := h4 _ (List.getElem_mem hk)
    have hA : acc.length ≤ 1030000000 := by simp at ha; omega
    obtain ⟨n, hn⟩ := Int.eq_ofNat_of_zero_le (show 0 ≤ (groupsG l)[k].1 by omega)
    have hw : wrp .u64 (n : Int) = (n : Int) := wu64 (by omega) (by omega)
    have hp := putB_le n
    have hp2 := intB_le (groupsG l)[k].2
    have r1 := room_b (a := acc.length) (b := (putB n).length) (by omega)
    have r2 := room_b (a := acc.length + (putB n).length) (b := (intB (groupsG l)[k].2).length) (by omega)
    simp [hk, bnd_get hk, hw, sp_rPut (n := n) (by omega), sp_rFold (hI _ q3), sp_rPutI (hI _ q3), runL, hn, r1, r2, Nat.add_assoc]
  · intro again
    simp [runsL]
theorem sp_rPut10 {n a : Int} (h : rightN n a = true) (ha : I64 a) : S_ref10_Put n a = some (instrL n a, ()) := by
  refine u_ref10_Put (N := 0) ?_
  have h1 : 0 ≤ n ∧ n < 35 := by simp only [rightN, decide_eq_true_eq] at h; omega
  have e1 : wrp .u8 n = u8I (toU8 n) := by
    rw [wrp, IntKind.wrap_u8']
    obtain ⟨k, rfl⟩ := Int.eq_ofNat_of_zero_le h1.1
    have := ofNat_lt (n := k) (by omega)
    simp only [u8I, toU8, Int.toNat_natCast]
    omega
  have hk0 := kindN_le n
  have hp := intB_le a
  have r1 := room_b (a := 1) (b := (intB a).length) (by omega)
  by_cases hk : kindN n = 0
  · simp [M_ref10_Put, sp_rRight, h, sp_rOperand, e1, hk, instrL]
  · simp [M_ref10_Put, sp_rRight, h, sp_rOperand, e1, hk, instrL, sp_rFold ha, sp_rPutI ha, r1, Nat.add_comm 1, show (0 : Int) < kindN n by omega]
theorem sp_rPut11 {l : List Int} (hl : l.length ≤ 1000000) (ht : l.all typeB = true) : S_ref11_Put l = some (sigL l, ()) := by
  refine u_ref11_Put (N := l.length + 1) ?_
  have h1 := putB_le l.length
  have hw : wrp .u64 (l.length : Int) = (l.length : Int) := wu64 (by omega) (by omega)
  simp [M_ref11_Put, sp_rRight11 (l := l) (m := l.length) (by omega), sigB, ht, hw, sp_rPut (n := l.length) (by omega)]
  refine iter_lay (b := putB l.length) (l := l) (g := fun t => [toU8 t]) (c := 1) (by omega) (by omega) (by simp) ?_ ?_
  · intro k acc again hk ha
    have h3 : typeB l[k] = true := List.all_eq_true.1 ht _ (List.getElem_mem hk)
    simp only [typeB, Bool.or_eq_true, decide_eq_true_eq] at h3
    have e1 : wrp .u8 l[k] = u8I (toU8 l[k]) := by
      rw [wrp, IntKind.wrap_u8']
      rcases h3 with h3 | h3 <;> rw [h3] <;> rfl
    have hr := room_b (a := acc.length) (b := 1) (by simp at ha; omega)
    simp [hk, bnd_get hk, e1, hr]
  · intro again
    simp [sigL]
theorem sp_rPut13 {l : List Nd} (hl : l.length ≤ 1000000) (hI : ∀ p ∈ l, I64N p) : S_ref13_Put l = some (treeL l, ()) := by
  refine u_ref13_Put (N := l.length + 1) ?_
  have h1 := putB_le l.length
  have hw : wrp .u64 (l.length : Int) = (l.length : Int) := wu64 (by omega) (by omega)
  simp [M_ref13_Put, hw, sp_rPut (n := l.length) (by omega)]
  refine iter_lay (b := putB l.length) (l := l) (g := nodeL) (c := 70) (by omega) (by omega) (fun x _ => nodeL_le x) ?_ ?_
  · intro k acc again hk ha
    obtain ⟨i1, i2, i3, i4, i5, i6, i7⟩ := hI _ (List.getElem_mem hk)
    have hA : acc.length ≤ 2000000000 := by omega
    have hs := fun n => intB_le n
    generalize hp : l[k] = p at *
    have a1 := hs p.1
    have a2 := hs p.2.1
    have a3 := hs p.2.2.1
    have a4 := hs p.2.2.2.1
    have a5 := hs p.2.2.2.2.1
    have a6 := hs p.2.2.2.2.2.1
    have a7 := hs p.2.2.2.2.2.2
    have r1 := room_b (a := acc.length) (b := (intB p.1).length) (by omega)
    have r2 := room_b (a := acc.length + (intB p.1).length) (b := (intB p.2.1).length) (by omega)
    have r3 := room_b (a := acc.length + ((intB p.1).length + (intB p.2.1).length)) (b := (intB p.2.2.1).length) (by omega)
    have r4 := room_b (a := acc.length + ((intB p.1).length + ((intB p.2.1).length + (intB p.2.2.1).length))) (b := (intB p.2.2.2.1).length) (by omega)
    have r5 := room_b (a := acc.length + ((intB p.1).length + ((intB p.2.1).length + ((intB p.2.2.1).length + (intB p.2.2.2.1).length)))) (b := (intB p.2.2.2.2.1).length) (by omega)
    have r6 := room_b (a := acc.length + ((intB p.1).length + ((intB p.2.1).length + ((intB p.2.2.1).length + ((intB p.2.2.2.1).length + (intB p.2.2.2.2.1).length))))) (b := (intB p.2.2.2.2.2.1).length) (by omega)
    have r7 := room_b (a := acc.length + ((intB p.1).length + ((intB p.2.1).length + ((intB p.2.2.1).length + ((intB p.2.2.2.1).length + ((intB p.2.2.2.2.1).length + (intB p.2.2.2.2.2.1).length)))))) (b := (intB p.2.2.2.2.2.2).length) (by omega)
    simp [hk, bnd_get hk, hp, nodeL, sp_rFold i1, sp_rPutI i1, sp_rFold i2, sp_rPutI i2, sp_rFold i3, sp_rPutI i3, sp_rFold i4, sp_rPutI i4, sp_rFold i5, sp_rPutI i5, sp_rFold i6, sp_rPutI i6, sp_rFold i7, sp_rPutI i7, r1, r2, r3, r4, r5, r6, r7, Nat.add_assoc]
  · intro again
    simp [treeL]
end Go.Proofs.YtkdnbnkbnegckaaGreat
