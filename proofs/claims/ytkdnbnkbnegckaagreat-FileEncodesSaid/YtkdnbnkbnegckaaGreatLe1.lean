/- Functions, lifted: what the program comes to by them. -/
import Derived.Test.YtkdnbnkbnegckaaGreatLeA
namespace Go.Proofs.YtkdnbnkbnegckaaGreat
open Go.RowKit
set_option maxRecDepth 100000
set_option linter.unusedVariables false
noncomputable def M_ref01_Put (N : Nat) (n_0 : Int) : Option (LB × Unit) :=
 cnd (ltI n_0 128)
  (decL tY [[(C.v (Go.Value.int .u8 (wrp .u8 n_0)))]] <| fun l1 =>
  some (l1, ()))
  (bnd (S_ref01_Put (wrp .u64 (quoI n_0 128))) <| fun p2 =>
  chk (leN (addN 0 (vnum (eY p2.1))) (vnum (eY p2.1))) <|
  chk (room 1 (vnum (vcut (eY p2.1) 0 (vnum (eY p2.1)))) 1) <|
  decL tY (vapp [[(C.v (Go.Value.int .u8 (wrp .u8 (addI (wrp .u8 (remI n_0 128)) 128))))]] (vcut (eY p2.1) 0 (vnum (eY p2.1)))) <| fun l3 =>
  chk (eqN (addN 1 (vnum (vcut (eY p2.1) 0 (vnum (eY p2.1))))) (vnum (vapp [[(C.v (Go.Value.int .u8 (wrp .u8 (addI (wrp .u8 (remI n_0 128)) 128))))]] (vcut (eY p2.1) 0 (vnum (eY p2.1)))))) <|
  some (l3, ()))
noncomputable def q_ref01_Put : Lift := ⟨tyX, look2 .todo (α := LoopAs) (.o), [c_ref01_Put], bsX⟩
theorem u_ref01_Put {N : Nat} {a0 : Int} {q : (LB × Unit)} (h : M_ref01_Put N a0 = some q) : S_ref01_Put a0 = some q :=
 Sof_of (Q := q_ref01_Put) (N := N) (n := 3) (f := 74) (tin := i_ref01_Put) (tout := o_ref01_Put) (d := (a0, ())) (all1 k_ref01_Put all0) bs_ok (by kernel_rfl) (by kernel_rfl) (by kernel_rfl) (Eq.trans (b := M_ref01_Put N a0) (by kernel_rfl) h)

noncomputable def M_ref11_Put (N : Nat) (l_0 : LI) : Option (LB × Unit) :=
 dI l_0 <| fun l1 =>
 bnd (S_ref11_Right l1 (vlen (eI l_0))) <| fun p2 =>
 cnd (notB p2.1)
  (decL tY [] <| fun l3 =>
  some (l3, ()))
  (bnd (S_ref01_Put (wrp .u64 (vlen (eI l_0)))) <| fun p4 =>
  dY p4.1 <| fun l5 =>
  qS (eI l_0) <|
  qN (vnum (eY p4.1)) <|
  iter (fun (d6 : (LB × (Int × Unit))) again7 =>
   cnd (ltI d6.2.1 (vlen (eI l_0)))
    (chk (leI 0 d6.2.1) <|
    getE tI (eI l_0) (natI d6.2.1) <| fun n8 =>
    qN (vnum (eY d6.1)) <|
    chk (room (vnum (eY d6.1)) (vnum (vcut [[(C.v (Go.Value.int .u8 (wrp .u8 n8)))]] 0 1)) 1) <|
    decL tY (vapp (eY d6.1) (vcut [[(C.v (Go.Value.int .u8 (wrp .u8 n8)))]] 0 1)) <| fun l9 =>
    qS (eI l_0) <|
    chk (eqN (addN (vnum (eY d6.1)) (vnum (vcut [[(C.v (Go.Value.int .u8 (wrp .u8 n8)))]] 0 1))) (vnum (vapp (eY d6.1) (vcut [[(C.v (Go.Value.int .u8 (wrp .u8 n8)))]] 0 1)))) <|
    again7 (l9, ((wrp .i64 (addI d6.2.1 1)), ())))
    (chk (leN (addN 0 (vnum (eY d6.1))) (vnum (eY d6.1))) <|
    decL tY (vcut (eY d6.1) 0 (vnum (eY d6.1))) <| fun l10 =>
    some (l10, ()))) N (l5, (0, ())))
noncomputable def q_ref11_Put : Lift := ⟨tyX, look2 .todo (α := LoopAs) (.n 122 [(5, (.as ⟨[.mu 5 1 tY], [], (.one, [.fix]) :: (.one, [.junk]) :: (.one, [.junk]) :: (.one, [.own 0]) :: (.one, [.hole tI]) :: rp 24 (.one, [.junk]) ([])⟩))] .o .o), [c_ref11_Right, c_ref01_Put], bsX⟩
theorem u_ref11_Put {N : Nat} {a0 : LI} {q : (LB × Unit)} (h : M_ref11_Put N a0 = some q) : S_ref11_Put a0 = some q :=
 Sof_of (Q := q_ref11_Put) (N := N) (n := 3) (f := 122) (tin := i_ref11_Put) (tout := o_ref11_Put) (d := (a0, ())) (all1 k_ref11_Right (all1 k_ref01_Put all0)) bs_ok (by kernel_rfl) (by kernel_rfl) (by kernel_rfl) (Eq.trans (b := M_ref11_Put N a0) (by kernel_rfl) h)

noncomputable def M_ref01_Fold (N : Nat) (n_0 : Int) : Option (Int × Unit) :=
 cnd (ltI n_0 0)
  (some ((wrp .u64 (addI (wrp .u64 (mulI 2 (wrp .u64 (wrp .i64 (negI (wrp .i64 (addI n_0 1))))))) 1)), ()))
  (some ((wrp .u64 (mulI 2 (wrp .u64 n_0))), ()))
noncomputable def q_ref01_Fold : Lift := ⟨tyX, look2 .todo (α := LoopAs) (.o), [], bsX⟩
theorem u_ref01_Fold {N : Nat} {a0 : Int} {q : (Int × Unit)} (h : M_ref01_Fold N a0 = some q) : S_ref01_Fold a0 = some q :=
 Sof_of (Q := q_ref01_Fold) (N := N) (n := 3) (f := 160) (tin := i_ref01_Fold) (tout := o_ref01_Fold) (d := (a0, ())) all0 bs_ok (by kernel_rfl) (by kernel_rfl) (by kernel_rfl) (Eq.trans (b := M_ref01_Fold N a0) (by kernel_rfl) h)

noncomputable def M_ref10_Put (N : Nat) (n_0 : Int) (n_1 : Int) : Option (LB × Unit) :=
 bnd (S_ref10_Right n_0 n_1) <| fun p1 =>
 cnd (notB p1.1)
  (decL tY [] <| fun l2 =>
  some (l2, ()))
  (bnd (S_ref09_Operand n_0) <| fun p3 =>
  cnd (ltI 0 p3.1)
   (bnd (S_ref01_Fold n_1) <| fun p4 =>
   bnd (S_ref01_Put p4.1) <| fun p5 =>
   chk (leN (addN 0 (vnum (eY p5.1))) (vnum (eY p5.1))) <|
   chk (room 1 (vnum (vcut (eY p5.1) 0 (vnum (eY p5.1)))) 1) <|
   chk (leN (addN 0 (addN 1 (vnum (vcut (eY p5.1) 0 (vnum (eY p5.1)))))) (vnum (vapp [[(C.v (Go.Value.int .u8 (wrp .u8 n_0)))]] (vcut (eY p5.1) 0 (vnum (eY p5.1)))))) <|
   decL tY (vcut (vapp [[(C.v (Go.Value.int .u8 (wrp .u8 n_0)))]] (vcut (eY p5.1) 0 (vnum (eY p5.1)))) 0 (addN 1 (vnum (vcut (eY p5.1) 0 (vnum (eY p5.1)))))) <| fun l6 =>
   some (l6, ()))
   (decL tY (vcut [[(C.v (Go.Value.int .u8 (wrp .u8 n_0)))]] 0 1) <| fun l7 =>
   some (l7, ())))
noncomputable def q_ref10_Put : Lift := ⟨tyX, look2 .todo (α := LoopAs) (.o), [c_ref09_Operand, c_ref10_Right, c_ref01_Put, c_ref01_Fold], bsX⟩
theorem u_ref10_Put {N : Nat} {a0 : Int} {a1 : Int} {q : (LB × Unit)} (h : M_ref10_Put N a0 a1 = some q) : S_ref10_Put a0 a1 = some q :=
 Sof_of (Q := q_ref10_Put) (N := N) (n := 3) (f := 123) (tin := i_ref10_Put) (tout := o_ref10_Put) (d := (a0, (a1, ()))) (all1 k_ref09_Operand (all1 k_ref10_Right (all1 k_ref01_Put (all1 k_ref01_Fold all0)))) bs_ok (by kernel_rfl) (by kernel_rfl) (by kernel_rfl) (Eq.trans (b := M_ref10_Put N a0 a1) (by kernel_rfl) h)

noncomputable def M_ref04_Of (N : Nat) (l_0 : LI) : Option (LC × Unit) :=
 decL tC [] <| fun l1 =>
 qS (eI l_0) <|
 iter (fun (d2 : (LC × (Int × Unit))) again3 =>
  cnd (ltI d2.2.1 (vlen (eI l_0)))
   (joinK (δ := (LC × Unit)) (chk (leN (addN 0 (vnum (eC d2.1))) (vnum (eC d2.1))) <|
    joinK (δ := (LC × (Bool × Unit))) (cnd (ltI 0 (vlen (vcut (eC d2.1) 0 (vnum (eC d2.1)))))
      (chk (leI 0 (wrp .i64 (subI (vlen (vcut (eC d2.1) 0 (vnum (eC d2.1)))) 1))) <|
      chk (ltI (wrp .i64 (subI (vlen (vcut (eC d2.1) 0 (vnum (eC d2.1)))) 1)) (Int.ofNat (vnum (eC d2.1)))) <|
      chk (leN (addN 0 (vnum (eC d2.1))) (vnum (eC d2.1))) <|
      getE tC (eC d2.1) (addN 0 (natI (wrp .i64 (subI (vlen (vcut (eC d2.1) 0 (vnum (eC d2.1)))) 1)))) <| fun p4 =>
      chk (leI 0 d2.2.1) <|
      getE tI (eI l_0) (natI d2.2.1) <| fun n5 =>
      dC d2.1 <| fun l6 =>
      qS (eI l_0) <|
      qN (vnum (eC d2.1)) <|
      qI d2.2.1 <|
      qI (vlen (vcut (eC d2.1) 0 (vnum (eC d2.1)))) <|
      leftK (l6, ((eqI p4.2 n5), ())))
      (dC d2.1 <| fun l7 =>
      qS (eI l_0) <|
      qN (vnum (eC d2.1)) <|
      qI d2.2.1 <|
      qI (vlen (vcut (eC d2.1) 0 (vnum (eC d2.1)))) <|
      leftK (l7, (false, ()))))
    <| fun p8 =>
    cnd p8.2.1
     (chk (leI 0 (wrp .i64 (subI (vlen (vcut (eC d2.1) 0 (vnum (eC d2.1)))) 1))) <|
     chk (ltI (wrp .i64 (subI (vlen (vcut (eC d2.1) 0 (vnum (eC d2.1)))) 1)) (Int.ofNat (vnum (eC p8.1)))) <|
     chk (leN (addN 0 (vnum (eC p8.1))) (vnum (eC p8.1))) <|
     getE tC (eC p8.1) (addN 0 (natI (wrp .i64 (subI (vlen (vcut (eC d2.1) 0 (vnum (eC d2.1)))) 1)))) <| fun p9 =>
     chk (leI 0 (wrp .i64 (subI (vlen (vcut (eC d2.1) 0 (vnum (eC d2.1)))) 1))) <|
     chk (ltI (wrp .i64 (subI (vlen (vcut (eC d2.1) 0 (vnum (eC d2.1)))) 1)) (Int.ofNat (vnum (eC p8.1)))) <|
     chk (leN (addN 0 (vnum (eC p8.1))) (vnum (eC p8.1))) <|
     getE tC (eC p8.1) (addN 0 (natI (wrp .i64 (subI (vlen (vcut (eC d2.1) 0 (vnum (eC d2.1)))) 1)))) <| fun p10 =>
     decL tC (vset (eC p8.1) (addN 0 (natI (wrp .i64 (subI (vlen (vcut (eC d2.1) 0 (vnum (eC d2.1)))) 1)))) [(C.v (Go.Value.int .i64 (wrp .i64 (addI p9.1 1)))), (C.v (Go.Value.int .i64 p10.2))]) <| fun l11 =>
     qS (eI l_0) <|
     chk (eqN (vnum (eC p8.1)) (vnum (vset (eC p8.1) (addN 0 (natI (wrp .i64 (subI (vlen (vcut (eC d2.1) 0 (vnum (eC d2.1)))) 1)))) [(C.v (Go.Value.int .i64 (wrp .i64 (addI p9.1 1)))), (C.v (Go.Value.int .i64 p10.2))]))) <|
     qI d2.2.1 <|
     leftK (l11, ()))
     (chk (leI 0 d2.2.1) <|
     getE tI (eI l_0) (natI d2.2.1) <| fun n12 =>
     qN (vnum (eC p8.1)) <|
     chk (room (vnum (eC p8.1)) (vnum (vcut [[(C.v (Go.Value.int .i64 1)), (C.v (Go.Value.int .i64 n12))]] 0 1)) 16) <|
     decL tC (vapp (eC p8.1) (vcut [[(C.v (Go.Value.int .i64 1)), (C.v (Go.Value.int .i64 n12))]] 0 1)) <| fun l13 =>
     qS (eI l_0) <|
     chk (eqN (addN (vnum (eC p8.1)) (vnum (vcut [[(C.v (Go.Value.int .i64 1)), (C.v (Go.Value.int .i64 n12))]] 0 1))) (vnum (vapp (eC p8.1) (vcut [[(C.v (Go.Value.int .i64 1)), (C.v (Go.Value.int .i64 n12))]] 0 1)))) <|
     qI d2.2.1 <|
     leftK (l13, ())))
   <| fun p14 =>
   dC p14.1 <| fun l15 =>
   qS (eI l_0) <|
   qN (vnum (eC p14.1)) <|
   again3 (l15, ((wrp .i64 (addI d2.2.1 1)), ())))
   (chk (leN (addN 0 (vnum (eC d2.1))) (vnum (eC d2.1))) <|
   decL tC (vcut (eC d2.1) 0 (vnum (eC d2.1))) <| fun l16 =>
   some (l16, ()))) N (l1, (0, ()))
noncomputable def q_ref04_Of : Lift := ⟨tyX, look2 .todo (α := LoopAs) (.n 161 [(3, (.as ⟨[.mu 196 2 tC], [], (.one, [.fix]) :: (.one, [.junk]) :: (.one, [.junk]) :: (.one, [.own 0]) :: (.one, [.hole tI]) :: rp 42 (.one, [.junk]) ([])⟩)), (1028680, (.as ⟨[.mu 196 2 tC], [], (.one, [.fix]) :: (.one, [.junk]) :: (.one, [.junk]) :: (.one, [.own 0]) :: (.one, [.fix]) :: (.one, [.fix]) :: rp 22 (.one, [.junk]) ((.one, [.hole .bool]) :: rp 18 (.one, [.junk]) ([]))⟩)), (1036869, (.as ⟨[.mu 196 2 tC], [], (.one, [.fix]) :: (.one, [.junk]) :: (.one, [.junk]) :: (.one, [.own 0]) :: (.one, [.fix]) :: rp 42 (.one, [.junk]) ([])⟩))] .o .o), [], bsX⟩
theorem u_ref04_Of {N : Nat} {a0 : LI} {q : (LC × Unit)} (h : M_ref04_Of N a0 = some q) : S_ref04_Of a0 = some q :=
 Sof_of (Q := q_ref04_Of) (N := N) (n := 3) (f := 161) (tin := i_ref04_Of) (tout := o_ref04_Of) (d := (a0, ())) all0 bs_ok (by kernel_rfl) (by kernel_rfl) (by kernel_rfl) (Eq.trans (b := M_ref04_Of N a0) (by kernel_rfl) h)

noncomputable def M_ref04_Put (N : Nat) (l_0 : LI) : Option (LB × Unit) :=
 dI l_0 <| fun l1 =>
 bnd (S_ref04_Of l1) <| fun p2 =>
 decL tY [] <| fun l3 =>
 qS (eC p2.1) <|
 iter (fun (d4 : (LB × (Int × Unit))) again5 =>
  cnd (ltI d4.2.1 (vlen (eC p2.1)))
   (chk (leI 0 d4.2.1) <|
   getE tC (eC p2.1) (natI d4.2.1) <| fun p6 =>
   bnd (S_ref01_Put (wrp .u64 p6.1)) <| fun p7 =>
   chk (leN (addN 0 (vnum (eY p7.1))) (vnum (eY p7.1))) <|
   qN (vnum (eY d4.1)) <|
   chk (room (vnum (eY d4.1)) (vnum (vcut (eY p7.1) 0 (vnum (eY p7.1)))) 1) <|
   chk (leI 0 d4.2.1) <|
   getE tC (eC p2.1) (natI d4.2.1) <| fun p8 =>
   bnd (S_ref01_Fold p8.2) <| fun p9 =>
   bnd (S_ref01_Put p9.1) <| fun p10 =>
   chk (leN (addN 0 (vnum (eY p10.1))) (vnum (eY p10.1))) <|
   chk (eqN (addN (vnum (eY d4.1)) (vnum (vcut (eY p7.1) 0 (vnum (eY p7.1))))) (vnum (vapp (eY d4.1) (vcut (eY p7.1) 0 (vnum (eY p7.1)))))) <|
   chk (room (vnum (vapp (eY d4.1) (vcut (eY p7.1) 0 (vnum (eY p7.1))))) (vnum (vcut (eY p10.1) 0 (vnum (eY p10.1)))) 1) <|
   decL tY (vapp (vapp (eY d4.1) (vcut (eY p7.1) 0 (vnum (eY p7.1)))) (vcut (eY p10.1) 0 (vnum (eY p10.1)))) <| fun l11 =>
   chk (eqN (addN (vnum (vapp (eY d4.1) (vcut (eY p7.1) 0 (vnum (eY p7.1))))) (vnum (vcut (eY p10.1) 0 (vnum (eY p10.1))))) (vnum (vapp (vapp (eY d4.1) (vcut (eY p7.1) 0 (vnum (eY p7.1)))) (vcut (eY p10.1) 0 (vnum (eY p10.1)))))) <|
   qS (eC p2.1) <|
   again5 (l11, ((wrp .i64 (addI d4.2.1 1)), ())))
   (chk (leN (addN 0 (vnum (eY d4.1))) (vnum (eY d4.1))) <|
   decL tY (vcut (eY d4.1) 0 (vnum (eY d4.1))) <| fun l12 =>
   some (l12, ()))) N (l3, (0, ()))
noncomputable def q_ref04_Put : Lift := ⟨tyX, look2 .todo (α := LoopAs) (.n 124 [(4, (.as ⟨[.mu 5 1 tY], [], (.one, [.junk]) :: (.one, [.junk]) :: (.one, [.junk]) :: (.one, [.own 0]) :: (.one, [.fix]) :: (.one, [.hole tI]) :: rp 27 (.one, [.junk]) ([])⟩))] .o .o), [c_ref01_Put, c_ref01_Fold, c_ref04_Of], bsX⟩
theorem u_ref04_Put {N : Nat} {a0 : LI} {q : (LB × Unit)} (h : M_ref04_Put N a0 = some q) : S_ref04_Put a0 = some q :=
 Sof_of (Q := q_ref04_Put) (N := N) (n := 3) (f := 124) (tin := i_ref04_Put) (tout := o_ref04_Put) (d := (a0, ())) (all1 k_ref01_Put (all1 k_ref01_Fold (all1 k_ref04_Of all0))) bs_ok (by kernel_rfl) (by kernel_rfl) (by kernel_rfl) (Eq.trans (b := M_ref04_Put N a0) (by kernel_rfl) h)

noncomputable def M_ref13_Put (N : Nat) (l_0 : LN) : Option (LB × Unit) :=
 bnd (S_ref01_Put (wrp .u64 (vlen (eN l_0)))) <| fun p1 =>
 dY p1.1 <| fun l2 =>
 qS (eN l_0) <|
 qN (vnum (eY p1.1)) <|
 iter (fun (d3 : (LB × (Int × Unit))) again4 =>
  cnd (ltI d3.2.1 (vlen (eN l_0)))
   (chk (leI 0 d3.2.1) <|
   getE tN (eN l_0) (natI d3.2.1) <| fun p5 =>
   bnd (S_ref01_Fold p5.1) <| fun p6 =>
   bnd (S_ref01_Put p6.1) <| fun p7 =>
   chk (leN (addN 0 (vnum (eY p7.1))) (vnum (eY p7.1))) <|
   qN (vnum (eY d3.1)) <|
   chk (room (vnum (eY d3.1)) (vnum (vcut (eY p7.1) 0 (vnum (eY p7.1)))) 1) <|
   bnd (S_ref01_Fold p5.2.1) <| fun p8 =>
   bnd (S_ref01_Put p8.1) <| fun p9 =>
   chk (leN (addN 0 (vnum (eY p9.1))) (vnum (eY p9.1))) <|
   chk (eqN (addN (vnum (eY d3.1)) (vnum (vcut (eY p7.1) 0 (vnum (eY p7.1))))) (vnum (vapp (eY d3.1) (vcut (eY p7.1) 0 (vnum (eY p7.1)))))) <|
   chk (room (vnum (vapp (eY d3.1) (vcut (eY p7.1) 0 (vnum (eY p7.1))))) (vnum (vcut (eY p9.1) 0 (vnum (eY p9.1)))) 1) <|
   bnd (S_ref01_Fold p5.2.2.1) <| fun p10 =>
   bnd (S_ref01_Put p10.1) <| fun p11 =>
   chk (leN (addN 0 (vnum (eY p11.1))) (vnum (eY p11.1))) <|
   chk (eqN (addN (vnum (vapp (eY d3.1) (vcut (eY p7.1) 0 (vnum (eY p7.1))))) (vnum (vcut (eY p9.1) 0 (vnum (eY p9.1))))) (vnum (vapp (vapp (eY d3.1) (vcut (eY p7.1) 0 (vnum (eY p7.1)))) (vcut (eY p9.1) 0 (vnum (eY p9.1)))))) <|
   chk (room (vnum (vapp (vapp (eY d3.1) (vcut (eY p7.1) 0 (vnum (eY p7.1)))) (vcut (eY p9.1) 0 (vnum (eY p9.1))))) (vnum (vcut (eY p11.1) 0 (vnum (eY p11.1)))) 1) <|
   bnd (S_ref01_Fold p5.2.2.2.1) <| fun p12 =>
   bnd (S_ref01_Put p12.1) <| fun p13 =>
   chk (leN (addN 0 (vnum (eY p13.1))) (vnum (eY p13.1))) <|
   chk (eqN (addN (vnum (vapp (vapp (eY d3.1) (vcut (eY p7.1) 0 (vnum (eY p7.1)))) (vcut (eY p9.1) 0 (vnum (eY p9.1))))) (vnum (vcut (eY p11.1) 0 (vnum (eY p11.1))))) (vnum (vapp (vapp (vapp (eY d3.1) (vcut (eY p7.1) 0 (vnum (eY p7.1)))) (vcut (eY p9.1) 0 (vnum (eY p9.1)))) (vcut (eY p11.1) 0 (vnum (eY p11.1)))))) <|
   chk (room (vnum (vapp (vapp (vapp (eY d3.1) (vcut (eY p7.1) 0 (vnum (eY p7.1)))) (vcut (eY p9.1) 0 (vnum (eY p9.1)))) (vcut (eY p11.1) 0 (vnum (eY p11.1))))) (vnum (vcut (eY p13.1) 0 (vnum (eY p13.1)))) 1) <|
   bnd (S_ref01_Fold p5.2.2.2.2.1) <| fun p14 =>
   bnd (S_ref01_Put p14.1) <| fun p15 =>
   chk (leN (addN 0 (vnum (eY p15.1))) (vnum (eY p15.1))) <|
   chk (eqN (addN (vnum (vapp (vapp (vapp (eY d3.1) (vcut (eY p7.1) 0 (vnum (eY p7.1)))) (vcut (eY p9.1) 0 (vnum (eY p9.1)))) (vcut (eY p11.1) 0 (vnum (eY p11.1))))) (vnum (vcut (eY p13.1) 0 (vnum (eY p13.1))))) (vnum (vapp (vapp (vapp (vapp (eY d3.1) (vcut (eY p7.1) 0 (vnum (eY p7.1)))) (vcut (eY p9.1) 0 (vnum (eY p9.1)))) (vcut (eY p11.1) 0 (vnum (eY p11.1)))) (vcut (eY p13.1) 0 (vnum (eY p13.1)))))) <|
   chk (room (vnum (vapp (vapp (vapp (vapp (eY d3.1) (vcut (eY p7.1) 0 (vnum (eY p7.1)))) (vcut (eY p9.1) 0 (vnum (eY p9.1)))) (vcut (eY p11.1) 0 (vnum (eY p11.1)))) (vcut (eY p13.1) 0 (vnum (eY p13.1))))) (vnum (vcut (eY p15.1) 0 (vnum (eY p15.1)))) 1) <|
   bnd (S_ref01_Fold p5.2.2.2.2.2.1) <| fun p16 =>
   bnd (S_ref01_Put p16.1) <| fun p17 =>
   chk (leN (addN 0 (vnum (eY p17.1))) (vnum (eY p17.1))) <|
   chk (eqN (addN (vnum (vapp (vapp (vapp (vapp (eY d3.1) (vcut (eY p7.1) 0 (vnum (eY p7.1)))) (vcut (eY p9.1) 0 (vnum (eY p9.1)))) (vcut (eY p11.1) 0 (vnum (eY p11.1)))) (vcut (eY p13.1) 0 (vnum (eY p13.1))))) (vnum (vcut (eY p15.1) 0 (vnum (eY p15.1))))) (vnum (vapp (vapp (vapp (vapp (vapp (eY d3.1) (vcut (eY p7.1) 0 (vnum (eY p7.1)))) (vcut (eY p9.1) 0 (vnum (eY p9.1)))) (vcut (eY p11.1) 0 (vnum (eY p11.1)))) (vcut (eY p13.1) 0 (vnum (eY p13.1)))) (vcut (eY p15.1) 0 (vnum (eY p15.1)))))) <|
   chk (room (vnum (vapp (vapp (vapp (vapp (vapp (eY d3.1) (vcut (eY p7.1) 0 (vnum (eY p7.1)))) (vcut (eY p9.1) 0 (vnum (eY p9.1)))) (vcut (eY p11.1) 0 (vnum (eY p11.1)))) (vcut (eY p13.1) 0 (vnum (eY p13.1)))) (vcut (eY p15.1) 0 (vnum (eY p15.1))))) (vnum (vcut (eY p17.1) 0 (vnum (eY p17.1)))) 1) <|
   bnd (S_ref01_Fold p5.2.2.2.2.2.2) <| fun p18 =>
   bnd (S_ref01_Put p18.1) <| fun p19 =>
   chk (leN (addN 0 (vnum (eY p19.1))) (vnum (eY p19.1))) <|
   chk (eqN (addN (vnum (vapp (vapp (vapp (vapp (vapp (eY d3.1) (vcut (eY p7.1) 0 (vnum (eY p7.1)))) (vcut (eY p9.1) 0 (vnum (eY p9.1)))) (vcut (eY p11.1) 0 (vnum (eY p11.1)))) (vcut (eY p13.1) 0 (vnum (eY p13.1)))) (vcut (eY p15.1) 0 (vnum (eY p15.1))))) (vnum (vcut (eY p17.1) 0 (vnum (eY p17.1))))) (vnum (vapp (vapp (vapp (vapp (vapp (vapp (eY d3.1) (vcut (eY p7.1) 0 (vnum (eY p7.1)))) (vcut (eY p9.1) 0 (vnum (eY p9.1)))) (vcut (eY p11.1) 0 (vnum (eY p11.1)))) (vcut (eY p13.1) 0 (vnum (eY p13.1)))) (vcut (eY p15.1) 0 (vnum (eY p15.1)))) (vcut (eY p17.1) 0 (vnum (eY p17.1)))))) <|
   chk (room (vnum (vapp (vapp (vapp (vapp (vapp (vapp (eY d3.1) (vcut (eY p7.1) 0 (vnum (eY p7.1)))) (vcut (eY p9.1) 0 (vnum (eY p9.1)))) (vcut (eY p11.1) 0 (vnum (eY p11.1)))) (vcut (eY p13.1) 0 (vnum (eY p13.1)))) (vcut (eY p15.1) 0 (vnum (eY p15.1)))) (vcut (eY p17.1) 0 (vnum (eY p17.1))))) (vnum (vcut (eY p19.1) 0 (vnum (eY p19.1)))) 1) <|
   decL tY (vapp (vapp (vapp (vapp (vapp (vapp (vapp (eY d3.1) (vcut (eY p7.1) 0 (vnum (eY p7.1)))) (vcut (eY p9.1) 0 (vnum (eY p9.1)))) (vcut (eY p11.1) 0 (vnum (eY p11.1)))) (vcut (eY p13.1) 0 (vnum (eY p13.1)))) (vcut (eY p15.1) 0 (vnum (eY p15.1)))) (vcut (eY p17.1) 0 (vnum (eY p17.1)))) (vcut (eY p19.1) 0 (vnum (eY p19.1)))) <| fun l20 =>
   qS (eN l_0) <|
   chk (eqN (addN (vnum (vapp (vapp (vapp (vapp (vapp (vapp (eY d3.1) (vcut (eY p7.1) 0 (vnum (eY p7.1)))) (vcut (eY p9.1) 0 (vnum (eY p9.1)))) (vcut (eY p11.1) 0 (vnum (eY p11.1)))) (vcut (eY p13.1) 0 (vnum (eY p13.1)))) (vcut (eY p15.1) 0 (vnum (eY p15.1)))) (vcut (eY p17.1) 0 (vnum (eY p17.1))))) (vnum (vcut (eY p19.1) 0 (vnum (eY p19.1))))) (vnum (vapp (vapp (vapp (vapp (vapp (vapp (vapp (eY d3.1) (vcut (eY p7.1) 0 (vnum (eY p7.1)))) (vcut (eY p9.1) 0 (vnum (eY p9.1)))) (vcut (eY p11.1) 0 (vnum (eY p11.1)))) (vcut (eY p13.1) 0 (vnum (eY p13.1)))) (vcut (eY p15.1) 0 (vnum (eY p15.1)))) (vcut (eY p17.1) 0 (vnum (eY p17.1)))) (vcut (eY p19.1) 0 (vnum (eY p19.1)))))) <|
   again4 (l20, ((wrp .i64 (addI d3.2.1 1)), ())))
   (chk (leN (addN 0 (vnum (eY d3.1))) (vnum (eY d3.1))) <|
   decL tY (vcut (eY d3.1) 0 (vnum (eY d3.1))) <| fun l21 =>
   some (l21, ()))) N (l2, (0, ()))
noncomputable def q_ref13_Put : Lift := ⟨tyX, look2 .todo (α := LoopAs) (.n 125 [(3, (.as ⟨[.mu 5 1 tY], [], (.one, [.fix]) :: (.one, [.junk]) :: (.one, [.junk]) :: (.one, [.own 0]) :: (.one, [.hole tI]) :: rp 44 (.one, [.junk]) ([])⟩)), (8, (.times 8))] .o .o), [c_ref01_Put, c_ref01_Fold], bsX⟩
theorem u_ref13_Put {N : Nat} {a0 : LN} {q : (LB × Unit)} (h : M_ref13_Put N a0 = some q) : S_ref13_Put a0 = some q :=
 Sof_of (Q := q_ref13_Put) (N := N) (n := 3) (f := 125) (tin := i_ref13_Put) (tout := o_ref13_Put) (d := (a0, ())) (all1 k_ref01_Put (all1 k_ref01_Fold all0)) bs_ok (by kernel_rfl) (by kernel_rfl) (by kernel_rfl) (Eq.trans (b := M_ref13_Put N a0) (by kernel_rfl) h)
end Go.Proofs.YtkdnbnkbnegckaaGreat
