/- Functions, lifted: what the program comes to by them. -/
import Derived.Test.YtkdnbnkbnegckaaGreatLwA
namespace Go.Proofs.YtkdnbnkbnegckaaGreat
open Go.RowKit
set_option maxRecDepth 100000
set_option linter.unusedVariables false
noncomputable def M_tree_Right (N : Nat) (l_0 : LN) : Option (Bool × Unit) :=
 qS (eN l_0) <|
 qS (eN l_0) <|
 qI (vlen (eN l_0)) <|
 iter (fun (d1 : (Int × (Int × Unit))) again2 =>
  cnd (ltI d1.2.1 (vlen (eN l_0)))
   (chk (leI 0 d1.2.1) <|
   getE tN (eN l_0) (natI d1.2.1) <| fun p3 =>
   joinK (δ := Unit) (cnd (leI 120 d1.2.1)
     (rightK <| some (false, ()))
     (bnd (S_tree_may p3.1 p3.2.1 p3.2.2.1 p3.2.2.2.1 p3.2.2.2.2.1 p3.2.2.2.2.2.1 p3.2.2.2.2.2.2 d1.2.1 d1.1) <| fun p4 =>
     cnd (notB p4.1)
      (rightK <| some (false, ()))
      (qI p3.1 <|
      qI p3.2.1 <|
      qI p3.2.2.1 <|
      qI p3.2.2.2.1 <|
      qI p3.2.2.2.2.1 <|
      qI p3.2.2.2.2.2.1 <|
      qI p3.2.2.2.2.2.2 <|
      qS (eN l_0) <|
      qS (eN l_0) <|
      qI (vlen (eN l_0)) <|
      qI d1.2.1 <|
      leftK ())))
   <| fun x5 =>
   qS (eN l_0) <|
   qS (eN l_0) <|
   qI (vlen (eN l_0)) <|
   again2 (p3.2.2.2.2.2.1, ((wrp .i64 (addI d1.2.1 1)), ())))
   (some ((ltI 0 (vlen (eN l_0))), ()))) N (0, (0, ()))
noncomputable def q_tree_Right : Lift := ⟨tyX, look2 .todo (α := LoopAs) (.n 145 [(3, (.as ⟨[], [], (.one, [.fix]) :: (.one, [.junk]) :: (.one, [.junk]) :: (.one, [.hole tI]) :: (.one, [.junk]) :: (.one, [.junk]) :: (.one, [.fix]) :: (.one, [.fix]) :: (.one, [.hole tI]) :: rp 19 (.one, [.junk]) ([])⟩)), (1028680, (.as ⟨[], [[.fix, .fix, .fix, .fix, .fix, .fix, .fix]], (.one, [.fix]) :: rp 4 (.one, [.junk]) ((.one, [.stat (.ptr 0 0)]) :: (.one, [.fix]) :: (.one, [.fix]) :: (.one, [.fix]) :: rp 19 (.one, [.junk]) ([]))⟩))] .o .o), [c_tree_may], bsX⟩
theorem u_tree_Right {N : Nat} {a0 : LN} {q : (Bool × Unit)} (h : M_tree_Right N a0 = some q) : S_tree_Right a0 = some q :=
 Sof_of (Q := q_tree_Right) (N := N) (n := 3) (f := 145) (tin := i_tree_Right) (tout := o_tree_Right) (d := (a0, ())) (all1 k_tree_may all0) bs_ok (by kernel_rfl) (by kernel_rfl) (by kernel_rfl) (Eq.trans (b := M_tree_Right N a0) (by kernel_rfl) h)

noncomputable def M_tree_Take (N : Nat) (l_0 : LB) (b_1 : Bool) (n_2 : Int) : Option (LB × (Bool × (Int × (LN × Unit)))) :=
 dY l_0 <| fun l1 =>
 bnd (S_cursor_Cursor_Num l1 b_1 n_2 120) <| fun p2 =>
 decL tN [] <| fun l3 =>
 dY p2.1 <| fun l4 =>
 qI p2.2.2.2.1 <|
 iter (fun (d5 : (LN × (LB × (Bool × (Int × (Int × Unit)))))) again6 =>
  cnd (ltI d5.2.2.2.2.1 p2.2.2.2.1)
   (dY d5.2.1 <| fun l7 =>
   bnd (S_tree_take l7 d5.2.2.1 d5.2.2.2.1) <| fun p8 =>
   qN (vnum (eN d5.1)) <|
   chk (room (vnum (eN d5.1)) (vnum (vcut [[(C.v (Go.Value.int .i64 p8.2.2.2.1)), (C.v (Go.Value.int .i64 p8.2.2.2.2.1)), (C.v (Go.Value.int .i64 p8.2.2.2.2.2.1)), (C.v (Go.Value.int .i64 p8.2.2.2.2.2.2.1)), (C.v (Go.Value.int .i64 p8.2.2.2.2.2.2.2.1)), (C.v (Go.Value.int .i64 p8.2.2.2.2.2.2.2.2.1)), (C.v (Go.Value.int .i64 p8.2.2.2.2.2.2.2.2.2.1))]] 0 1)) 56) <|
   decL tN (vapp (eN d5.1) (vcut [[(C.v (Go.Value.int .i64 p8.2.2.2.1)), (C.v (Go.Value.int .i64 p8.2.2.2.2.1)), (C.v (Go.Value.int .i64 p8.2.2.2.2.2.1)), (C.v (Go.Value.int .i64 p8.2.2.2.2.2.2.1)), (C.v (Go.Value.int .i64 p8.2.2.2.2.2.2.2.1)), (C.v (Go.Value.int .i64 p8.2.2.2.2.2.2.2.2.1)), (C.v (Go.Value.int .i64 p8.2.2.2.2.2.2.2.2.2.1))]] 0 1)) <| fun l9 =>
   dY p8.1 <| fun l10 =>
   chk (eqN (addN (vnum (eN d5.1)) (vnum (vcut [[(C.v (Go.Value.int .i64 p8.2.2.2.1)), (C.v (Go.Value.int .i64 p8.2.2.2.2.1)), (C.v (Go.Value.int .i64 p8.2.2.2.2.2.1)), (C.v (Go.Value.int .i64 p8.2.2.2.2.2.2.1)), (C.v (Go.Value.int .i64 p8.2.2.2.2.2.2.2.1)), (C.v (Go.Value.int .i64 p8.2.2.2.2.2.2.2.2.1)), (C.v (Go.Value.int .i64 p8.2.2.2.2.2.2.2.2.2.1))]] 0 1))) (vnum (vapp (eN d5.1) (vcut [[(C.v (Go.Value.int .i64 p8.2.2.2.1)), (C.v (Go.Value.int .i64 p8.2.2.2.2.1)), (C.v (Go.Value.int .i64 p8.2.2.2.2.2.1)), (C.v (Go.Value.int .i64 p8.2.2.2.2.2.2.1)), (C.v (Go.Value.int .i64 p8.2.2.2.2.2.2.2.1)), (C.v (Go.Value.int .i64 p8.2.2.2.2.2.2.2.2.1)), (C.v (Go.Value.int .i64 p8.2.2.2.2.2.2.2.2.2.1))]] 0 1)))) <|
   qI p2.2.2.2.1 <|
   again6 (l9, (l10, (p8.2.1, (p8.2.2.1, ((wrp .i64 (addI d5.2.2.2.2.1 1)), ()))))))
   (joinK (δ := (LN × (LB × (Bool × (Int × Unit))))) (joinK (δ := (LN × (LB × (Bool × (Int × (Bool × Unit)))))) (dY d5.2.1 <| fun l11 =>
     bnd (S_cursor_Cursor_Err l11 d5.2.2.1 d5.2.2.2.1) <| fun p12 =>
     cnd (eqI p12.2.2.2.1 0)
      (chk (leN (addN 0 (vnum (eN d5.1))) (vnum (eN d5.1))) <|
      decL tN (vcut (eN d5.1) 0 (vnum (eN d5.1))) <| fun l13 =>
      bnd (S_tree_Right l13) <| fun p14 =>
      dN d5.1 <| fun l15 =>
      dY p12.1 <| fun l16 =>
      qN (vnum (eN d5.1)) <|
      leftK (l15, (l16, (p12.2.1, (p12.2.2.1, ((notB p14.1), ()))))))
      (dN d5.1 <| fun l17 =>
      dY p12.1 <| fun l18 =>
      qN (vnum (eN d5.1)) <|
      leftK (l17, (l18, (p12.2.1, (p12.2.2.1, (false, ())))))))
    <| fun p19 =>
    cnd p19.2.2.2.2.1
     (dY p19.2.1 <| fun l20 =>
     bnd (S_cursor_Cursor_Fail l20 p19.2.2.1 p19.2.2.2.1 14) <| fun p21 =>
     dN p19.1 <| fun l22 =>
     dY p21.1 <| fun l23 =>
     qN (vnum (eN p19.1)) <|
     leftK (l22, (l23, (p21.2.1, (p21.2.2.1, ())))))
     (dN p19.1 <| fun l24 =>
     dY p19.2.1 <| fun l25 =>
     qN (vnum (eN p19.1)) <|
     leftK (l24, (l25, (p19.2.2.1, (p19.2.2.2.1, ()))))))
   <| fun p26 =>
   dY p26.2.1 <| fun l27 =>
   bnd (S_cursor_Cursor_Err l27 p26.2.2.1 p26.2.2.2.1) <| fun p28 =>
   cnd (notB (eqI p28.2.2.2.1 0))
    (dY p28.1 <| fun l29 =>
    decL tN [] <| fun l30 =>
    some (l29, (p28.2.1, (p28.2.2.1, (l30, ())))))
    (chk (leN (addN 0 (vnum (eN p26.1))) (vnum (eN p26.1))) <|
    dY p28.1 <| fun l31 =>
    decL tN (vcut (eN p26.1) 0 (vnum (eN p26.1))) <| fun l32 =>
    some (l31, (p28.2.1, (p28.2.2.1, (l32, ()))))))) N (l3, (l4, (p2.2.1, (p2.2.2.1, (0, ())))))
noncomputable def q_tree_Take : Lift := ⟨tyX, look2 .todo (α := LoopAs) (.n 99 [(3, (.as ⟨[.mu 115 7 tN], [[.hole (.sl 1 tY), .hole .bool, .hole tI]], (.one, [.stat (.ptr 0 0)]) :: (.one, [.junk]) :: (.one, [.junk]) :: (.one, [.own 0]) :: (.one, [.junk]) :: (.one, [.fix]) :: (.one, [.hole tI]) :: rp 21 (.one, [.junk]) ([])⟩)), (1028680, (.as ⟨[.mu 115 7 tN], [[.hole (.sl 1 tY), .hole .bool, .hole tI]], (.one, [.stat (.ptr 0 0)]) :: (.one, [.junk]) :: (.one, [.junk]) :: (.one, [.own 0]) :: rp 17 (.one, [.junk]) ((.one, [.hole .bool]) :: rp 6 (.one, [.junk]) ([]))⟩)), (1032777, (.as ⟨[.mu 115 7 tN], [[.hole (.sl 1 tY), .hole .bool, .hole tI]], (.one, [.stat (.ptr 0 0)]) :: (.one, [.junk]) :: (.one, [.junk]) :: (.one, [.own 0]) :: rp 24 (.one, [.junk]) ([])⟩))] .o .o), [c_cursor_Cursor_Err, c_cursor_Cursor_Fail, c_cursor_Cursor_Num, c_tree_take, c_tree_Right], bsX⟩
theorem u_tree_Take {N : Nat} {a0 : LB} {a1 : Bool} {a2 : Int} {q : (LB × (Bool × (Int × (LN × Unit))))} (h : M_tree_Take N a0 a1 a2 = some q) : S_tree_Take a0 a1 a2 = some q :=
 Sof_of (Q := q_tree_Take) (N := N) (n := 3) (f := 99) (tin := i_tree_Take) (tout := o_tree_Take) (d := (a0, (a1, (a2, ())))) (all1 k_cursor_Cursor_Err (all1 k_cursor_Cursor_Fail (all1 k_cursor_Cursor_Num (all1 k_tree_take (all1 k_tree_Right all0))))) bs_ok (by kernel_rfl) (by kernel_rfl) (by kernel_rfl) (Eq.trans (b := M_tree_Take N a0 a1 a2) (by kernel_rfl) h)

noncomputable def M__maps_counted_api_Set_like (N : Nat) (n_0 : Int) (n_1 : Int) (n_2 : Int) (n_3 : Int) (n_4 : Int) (n_5 : Int) (n_6 : Int) (n_7 : Int) (n_8 : Int) : Option (Bool × Unit) :=
 cnd (ltI 0 n_4)
  (some ((eqL [n_0, n_1, n_2, n_3] [n_5, n_6, n_7, n_8]), ()))
  (some (false, ()))
noncomputable def q__maps_counted_api_Set_like : Lift := ⟨tyX, look2 .todo (α := LoopAs) (.o), [], bsX⟩
theorem u__maps_counted_api_Set_like {N : Nat} {a0 : Int} {a1 : Int} {a2 : Int} {a3 : Int} {a4 : Int} {a5 : Int} {a6 : Int} {a7 : Int} {a8 : Int} {q : (Bool × Unit)} (h : M__maps_counted_api_Set_like N a0 a1 a2 a3 a4 a5 a6 a7 a8 = some q) : S__maps_counted_api_Set_like a0 a1 a2 a3 a4 a5 a6 a7 a8 = some q :=
 Sof_of (Q := q__maps_counted_api_Set_like) (N := N) (n := 3) (f := 165) (tin := i__maps_counted_api_Set_like) (tout := o__maps_counted_api_Set_like) (d := (a0, (a1, (a2, (a3, (a4, (a5, (a6, (a7, (a8, ())))))))))) all0 bs_ok (by kernel_rfl) (by kernel_rfl) (by kernel_rfl) (Eq.trans (b := M__maps_counted_api_Set_like N a0 a1 a2 a3 a4 a5 a6 a7 a8) (by kernel_rfl) h)

noncomputable def M_slots_is (N : Nat) (n_0 : Int) : Option (Bool × Unit) :=
 cnd (leI 0 n_0)
  (some ((ltI n_0 256), ()))
  (some (false, ()))
noncomputable def q_slots_is : Lift := ⟨tyX, look2 .todo (α := LoopAs) (.o), [], bsX⟩
theorem u_slots_is {N : Nat} {a0 : Int} {q : (Bool × Unit)} (h : M_slots_is N a0 = some q) : S_slots_is a0 = some q :=
 Sof_of (Q := q_slots_is) (N := N) (n := 3) (f := 179) (tin := i_slots_is) (tout := o_slots_is) (d := (a0, ())) all0 bs_ok (by kernel_rfl) (by kernel_rfl) (by kernel_rfl) (Eq.trans (b := M_slots_is N a0) (by kernel_rfl) h)

noncomputable def M_slots_With (N : Nat) (n_0 : Int) (n_1 : Int) (n_2 : Int) (n_3 : Int) (n_4 : Int) : Option (Int × (Int × (Int × (Int × Unit)))) :=
 bnd (S_slots_is n_4) <| fun p1 =>
 cnd p1.1
  (cnd (eqI (wrp .i64 (quoI n_4 64)) 3)
   (chk (leI 0 (remI n_4 64)) <|
   cnd (eqI (wrp .i64 (quoI n_4 64)) 3)
    (some (n_0, (n_1, (n_2, ((bitI .or .u64 n_3 (wrp .u64 (shlI .u64 1 (remI n_4 64)))), ())))))
    (cnd (eqI (wrp .i64 (quoI n_4 64)) 2)
     (some (n_0, (n_1, ((bitI .or .u64 n_3 (wrp .u64 (shlI .u64 1 (remI n_4 64)))), (n_3, ())))))
     (cnd (eqI (wrp .i64 (quoI n_4 64)) 1)
      (some (n_0, ((bitI .or .u64 n_3 (wrp .u64 (shlI .u64 1 (remI n_4 64)))), (n_2, (n_3, ())))))
      (cnd (eqI (wrp .i64 (quoI n_4 64)) 0)
       (some ((bitI .or .u64 n_3 (wrp .u64 (shlI .u64 1 (remI n_4 64)))), (n_1, (n_2, (n_3, ())))))
       (none)))))
   (cnd (eqI (wrp .i64 (quoI n_4 64)) 2)
    (chk (leI 0 (remI n_4 64)) <|
    cnd (eqI (wrp .i64 (quoI n_4 64)) 3)
     (some (n_0, (n_1, (n_2, ((bitI .or .u64 n_2 (wrp .u64 (shlI .u64 1 (remI n_4 64)))), ())))))
     (cnd (eqI (wrp .i64 (quoI n_4 64)) 2)
      (some (n_0, (n_1, ((bitI .or .u64 n_2 (wrp .u64 (shlI .u64 1 (remI n_4 64)))), (n_3, ())))))
      (cnd (eqI (wrp .i64 (quoI n_4 64)) 1)
       (some (n_0, ((bitI .or .u64 n_2 (wrp .u64 (shlI .u64 1 (remI n_4 64)))), (n_2, (n_3, ())))))
       (cnd (eqI (wrp .i64 (quoI n_4 64)) 0)
        (some ((bitI .or .u64 n_2 (wrp .u64 (shlI .u64 1 (remI n_4 64)))), (n_1, (n_2, (n_3, ())))))
        (none)))))
    (cnd (eqI (wrp .i64 (quoI n_4 64)) 1)
     (chk (leI 0 (remI n_4 64)) <|
     cnd (eqI (wrp .i64 (quoI n_4 64)) 3)
      (some (n_0, (n_1, (n_2, ((bitI .or .u64 n_1 (wrp .u64 (shlI .u64 1 (remI n_4 64)))), ())))))
      (cnd (eqI (wrp .i64 (quoI n_4 64)) 2)
       (some (n_0, (n_1, ((bitI .or .u64 n_1 (wrp .u64 (shlI .u64 1 (remI n_4 64)))), (n_3, ())))))
       (cnd (eqI (wrp .i64 (quoI n_4 64)) 1)
        (some (n_0, ((bitI .or .u64 n_1 (wrp .u64 (shlI .u64 1 (remI n_4 64)))), (n_2, (n_3, ())))))
        (cnd (eqI (wrp .i64 (quoI n_4 64)) 0)
         (some ((bitI .or .u64 n_1 (wrp .u64 (shlI .u64 1 (remI n_4 64)))), (n_1, (n_2, (n_3, ())))))
         (none)))))
     (cnd (eqI (wrp .i64 (quoI n_4 64)) 0)
      (chk (leI 0 (remI n_4 64)) <|
      cnd (eqI (wrp .i64 (quoI n_4 64)) 3)
       (some (n_0, (n_1, (n_2, ((bitI .or .u64 n_0 (wrp .u64 (shlI .u64 1 (remI n_4 64)))), ())))))
       (cnd (eqI (wrp .i64 (quoI n_4 64)) 2)
        (some (n_0, (n_1, ((bitI .or .u64 n_0 (wrp .u64 (shlI .u64 1 (remI n_4 64)))), (n_3, ())))))
        (cnd (eqI (wrp .i64 (quoI n_4 64)) 1)
         (some (n_0, ((bitI .or .u64 n_0 (wrp .u64 (shlI .u64 1 (remI n_4 64)))), (n_2, (n_3, ())))))
         (cnd (eqI (wrp .i64 (quoI n_4 64)) 0)
          (some ((bitI .or .u64 n_0 (wrp .u64 (shlI .u64 1 (remI n_4 64)))), (n_1, (n_2, (n_3, ())))))
          (none)))))
      (none)))))
  (some (n_0, (n_1, (n_2, (n_3, ())))))
noncomputable def q_slots_With : Lift := ⟨tyX, look2 .todo (α := LoopAs) (.o), [c_slots_is], bsX⟩
theorem u_slots_With {N : Nat} {a0 : Int} {a1 : Int} {a2 : Int} {a3 : Int} {a4 : Int} {q : (Int × (Int × (Int × (Int × Unit))))} (h : M_slots_With N a0 a1 a2 a3 a4 = some q) : S_slots_With a0 a1 a2 a3 a4 = some q :=
 Sof_of (Q := q_slots_With) (N := N) (n := 3) (f := 176) (tin := i_slots_With) (tout := o_slots_With) (d := (a0, (a1, (a2, (a3, (a4, ())))))) (all1 k_slots_is all0) bs_ok (by kernel_rfl) (by kernel_rfl) (by kernel_rfl) (Eq.trans (b := M_slots_With N a0 a1 a2 a3 a4) (by kernel_rfl) h)

noncomputable def M_slots_Range (N : Nat) (n_0 : Int) (n_1 : Int) : Option (Int × (Int × (Int × (Int × Unit)))) :=
 qI n_1 <|
 iter (fun (d1 : (Int × (Int × (Int × (Int × (Int × (Int × (Int × (Int × (Int × Unit)))))))))) again2 =>
  cnd (ltI d1.2.2.2.2.2.2.2.2.1 (minI n_1 256))
   (bnd (S_slots_With d1.2.2.2.2.1 d1.2.2.2.2.2.1 d1.2.2.2.2.2.2.1 d1.2.2.2.2.2.2.2.1 d1.2.2.2.2.2.2.2.2.1) <| fun p3 =>
   qI n_1 <|
   again2 (d1.1, (d1.2.1, (d1.2.2.1, (d1.2.2.2.1, (p3.1, (p3.2.1, (p3.2.2.1, (p3.2.2.2.1, ((wrp .i64 (addI d1.2.2.2.2.2.2.2.2.1 1)), ()))))))))))
   (some (d1.2.2.2.2.1, (d1.2.2.2.2.2.1, (d1.2.2.2.2.2.2.1, (d1.2.2.2.2.2.2.2.1, ())))))) N (0, (0, (0, (0, (0, (0, (0, (0, ((maxI n_0 0), ())))))))))
noncomputable def q_slots_Range : Lift := ⟨tyX, look2 .todo (α := LoopAs) (.n 174 [(3, (.as ⟨[], [[.hole tW, .hole tW, .hole tW, .hole tW], [.hole tW, .hole tW, .hole tW, .hole tW]], (.one, [.junk]) :: (.one, [.fix]) :: (.one, [.junk]) :: (.one, [.junk]) :: (.one, [.stat (.ptr 0 0)]) :: (.one, [.stat (.ptr 1 0)]) :: (.one, [.hole tI]) :: rp 12 (.one, [.junk]) ([])⟩))] .o .o), [c_slots_With], bsX⟩
theorem u_slots_Range {N : Nat} {a0 : Int} {a1 : Int} {q : (Int × (Int × (Int × (Int × Unit))))} (h : M_slots_Range N a0 a1 = some q) : S_slots_Range a0 a1 = some q :=
 Sof_of (Q := q_slots_Range) (N := N) (n := 3) (f := 174) (tin := i_slots_Range) (tout := o_slots_Range) (d := (a0, (a1, ()))) (all1 k_slots_With all0) bs_ok (by kernel_rfl) (by kernel_rfl) (by kernel_rfl) (Eq.trans (b := M_slots_Range N a0 a1) (by kernel_rfl) h)

noncomputable def M_slots_Sub_1 (N : Nat) (n_0 : Int) (n_1 : Int) : Option (Int × Unit) :=
 some ((bitI .andNot .u64 n_0 n_1), ())
noncomputable def q_slots_Sub_1 : Lift := ⟨tyX, look2 .todo (α := LoopAs) (.o), [], bsX⟩
theorem u_slots_Sub_1 {N : Nat} {a0 : Int} {a1 : Int} {q : (Int × Unit)} (h : M_slots_Sub_1 N a0 a1 = some q) : S_slots_Sub_1 a0 a1 = some q :=
 Sof_of (Q := q_slots_Sub_1) (N := N) (n := 3) (f := 178) (tin := i_slots_Sub_1) (tout := o_slots_Sub_1) (d := (a0, (a1, ()))) all0 bs_ok (by kernel_rfl) (by kernel_rfl) (by kernel_rfl) (Eq.trans (b := M_slots_Sub_1 N a0 a1) (by kernel_rfl) h)

noncomputable def M_slots_Sub (N : Nat) (n_0 : Int) (n_1 : Int) (n_2 : Int) (n_3 : Int) (n_4 : Int) (n_5 : Int) (n_6 : Int) (n_7 : Int) : Option (Int × (Int × (Int × (Int × Unit)))) :=
 bnd (S_slots_Sub_1 n_0 n_4) <| fun p1 =>
 bnd (S_slots_Sub_1 n_1 n_5) <| fun p2 =>
 bnd (S_slots_Sub_1 n_2 n_6) <| fun p3 =>
 bnd (S_slots_Sub_1 n_3 n_7) <| fun p4 =>
 some (p1.1, (p2.1, (p3.1, (p4.1, ()))))
noncomputable def q_slots_Sub : Lift := ⟨tyX, look2 .todo (α := LoopAs) (.n 177 [(2, (.times 5))] .o .o), [c_slots_Sub_1], bsX⟩
theorem u_slots_Sub {N : Nat} {a0 : Int} {a1 : Int} {a2 : Int} {a3 : Int} {a4 : Int} {a5 : Int} {a6 : Int} {a7 : Int} {q : (Int × (Int × (Int × (Int × Unit))))} (h : M_slots_Sub N a0 a1 a2 a3 a4 a5 a6 a7 = some q) : S_slots_Sub a0 a1 a2 a3 a4 a5 a6 a7 = some q :=
 Sof_of (Q := q_slots_Sub) (N := N) (n := 3) (f := 175) (tin := i_slots_Sub) (tout := o_slots_Sub) (d := (a0, (a1, (a2, (a3, (a4, (a5, (a6, (a7, ()))))))))) (all1 k_slots_Sub_1 all0) bs_ok (by kernel_rfl) (by kernel_rfl) (by kernel_rfl) (Eq.trans (b := M_slots_Sub N a0 a1 a2 a3 a4 a5 a6 a7) (by kernel_rfl) h)

noncomputable def M_slots_Inside (N : Nat) (n_0 : Int) (n_1 : Int) (n_2 : Int) (n_3 : Int) (n_4 : Int) (n_5 : Int) (n_6 : Int) (n_7 : Int) : Option (Bool × Unit) :=
 bnd (S_slots_Sub n_0 n_1 n_2 n_3 n_4 n_5 n_6 n_7) <| fun p1 =>
 some ((eqL [p1.1, p1.2.1, p1.2.2.1, p1.2.2.2.1] [0, 0, 0, 0]), ())
noncomputable def q_slots_Inside : Lift := ⟨tyX, look2 .todo (α := LoopAs) (.o), [c_slots_Sub], bsX⟩
theorem u_slots_Inside {N : Nat} {a0 : Int} {a1 : Int} {a2 : Int} {a3 : Int} {a4 : Int} {a5 : Int} {a6 : Int} {a7 : Int} {q : (Bool × Unit)} (h : M_slots_Inside N a0 a1 a2 a3 a4 a5 a6 a7 = some q) : S_slots_Inside a0 a1 a2 a3 a4 a5 a6 a7 = some q :=
 Sof_of (Q := q_slots_Inside) (N := N) (n := 3) (f := 173) (tin := i_slots_Inside) (tout := o_slots_Inside) (d := (a0, (a1, (a2, (a3, (a4, (a5, (a6, (a7, ()))))))))) (all1 k_slots_Sub all0) bs_ok (by kernel_rfl) (by kernel_rfl) (by kernel_rfl) (Eq.trans (b := M_slots_Inside N a0 a1 a2 a3 a4 a5 a6 a7) (by kernel_rfl) h)

noncomputable def M_slots_Below (N : Nat) (n_0 : Int) (n_1 : Int) (n_2 : Int) (n_3 : Int) (n_4 : Int) : Option (Bool × Unit) :=
 bnd (S_slots_Range 0 n_4) <| fun p1 =>
 bnd (S_slots_Inside n_0 n_1 n_2 n_3 p1.1 p1.2.1 p1.2.2.1 p1.2.2.2.1) <| fun p2 =>
 some (p2.1, ())
noncomputable def q_slots_Below : Lift := ⟨tyX, look2 .todo (α := LoopAs) (.o), [c_slots_Range, c_slots_Inside], bsX⟩
theorem u_slots_Below {N : Nat} {a0 : Int} {a1 : Int} {a2 : Int} {a3 : Int} {a4 : Int} {q : (Bool × Unit)} (h : M_slots_Below N a0 a1 a2 a3 a4 = some q) : S_slots_Below a0 a1 a2 a3 a4 = some q :=
 Sof_of (Q := q_slots_Below) (N := N) (n := 3) (f := 166) (tin := i_slots_Below) (tout := o_slots_Below) (d := (a0, (a1, (a2, (a3, (a4, ())))))) (all1 k_slots_Range (all1 k_slots_Inside all0)) bs_ok (by kernel_rfl) (by kernel_rfl) (by kernel_rfl) (Eq.trans (b := M_slots_Below N a0 a1 a2 a3 a4) (by kernel_rfl) h)
end Go.Proofs.YtkdnbnkbnegckaaGreat
