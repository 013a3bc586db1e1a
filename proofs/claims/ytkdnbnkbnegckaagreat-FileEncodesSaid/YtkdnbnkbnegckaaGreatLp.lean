/- Functions, lifted: what the program comes to by them. Functions, lifted: what the program comes to by them. All lifted functions. -/
import Derived.Test.YtkdnbnkbnegckaaGreatLpA
import Derived.Test.YtkdnbnkbnegckaaGreatLp1
namespace Go.Proofs.YtkdnbnkbnegckaaGreat
open Go.RowKit
set_option maxRecDepth 100000
set_option linter.unusedVariables false
noncomputable def M_uvar_PutInt (N : Nat) (l_0 : LB) (n_1 : Int) : Option (LB × Unit) :=
 bnd (S_uvar_Fold n_1) <| fun p1 =>
 dY l_0 <| fun l2 =>
 qN (vnum (eY l_0)) <|
 bnd (S_uvar_Put l2 p1.1) <| fun p3 =>
 dY p3.1 <| fun l4 =>
 qN (vnum (eY p3.1)) <|
 some (l4, ())
noncomputable def q_uvar_PutInt : Lift := ⟨tyX, look2 .todo (α := LoopAs) (.n 119 [(1008192, (.times 0))] .o .o), [c_uvar_Put, c_uvar_Fold], bsX⟩
theorem u_uvar_PutInt {N : Nat} {a0 : LB} {a1 : Int} {q : (LB × Unit)} (h : M_uvar_PutInt N a0 a1 = some q) : S_uvar_PutInt a0 a1 = some q :=
 Sof_of (Q := q_uvar_PutInt) (N := N) (n := 3) (f := 119) (tin := i_uvar_PutInt) (tout := o_uvar_PutInt) (d := (a0, (a1, ()))) (all1 k_uvar_Put (all1 k_uvar_Fold all0)) bs_ok (by kernel_rfl) (by kernel_rfl) (by kernel_rfl) (Eq.trans (b := M_uvar_PutInt N a0 a1) (by kernel_rfl) h)

noncomputable def M_instr_Put (N : Nat) (l_0 : LB) (n_1 : Int) (n_2 : Int) : Option (LB × Unit) :=
 bnd (S_instr_Right n_1 n_2) <| fun p1 =>
 cnd (notB p1.1)
  (dY l_0 <| fun l2 =>
  qN (vnum (eY l_0)) <|
  some (l2, ()))
  (qN (vnum (eY l_0)) <|
  chk (room (vnum (eY l_0)) (vnum (vcut [[(C.v (Go.Value.int .u8 (wrp .u8 n_1)))]] 0 1)) 1) <|
  bnd (S_instr_has n_1) <| fun p3 =>
  cnd p3.1
   (decL tY (vapp (eY l_0) (vcut [[(C.v (Go.Value.int .u8 (wrp .u8 n_1)))]] 0 1)) <| fun l4 =>
   chk (eqN (addN (vnum (eY l_0)) (vnum (vcut [[(C.v (Go.Value.int .u8 (wrp .u8 n_1)))]] 0 1))) (vnum (vapp (eY l_0) (vcut [[(C.v (Go.Value.int .u8 (wrp .u8 n_1)))]] 0 1)))) <|
   bnd (S_uvar_PutInt l4 n_2) <| fun p5 =>
   dY p5.1 <| fun l6 =>
   qN (vnum (eY p5.1)) <|
   some (l6, ()))
   (decL tY (vapp (eY l_0) (vcut [[(C.v (Go.Value.int .u8 (wrp .u8 n_1)))]] 0 1)) <| fun l7 =>
   chk (eqN (addN (vnum (eY l_0)) (vnum (vcut [[(C.v (Go.Value.int .u8 (wrp .u8 n_1)))]] 0 1))) (vnum (vapp (eY l_0) (vcut [[(C.v (Go.Value.int .u8 (wrp .u8 n_1)))]] 0 1)))) <|
   some (l7, ())))
noncomputable def q_instr_Put : Lift := ⟨tyX, look2 .todo (α := LoopAs) (.n 63 [(1012288, (.times 0)), (1028672, (.times 0))] .o .o), [c_instr_Right, c_instr_has, c_uvar_PutInt], bsX⟩
theorem u_instr_Put {N : Nat} {a0 : LB} {a1 : Int} {a2 : Int} {q : (LB × Unit)} (h : M_instr_Put N a0 a1 a2 = some q) : S_instr_Put a0 a1 a2 = some q :=
 Sof_of (Q := q_instr_Put) (N := N) (n := 3) (f := 63) (tin := i_instr_Put) (tout := o_instr_Put) (d := (a0, (a1, (a2, ())))) (all1 k_instr_Right (all1 k_instr_has (all1 k_uvar_PutInt all0))) bs_ok (by kernel_rfl) (by kernel_rfl) (by kernel_rfl) (Eq.trans (b := M_instr_Put N a0 a1 a2) (by kernel_rfl) h)

noncomputable def M_runs_groups_int (N : Nat) (l_0 : LI) : Option (LC × Unit) :=
 decL tC [] <| fun l1 =>
 qS (eI l_0) <|
 qI (vlen (eI l_0)) <|
 iter (fun (d2 : (LC × (Int × Unit))) again3 =>
  cnd (ltI d2.2.1 (vlen (eI l_0)))
   (chk (leI 0 d2.2.1) <|
   getE tI (eI l_0) (natI d2.2.1) <| fun n4 =>
   chk (leN (addN 0 (vnum (eC d2.1))) (vnum (eC d2.1))) <|
   joinK (δ := (LC × (Bool × Unit))) (cnd (leI 0 (wrp .i64 (subI (vlen (vcut (eC d2.1) 0 (vnum (eC d2.1)))) 1)))
     (chk (leI 0 (wrp .i64 (subI (vlen (vcut (eC d2.1) 0 (vnum (eC d2.1)))) 1))) <|
     chk (ltI (wrp .i64 (subI (vlen (vcut (eC d2.1) 0 (vnum (eC d2.1)))) 1)) (Int.ofNat (vnum (eC d2.1)))) <|
     chk (leN (addN 0 (vnum (eC d2.1))) (vnum (eC d2.1))) <|
     getE tC (eC d2.1) (addN 0 (natI (wrp .i64 (subI (vlen (vcut (eC d2.1) 0 (vnum (eC d2.1)))) 1)))) <| fun p5 =>
     dC d2.1 <| fun l6 =>
     qN (vnum (eC d2.1)) <|
     qI n4 <|
     qI (wrp .i64 (subI (vlen (vcut (eC d2.1) 0 (vnum (eC d2.1)))) 1)) <|
     qS (eI l_0) <|
     qI (vlen (eI l_0)) <|
     qI d2.2.1 <|
     leftK (l6, ((eqI p5.2 n4), ())))
     (dC d2.1 <| fun l7 =>
     qN (vnum (eC d2.1)) <|
     qI n4 <|
     qI (wrp .i64 (subI (vlen (vcut (eC d2.1) 0 (vnum (eC d2.1)))) 1)) <|
     qS (eI l_0) <|
     qI (vlen (eI l_0)) <|
     qI d2.2.1 <|
     leftK (l7, (false, ()))))
   <| fun p8 =>
   cnd p8.2.1
    (chk (leI 0 (wrp .i64 (subI (vlen (vcut (eC d2.1) 0 (vnum (eC d2.1)))) 1))) <|
    chk (ltI (wrp .i64 (subI (vlen (vcut (eC d2.1) 0 (vnum (eC d2.1)))) 1)) (Int.ofNat (vnum (eC p8.1)))) <|
    chk (leN (addN 0 (vnum (eC p8.1))) (vnum (eC p8.1))) <|
    getE tC (eC p8.1) (addN 0 (natI (wrp .i64 (subI (vlen (vcut (eC d2.1) 0 (vnum (eC d2.1)))) 1)))) <| fun p9 =>
    chk (leI 0 (wrp .i64 (subI (vlen (vcut (eC d2.1) 0 (vnum (eC d2.1)))) 1))) <|
    chk (ltI (wrp .i64 (subI (vlen (vcut (eC d2.1) 0 (vnum (eC d2.1)))) 1)) (Int.ofNat (vnum (eC p8.1)))) <|
    chk (leN (addN 0 (vnum (eC p8.1))) (vnum (eC p8.1))) <|
    getE tC (eC p8.1) (addN 0 (natI (wrp .i64 (subI (vlen (vcut (eC d2.1) 0 (vnum (eC d2.1)))) 1)))) <| fun p10 =>
    decL tC (vset (eC p8.1) (addN 0 (natI (wrp .i64 (subI (vlen (vcut (eC d2.1) 0 (vnum (eC d2.1)))) 1)))) [(C.v (Go.Value.int .i64 (wrp .i64 (addI p9.1 1)))), (C.v (Go.Value.int .i64 p10.2))]) <| fun l11 =>
    chk (eqN (vnum (eC p8.1)) (vnum (vset (eC p8.1) (addN 0 (natI (wrp .i64 (subI (vlen (vcut (eC d2.1) 0 (vnum (eC d2.1)))) 1)))) [(C.v (Go.Value.int .i64 (wrp .i64 (addI p9.1 1)))), (C.v (Go.Value.int .i64 p10.2))]))) <|
    qS (eI l_0) <|
    qI (vlen (eI l_0)) <|
    again3 (l11, ((wrp .i64 (addI d2.2.1 1)), ())))
    (qN (vnum (eC p8.1)) <|
    chk (room (vnum (eC p8.1)) (vnum (vcut [[(C.v (Go.Value.int .i64 1)), (C.v (Go.Value.int .i64 n4))]] 0 1)) 16) <|
    decL tC (vapp (eC p8.1) (vcut [[(C.v (Go.Value.int .i64 1)), (C.v (Go.Value.int .i64 n4))]] 0 1)) <| fun l12 =>
    chk (eqN (addN (vnum (eC p8.1)) (vnum (vcut [[(C.v (Go.Value.int .i64 1)), (C.v (Go.Value.int .i64 n4))]] 0 1))) (vnum (vapp (eC p8.1) (vcut [[(C.v (Go.Value.int .i64 1)), (C.v (Go.Value.int .i64 n4))]] 0 1)))) <|
    qS (eI l_0) <|
    qI (vlen (eI l_0)) <|
    again3 (l12, ((wrp .i64 (addI d2.2.1 1)), ()))))
   (chk (leN (addN 0 (vnum (eC d2.1))) (vnum (eC d2.1))) <|
   decL tC (vcut (eC d2.1) 0 (vnum (eC d2.1))) <| fun l13 =>
   some (l13, ()))) N (l1, (0, ()))
noncomputable def q_runs_groups_int : Lift := ⟨tyX, look2 .todo (α := LoopAs) (.n 159 [(3, (.as ⟨[.mu 193 2 tC], [], (.one, [.junk]) :: (.one, [.junk]) :: (.one, [.junk]) :: (.one, [.own 0]) :: (.one, [.junk]) :: (.one, [.junk]) :: (.one, [.junk]) :: (.one, [.fix]) :: (.one, [.fix]) :: (.one, [.hole tI]) :: rp 32 (.one, [.junk]) ([])⟩)), (1028680, (.as ⟨[.mu 193 2 tC], [], (.one, [.junk]) :: (.one, [.junk]) :: (.one, [.junk]) :: (.one, [.own 0]) :: (.one, [.junk]) :: rp 5 (.one, [.fix]) (rp 16 (.one, [.junk]) ((.one, [.hole .bool]) :: rp 15 (.one, [.junk]) ([])))⟩))] .o .o), [], bsX⟩
theorem u_runs_groups_int {N : Nat} {a0 : LI} {q : (LC × Unit)} (h : M_runs_groups_int N a0 = some q) : S_runs_groups_int a0 = some q :=
 Sof_of (Q := q_runs_groups_int) (N := N) (n := 3) (f := 159) (tin := i_runs_groups_int) (tout := o_runs_groups_int) (d := (a0, ())) all0 bs_ok (by kernel_rfl) (by kernel_rfl) (by kernel_rfl) (Eq.trans (b := M_runs_groups_int N a0) (by kernel_rfl) h)

noncomputable def M_runs_Of (N : Nat) (l_0 : LI) : Option (LC × Unit) :=
 dI l_0 <| fun l1 =>
 bnd (S_runs_groups_int l1) <| fun p2 =>
 decL tC [] <| fun l3 =>
 qS (eC p2.1) <|
 qI (vlen (eC p2.1)) <|
 iter (fun (d4 : (LC × (Int × Unit))) again5 =>
  cnd (ltI d4.2.1 (vlen (eC p2.1)))
   (chk (leI 0 d4.2.1) <|
   getE tC (eC p2.1) (natI d4.2.1) <| fun p6 =>
   qN (vnum (eC d4.1)) <|
   chk (room (vnum (eC d4.1)) (vnum (vcut [[(C.v (Go.Value.int .i64 p6.1)), (C.v (Go.Value.int .i64 p6.2))]] 0 1)) 16) <|
   decL tC (vapp (eC d4.1) (vcut [[(C.v (Go.Value.int .i64 p6.1)), (C.v (Go.Value.int .i64 p6.2))]] 0 1)) <| fun l7 =>
   chk (eqN (addN (vnum (eC d4.1)) (vnum (vcut [[(C.v (Go.Value.int .i64 p6.1)), (C.v (Go.Value.int .i64 p6.2))]] 0 1))) (vnum (vapp (eC d4.1) (vcut [[(C.v (Go.Value.int .i64 p6.1)), (C.v (Go.Value.int .i64 p6.2))]] 0 1)))) <|
   qS (eC p2.1) <|
   qI (vlen (eC p2.1)) <|
   again5 (l7, ((wrp .i64 (addI d4.2.1 1)), ())))
   (chk (leN (addN 0 (vnum (eC d4.1))) (vnum (eC d4.1))) <|
   decL tC (vcut (eC d4.1) 0 (vnum (eC d4.1))) <| fun l8 =>
   some (l8, ()))) N (l3, (0, ()))
noncomputable def q_runs_Of : Lift := ⟨tyX, look2 .todo (α := LoopAs) (.n 121 [(3, (.as ⟨[.mu 160 2 tC], [], (.one, [.junk]) :: (.one, [.junk]) :: (.one, [.junk]) :: (.one, [.own 0]) :: (.one, [.junk]) :: (.one, [.junk]) :: (.one, [.junk]) :: (.one, [.fix]) :: (.one, [.fix]) :: (.one, [.hole tI]) :: rp 13 (.one, [.junk]) ([])⟩))] .o .o), [c_runs_groups_int], bsX⟩
theorem u_runs_Of {N : Nat} {a0 : LI} {q : (LC × Unit)} (h : M_runs_Of N a0 = some q) : S_runs_Of a0 = some q :=
 Sof_of (Q := q_runs_Of) (N := N) (n := 3) (f := 121) (tin := i_runs_Of) (tout := o_runs_Of) (d := (a0, ())) (all1 k_runs_groups_int all0) bs_ok (by kernel_rfl) (by kernel_rfl) (by kernel_rfl) (Eq.trans (b := M_runs_Of N a0) (by kernel_rfl) h)

noncomputable def M_runs_Put (N : Nat) (l_0 : LB) (l_1 : LI) : Option (LB × Unit) :=
 dI l_1 <| fun l1 =>
 bnd (S_runs_Of l1) <| fun p2 =>
 dY l_0 <| fun l3 =>
 qN (vnum (eY l_0)) <|
 qS (eC p2.1) <|
 qI (vlen (eC p2.1)) <|
 iter (fun (d4 : (LB × (Int × Unit))) again5 =>
  cnd (ltI d4.2.1 (vlen (eC p2.1)))
   (chk (leI 0 d4.2.1) <|
   getE tC (eC p2.1) (natI d4.2.1) <| fun p6 =>
   dY d4.1 <| fun l7 =>
   qN (vnum (eY d4.1)) <|
   bnd (S_uvar_Put l7 (wrp .u64 p6.1)) <| fun p8 =>
   dY p8.1 <| fun l9 =>
   qN (vnum (eY p8.1)) <|
   bnd (S_uvar_PutInt l9 p6.2) <| fun p10 =>
   dY p10.1 <| fun l11 =>
   qN (vnum (eY p10.1)) <|
   qS (eC p2.1) <|
   qI (vlen (eC p2.1)) <|
   again5 (l11, ((wrp .i64 (addI d4.2.1 1)), ())))
   (dY d4.1 <| fun l12 =>
   qN (vnum (eY d4.1)) <|
   some (l12, ()))) N (l3, (0, ()))
noncomputable def q_runs_Put : Lift := ⟨tyX, look2 .todo (α := LoopAs) (.n 66 [(2, (.as ⟨[.dead, .mu 5 1 tY], [], (.one, [.own 1]) :: rp 7 (.one, [.junk]) ((.one, [.fix]) :: (.one, [.fix]) :: (.one, [.hole tI]) :: rp 13 (.one, [.junk]) ([]))⟩)), (1028672, (.times 0))] .o .o), [c_uvar_Put, c_uvar_PutInt, c_runs_Of], bsX⟩
theorem u_runs_Put {N : Nat} {a0 : LB} {a1 : LI} {q : (LB × Unit)} (h : M_runs_Put N a0 a1 = some q) : S_runs_Put a0 a1 = some q :=
 Sof_of (Q := q_runs_Put) (N := N) (n := 3) (f := 66) (tin := i_runs_Put) (tout := o_runs_Put) (d := (a0, (a1, ()))) (all1 k_uvar_Put (all1 k_uvar_PutInt (all1 k_runs_Of all0))) bs_ok (by kernel_rfl) (by kernel_rfl) (by kernel_rfl) (Eq.trans (b := M_runs_Put N a0 a1) (by kernel_rfl) h)

noncomputable def M_lines_Put (N : Nat) (l_0 : LB) (l_1 : LI) : Option (LB × Unit) :=
 dY l_0 <| fun l1 =>
 qN (vnum (eY l_0)) <|
 dI l_1 <| fun l2 =>
 bnd (S_runs_Put l1 l2) <| fun p3 =>
 dY p3.1 <| fun l4 =>
 qN (vnum (eY p3.1)) <|
 some (l4, ())
noncomputable def q_lines_Put : Lift := ⟨tyX, look2 .todo (α := LoopAs) (.n 64 [(1008192, (.times 0))] .o .o), [c_runs_Put], bsX⟩
theorem u_lines_Put {N : Nat} {a0 : LB} {a1 : LI} {q : (LB × Unit)} (h : M_lines_Put N a0 a1 = some q) : S_lines_Put a0 a1 = some q :=
 Sof_of (Q := q_lines_Put) (N := N) (n := 3) (f := 64) (tin := i_lines_Put) (tout := o_lines_Put) (d := (a0, (a1, ()))) (all1 k_runs_Put all0) bs_ok (by kernel_rfl) (by kernel_rfl) (by kernel_rfl) (Eq.trans (b := M_lines_Put N a0 a1) (by kernel_rfl) h)

noncomputable def M_tree_Put (N : Nat) (l_0 : LB) (l_1 : LN) : Option (LB × Unit) :=
 dY l_0 <| fun l1 =>
 qN (vnum (eY l_0)) <|
 bnd (S_uvar_Put l1 (wrp .u64 (vlen (eN l_1)))) <| fun p2 =>
 dY p2.1 <| fun l3 =>
 qN (vnum (eY p2.1)) <|
 qS (eN l_1) <|
 qI (vlen (eN l_1)) <|
 iter (fun (d4 : (LB × (Int × Unit))) again5 =>
  cnd (ltI d4.2.1 (vlen (eN l_1)))
   (chk (leI 0 d4.2.1) <|
   getE tN (eN l_1) (natI d4.2.1) <| fun p6 =>
   dY d4.1 <| fun l7 =>
   qN (vnum (eY d4.1)) <|
   bnd (S_uvar_PutInt l7 p6.1) <| fun p8 =>
   dY p8.1 <| fun l9 =>
   qN (vnum (eY p8.1)) <|
   bnd (S_uvar_PutInt l9 p6.2.1) <| fun p10 =>
   dY p10.1 <| fun l11 =>
   qN (vnum (eY p10.1)) <|
   bnd (S_uvar_PutInt l11 p6.2.2.1) <| fun p12 =>
   dY p12.1 <| fun l13 =>
   qN (vnum (eY p12.1)) <|
   bnd (S_uvar_PutInt l13 p6.2.2.2.1) <| fun p14 =>
   dY p14.1 <| fun l15 =>
   qN (vnum (eY p14.1)) <|
   bnd (S_uvar_PutInt l15 p6.2.2.2.2.1) <| fun p16 =>
   dY p16.1 <| fun l17 =>
   qN (vnum (eY p16.1)) <|
   bnd (S_uvar_PutInt l17 p6.2.2.2.2.2.1) <| fun p18 =>
   dY p18.1 <| fun l19 =>
   qN (vnum (eY p18.1)) <|
   bnd (S_uvar_PutInt l19 p6.2.2.2.2.2.2) <| fun p20 =>
   dY p20.1 <| fun l21 =>
   qN (vnum (eY p20.1)) <|
   qS (eN l_1) <|
   qI (vlen (eN l_1)) <|
   again5 (l21, ((wrp .i64 (addI d4.2.1 1)), ())))
   (dY d4.1 <| fun l22 =>
   qN (vnum (eY d4.1)) <|
   some (l22, ()))) N (l3, (0, ()))
noncomputable def q_tree_Put : Lift := ⟨tyX, look2 .todo (α := LoopAs) (.n 67 [(3, (.as ⟨[.dead, .mu 5 1 tY], [], (.one, [.own 1]) :: rp 13 (.one, [.junk]) ((.one, [.fix]) :: (.one, [.fix]) :: (.one, [.hole tI]) :: rp 27 (.one, [.junk]) ([]))⟩)), (6, (.times 8)), (1049152, (.times 0))] .o .o), [c_uvar_Put, c_uvar_PutInt], bsX⟩
theorem u_tree_Put {N : Nat} {a0 : LB} {a1 : LN} {q : (LB × Unit)} (h : M_tree_Put N a0 a1 = some q) : S_tree_Put a0 a1 = some q :=
 Sof_of (Q := q_tree_Put) (N := N) (n := 3) (f := 67) (tin := i_tree_Put) (tout := o_tree_Put) (d := (a0, (a1, ()))) (all1 k_uvar_Put (all1 k_uvar_PutInt all0)) bs_ok (by kernel_rfl) (by kernel_rfl) (by kernel_rfl) (Eq.trans (b := M_tree_Put N a0 a1) (by kernel_rfl) h)

noncomputable def M_maps_count (N : Nat) (l_0 : LS) : Option ((List (Int × (Int × (Int × (Int × Int))))) × Unit) :=
 decL (.pr tW (.pr tW (.pr tW (.pr tW tI)))) [] <| fun l1 =>
 qS (eS l_0) <|
 qI (vlen (eS l_0)) <|
 iter (fun (d2 : ((List (Int × (Int × (Int × (Int × Int))))) × (Int × (Int × (Int × (Int × (Int × (Int × Unit)))))))) again3 =>
  cnd (ltI d2.2.2.2.2.2.2.1 (vlen (eS l_0)))
   (chk (leI 0 d2.2.2.2.2.2.2.1) <|
   getE tS (eS l_0) (natI d2.2.2.2.2.2.2.1) <| fun p4 =>
   joinK (δ := ((List (Int × (Int × (Int × (Int × Int))))) × (Bool × Unit))) (cnd (ltI 0 d2.2.2.2.2.2.1)
     (decL (.pr tW (.pr tW (.pr tW (.pr tW tI)))) (encL (.pr tW (.pr tW (.pr tW (.pr tW tI)))) d2.1) <| fun l5 =>
     qI d2.2.1 <|
     qI d2.2.2.1 <|
     qI d2.2.2.2.1 <|
     qI d2.2.2.2.2.1 <|
     qI d2.2.2.2.2.2.1 <|
     qI p4.1 <|
     qI p4.2.1 <|
     qI p4.2.2.1 <|
     qI p4.2.2.2 <|
     qN (vnum (encL (.pr tW (.pr tW (.pr tW (.pr tW tI)))) d2.1)) <|
     qS (eS l_0) <|
     qI (vlen (eS l_0)) <|
     qI d2.2.2.2.2.2.2.1 <|
     leftK (l5, ((eqL [d2.2.1, d2.2.2.1, d2.2.2.2.1, d2.2.2.2.2.1] [p4.1, p4.2.1, p4.2.2.1, p4.2.2.2]), ())))
     (decL (.pr tW (.pr tW (.pr tW (.pr tW tI)))) (encL (.pr tW (.pr tW (.pr tW (.pr tW tI)))) d2.1) <| fun l6 =>
     qI d2.2.1 <|
     qI d2.2.2.1 <|
     qI d2.2.2.2.1 <|
     qI d2.2.2.2.2.1 <|
     qI d2.2.2.2.2.2.1 <|
     qI p4.1 <|
     qI p4.2.1 <|
     qI p4.2.2.1 <|
     qI p4.2.2.2 <|
     qN (vnum (encL (.pr tW (.pr tW (.pr tW (.pr tW tI)))) d2.1)) <|
     qS (eS l_0) <|
     qI (vlen (eS l_0)) <|
     qI d2.2.2.2.2.2.2.1 <|
     leftK (l6, (false, ()))))
   <| fun p7 =>
   cnd p7.2.1
    (chk (leN (addN 0 (vnum (encL (.pr tW (.pr tW (.pr tW (.pr tW tI)))) p7.1))) (vnum (encL (.pr tW (.pr tW (.pr tW (.pr tW tI)))) p7.1))) <|
    chk (leI 0 (wrp .i64 (subI (vlen (vcut (encL (.pr tW (.pr tW (.pr tW (.pr tW tI)))) p7.1) 0 (vnum (encL (.pr tW (.pr tW (.pr tW (.pr tW tI)))) p7.1)))) 1))) <|
    chk (ltI (wrp .i64 (subI (vlen (vcut (encL (.pr tW (.pr tW (.pr tW (.pr tW tI)))) p7.1) 0 (vnum (encL (.pr tW (.pr tW (.pr tW (.pr tW tI)))) p7.1)))) 1)) (Int.ofNat (vnum (encL (.pr tW (.pr tW (.pr tW (.pr tW tI)))) p7.1)))) <|
    chk (leN (addN 0 (vnum (encL (.pr tW (.pr tW (.pr tW (.pr tW tI)))) p7.1))) (vnum (encL (.pr tW (.pr tW (.pr tW (.pr tW tI)))) p7.1))) <|
    getE (.pr tW (.pr tW (.pr tW (.pr tW tI)))) (encL (.pr tW (.pr tW (.pr tW (.pr tW tI)))) p7.1) (addN 0 (natI (wrp .i64 (subI (vlen (vcut (encL (.pr tW (.pr tW (.pr tW (.pr tW tI)))) p7.1) 0 (vnum (encL (.pr tW (.pr tW (.pr tW (.pr tW tI)))) p7.1)))) 1)))) <| fun p8 =>
    decL (.pr tW (.pr tW (.pr tW (.pr tW tI)))) (vset (encL (.pr tW (.pr tW (.pr tW (.pr tW tI)))) p7.1) (addN 0 (natI (wrp .i64 (subI (vlen (vcut (encL (.pr tW (.pr tW (.pr tW (.pr tW tI)))) p7.1) 0 (vnum (encL (.pr tW (.pr tW (.pr tW (.pr tW tI)))) p7.1)))) 1)))) [(C.v (Go.Value.int .u64 d2.2.1)), (C.v (Go.Value.int .u64 d2.2.2.1)), (C.v (Go.Value.int .u64 d2.2.2.2.1)), (C.v (Go.Value.int .u64 d2.2.2.2.2.1)), (C.v (Go.Value.int .i64 (wrp .i64 (addI d2.2.2.2.2.2.1 1))))]) <| fun l9 =>
    chk (eqN (vnum (encL (.pr tW (.pr tW (.pr tW (.pr tW tI)))) p7.1)) (vnum (vset (encL (.pr tW (.pr tW (.pr tW (.pr tW tI)))) p7.1) (addN 0 (natI (wrp .i64 (subI (vlen (vcut (encL (.pr tW (.pr tW (.pr tW (.pr tW tI)))) p7.1) 0 (vnum (encL (.pr tW (.pr tW (.pr tW (.pr tW tI)))) p7.1)))) 1)))) [(C.v (Go.Value.int .u64 d2.2.1)), (C.v (Go.Value.int .u64 d2.2.2.1)), (C.v (Go.Value.int .u64 d2.2.2.2.1)), (C.v (Go.Value.int .u64 d2.2.2.2.2.1)), (C.v (Go.Value.int .i64 (wrp .i64 (addI d2.2.2.2.2.2.1 1))))]))) <|
    qS (eS l_0) <|
    qI (vlen (eS l_0)) <|
    again3 (l9, (d2.2.1, (d2.2.2.1, (d2.2.2.2.1, (d2.2.2.2.2.1, ((wrp .i64 (addI d2.2.2.2.2.2.1 1)), ((wrp .i64 (addI d2.2.2.2.2.2.2.1 1)), ()))))))))
    (qN (vnum (encL (.pr tW (.pr tW (.pr tW (.pr tW tI)))) p7.1)) <|
    chk (room (vnum (encL (.pr tW (.pr tW (.pr tW (.pr tW tI)))) p7.1)) (vnum (vcut [[(C.v (Go.Value.int .u64 p4.1)), (C.v (Go.Value.int .u64 p4.2.1)), (C.v (Go.Value.int .u64 p4.2.2.1)), (C.v (Go.Value.int .u64 p4.2.2.2)), (C.v (Go.Value.int .i64 1))]] 0 1)) 40) <|
    decL (.pr tW (.pr tW (.pr tW (.pr tW tI)))) (vapp (encL (.pr tW (.pr tW (.pr tW (.pr tW tI)))) p7.1) (vcut [[(C.v (Go.Value.int .u64 p4.1)), (C.v (Go.Value.int .u64 p4.2.1)), (C.v (Go.Value.int .u64 p4.2.2.1)), (C.v (Go.Value.int .u64 p4.2.2.2)), (C.v (Go.Value.int .i64 1))]] 0 1)) <| fun l10 =>
    chk (eqN (addN (vnum (encL (.pr tW (.pr tW (.pr tW (.pr tW tI)))) p7.1)) (vnum (vcut [[(C.v (Go.Value.int .u64 p4.1)), (C.v (Go.Value.int .u64 p4.2.1)), (C.v (Go.Value.int .u64 p4.2.2.1)), (C.v (Go.Value.int .u64 p4.2.2.2)), (C.v (Go.Value.int .i64 1))]] 0 1))) (vnum (vapp (encL (.pr tW (.pr tW (.pr tW (.pr tW tI)))) p7.1) (vcut [[(C.v (Go.Value.int .u64 p4.1)), (C.v (Go.Value.int .u64 p4.2.1)), (C.v (Go.Value.int .u64 p4.2.2.1)), (C.v (Go.Value.int .u64 p4.2.2.2)), (C.v (Go.Value.int .i64 1))]] 0 1)))) <|
    qS (eS l_0) <|
    qI (vlen (eS l_0)) <|
    again3 (l10, (p4.1, (p4.2.1, (p4.2.2.1, (p4.2.2.2, (1, ((wrp .i64 (addI d2.2.2.2.2.2.2.1 1)), ())))))))))
   (chk (leN (addN 0 (vnum (encL (.pr tW (.pr tW (.pr tW (.pr tW tI)))) d2.1))) (vnum (encL (.pr tW (.pr tW (.pr tW (.pr tW tI)))) d2.1))) <|
   decL (.pr tW (.pr tW (.pr tW (.pr tW tI)))) (vcut (encL (.pr tW (.pr tW (.pr tW (.pr tW tI)))) d2.1) 0 (vnum (encL (.pr tW (.pr tW (.pr tW (.pr tW tI)))) d2.1))) <| fun l11 =>
   some (l11, ()))) N (l1, (0, (0, (0, (0, (0, (0, ())))))))
noncomputable def q_maps_count : Lift := ⟨tyX, look2 .todo (α := LoopAs) (.n 120 [(4, (.as ⟨[.mu 156 5 (.pr tW (.pr tW (.pr tW (.pr tW tI))))], [[.hole tW, .hole tW, .hole tW, .hole tW, .hole tI]], (.one, [.junk]) :: (.one, [.junk]) :: (.one, [.junk]) :: (.one, [.own 0]) :: (.one, [.stat (.ptr 0 0)]) :: (.one, [.junk]) :: (.one, [.junk]) :: (.one, [.junk]) :: (.one, [.fix]) :: (.one, [.fix]) :: (.one, [.hole tI]) :: rp 30 (.one, [.junk]) ([])⟩)), (1028680, (.as ⟨[.mu 156 5 (.pr tW (.pr tW (.pr tW (.pr tW tI))))], [[.fix, .fix, .fix, .fix, .fix], [.fix, .fix, .fix, .fix]], (.one, [.junk]) :: (.one, [.junk]) :: (.one, [.junk]) :: (.one, [.own 0]) :: (.one, [.stat (.ptr 0 0)]) :: (.one, [.junk]) :: (.one, [.stat (.ptr 1 0)]) :: (.one, [.junk]) :: (.one, [.fix]) :: (.one, [.fix]) :: (.one, [.fix]) :: rp 11 (.one, [.junk]) ((.one, [.hole .bool]) :: rp 18 (.one, [.junk]) ([]))⟩))] .o .o), [], bsX⟩
theorem u_maps_count {N : Nat} {a0 : LS} {q : ((List (Int × (Int × (Int × (Int × Int))))) × Unit)} (h : M_maps_count N a0 = some q) : S_maps_count a0 = some q :=
 Sof_of (Q := q_maps_count) (N := N) (n := 3) (f := 120) (tin := i_maps_count) (tout := o_maps_count) (d := (a0, ())) all0 bs_ok (by kernel_rfl) (by kernel_rfl) (by kernel_rfl) (Eq.trans (b := M_maps_count N a0) (by kernel_rfl) h)

noncomputable def M_maps_Put (N : Nat) (l_0 : LB) (l_1 : LS) : Option (LB × Unit) :=
 dS l_1 <| fun l1 =>
 bnd (S_maps_count l1) <| fun p2 =>
 dY l_0 <| fun l3 =>
 qN (vnum (eY l_0)) <|
 qS (encL (.pr tW (.pr tW (.pr tW (.pr tW tI)))) p2.1) <|
 qI (vlen (encL (.pr tW (.pr tW (.pr tW (.pr tW tI)))) p2.1)) <|
 iter (fun (d4 : (LB × (Int × Unit))) again5 =>
  cnd (ltI d4.2.1 (vlen (encL (.pr tW (.pr tW (.pr tW (.pr tW tI)))) p2.1)))
   (chk (leI 0 d4.2.1) <|
   getE (.pr tW (.pr tW (.pr tW (.pr tW tI)))) (encL (.pr tW (.pr tW (.pr tW (.pr tW tI)))) p2.1) (natI d4.2.1) <| fun p6 =>
   dY d4.1 <| fun l7 =>
   qN (vnum (eY d4.1)) <|
   bnd (S_uvar_Put l7 (wrp .u64 p6.2.2.2.2)) <| fun p8 =>
   dY p8.1 <| fun l9 =>
   qN (vnum (eY p8.1)) <|
   bnd (S_uvar_Put l9 p6.1) <| fun p10 =>
   dY p10.1 <| fun l11 =>
   qN (vnum (eY p10.1)) <|
   bnd (S_uvar_Put l11 p6.2.1) <| fun p12 =>
   dY p12.1 <| fun l13 =>
   qN (vnum (eY p12.1)) <|
   bnd (S_uvar_Put l13 p6.2.2.1) <| fun p14 =>
   dY p14.1 <| fun l15 =>
   qN (vnum (eY p14.1)) <|
   bnd (S_uvar_Put l15 p6.2.2.2.1) <| fun p16 =>
   dY p16.1 <| fun l17 =>
   qN (vnum (eY p16.1)) <|
   qS (encL (.pr tW (.pr tW (.pr tW (.pr tW tI)))) p2.1) <|
   qI (vlen (encL (.pr tW (.pr tW (.pr tW (.pr tW tI)))) p2.1)) <|
   again5 (l17, ((wrp .i64 (addI d4.2.1 1)), ())))
   (dY d4.1 <| fun l18 =>
   qN (vnum (eY d4.1)) <|
   some (l18, ()))) N (l3, (0, ()))
noncomputable def q_maps_Put : Lift := ⟨tyX, look2 .todo (α := LoopAs) (.n 65 [(2, (.as ⟨[.dead, .mu 5 1 tY], [], (.one, [.own 1]) :: rp 9 (.one, [.junk]) ((.one, [.fix]) :: (.one, [.fix]) :: (.one, [.hole tI]) :: rp 19 (.one, [.junk]) ([]))⟩)), (6, (.times 5)), (1049152, (.times 0))] .o .o), [c_uvar_Put, c_maps_count], bsX⟩
theorem u_maps_Put {N : Nat} {a0 : LB} {a1 : LS} {q : (LB × Unit)} (h : M_maps_Put N a0 a1 = some q) : S_maps_Put a0 a1 = some q :=
 Sof_of (Q := q_maps_Put) (N := N) (n := 3) (f := 65) (tin := i_maps_Put) (tout := o_maps_Put) (d := (a0, (a1, ()))) (all1 k_uvar_Put (all1 k_maps_count all0)) bs_ok (by kernel_rfl) (by kernel_rfl) (by kernel_rfl) (Eq.trans (b := M_maps_Put N a0 a1) (by kernel_rfl) h)
end Go.Proofs.YtkdnbnkbnegckaaGreat
namespace Go.Proofs.YtkdnbnkbnegckaaGreat
open Go.RowKit
set_option maxRecDepth 100000
set_option linter.unusedVariables false
noncomputable def M_fnc_Put (N : Nat) (l_0 : LB) (l_1 : LB) (b_2 : Bool) (l_3 : LI) (l_4 : LI) (l_5 : LI) (l_6 : LI) (l_7 : LC) (l_8 : LI) (l_9 : LN) (l_10 : LI) (l_11 : LS) : Option (LB × Unit) :=
 dI l_3 <| fun l1 =>
 dI l_4 <| fun l2 =>
 dI l_5 <| fun l3 =>
 dI l_6 <| fun l4 =>
 dC l_7 <| fun l5 =>
 dI l_8 <| fun l6 =>
 dN l_9 <| fun l7 =>
 dI l_10 <| fun l8 =>
 dS l_11 <| fun l9 =>
 bnd (S_fnc_Can l_1 b_2 l1 l2 l3 l4 l5 l6 l7 l8 l9) <| fun p10 =>
 cnd (notB (eqI p10.1 0))
  (dY l_0 <| fun l11 =>
  qN (vnum (eY l_0)) <|
  some (l11, ()))
  (dY l_0 <| fun l12 =>
  qN (vnum (eY l_0)) <|
  bnd (S_uvar_Put l12 (wrp .u64 (slen (ByteArray.mk (Array.mk l_1))))) <| fun p13 =>
  qN (vnum (eY p13.1)) <|
  chk (room (vnum (eY p13.1)) (vnum (encS (ByteArray.mk (Array.mk l_1)))) 1) <|
  dI l_3 <| fun l14 =>
  dI l_4 <| fun l15 =>
  dI l_5 <| fun l16 =>
  dI l_6 <| fun l17 =>
  dC l_7 <| fun l18 =>
  dI l_8 <| fun l19 =>
  dN l_9 <| fun l20 =>
  dI l_10 <| fun l21 =>
  dS l_11 <| fun l22 =>
  bnd (S_fnc_flag l_1 b_2 l14 l15 l16 l17 l18 l19 l20 l21 l22) <| fun p23 =>
  chk (eqN (addN (vnum (eY p13.1)) (vnum (encS (ByteArray.mk (Array.mk l_1))))) (vnum (vapp (eY p13.1) (encS (ByteArray.mk (Array.mk l_1)))))) <|
  chk (room (vnum (vapp (eY p13.1) (encS (ByteArray.mk (Array.mk l_1))))) (vnum (vcut [[(C.v (Go.Value.int .u8 (u8I p23.1)))]] 0 1)) 1) <|
  joinK (δ := (LB × Unit)) (cnd b_2
    (decL tY (vapp (vapp (eY p13.1) (encS (ByteArray.mk (Array.mk l_1)))) (vcut [[(C.v (Go.Value.int .u8 (u8I p23.1)))]] 0 1)) <| fun l24 =>
    chk (eqN (addN (vnum (vapp (eY p13.1) (encS (ByteArray.mk (Array.mk l_1))))) (vnum (vcut [[(C.v (Go.Value.int .u8 (u8I p23.1)))]] 0 1))) (vnum (vapp (vapp (eY p13.1) (encS (ByteArray.mk (Array.mk l_1)))) (vcut [[(C.v (Go.Value.int .u8 (u8I p23.1)))]] 0 1)))) <|
    dI l_3 <| fun l25 =>
    bnd (S_sig_Put l24 l25) <| fun p26 =>
    dY p26.1 <| fun l27 =>
    qB (ByteArray.mk (Array.mk l_1)) <|
    qO b_2 <|
    qS (eI l_3) <|
    qS (eI l_4) <|
    qS (eI l_5) <|
    qS (eI l_6) <|
    qS (eC l_7) <|
    qS (eI l_8) <|
    qS (eN l_9) <|
    qS (eI l_10) <|
    qS (eS l_11) <|
    qN (vnum (eY p26.1)) <|
    leftK (l27, ()))
    (decL tY (vapp (vapp (eY p13.1) (encS (ByteArray.mk (Array.mk l_1)))) (vcut [[(C.v (Go.Value.int .u8 (u8I p23.1)))]] 0 1)) <| fun l28 =>
    qB (ByteArray.mk (Array.mk l_1)) <|
    qO b_2 <|
    qS (eI l_3) <|
    qS (eI l_4) <|
    qS (eI l_5) <|
    qS (eI l_6) <|
    qS (eC l_7) <|
    qS (eI l_8) <|
    qS (eN l_9) <|
    qS (eI l_10) <|
    qS (eS l_11) <|
    chk (eqN (addN (vnum (vapp (eY p13.1) (encS (ByteArray.mk (Array.mk l_1))))) (vnum (vcut [[(C.v (Go.Value.int .u8 (u8I p23.1)))]] 0 1))) (vnum (vapp (vapp (eY p13.1) (encS (ByteArray.mk (Array.mk l_1)))) (vcut [[(C.v (Go.Value.int .u8 (u8I p23.1)))]] 0 1)))) <|
    leftK (l28, ())))
  <| fun p29 =>
  dY p29.1 <| fun l30 =>
  qN (vnum (eY p29.1)) <|
  dI l_4 <| fun l31 =>
  bnd (S_sig_Put l30 l31) <| fun p32 =>
  dY p32.1 <| fun l33 =>
  qN (vnum (eY p32.1)) <|
  dI l_5 <| fun l34 =>
  bnd (S_sig_Put l33 l34) <| fun p35 =>
  dY p35.1 <| fun l36 =>
  qN (vnum (eY p35.1)) <|
  dI l_6 <| fun l37 =>
  bnd (S_sig_Put l36 l37) <| fun p38 =>
  dY p38.1 <| fun l39 =>
  qN (vnum (eY p38.1)) <|
  bnd (S_uvar_Put l39 (wrp .u64 (vlen (eC l_7)))) <| fun p40 =>
  dY p40.1 <| fun l41 =>
  dI l_3 <| fun l42 =>
  dI l_4 <| fun l43 =>
  dI l_5 <| fun l44 =>
  dI l_6 <| fun l45 =>
  dC l_7 <| fun l46 =>
  dI l_8 <| fun l47 =>
  dN l_9 <| fun l48 =>
  dI l_10 <| fun l49 =>
  dS l_11 <| fun l50 =>
  qN (vnum (eY p40.1)) <|
  qS (eC l_7) <|
  qI (vlen (eC l_7)) <|
  iter (fun (d51 : (LB × (LB × (Bool × (LI × (LI × (LI × (LI × (LC × (LI × (LN × (LI × (LS × (Int × Unit)))))))))))))) again52 =>
   cnd (ltI d51.2.2.2.2.2.2.2.2.2.2.2.2.1 (vlen (eC l_7)))
    (chk (leI 0 d51.2.2.2.2.2.2.2.2.2.2.2.2.1) <|
    getE tC (eC l_7) (natI d51.2.2.2.2.2.2.2.2.2.2.2.2.1) <| fun p53 =>
    dY d51.1 <| fun l54 =>
    qN (vnum (eY d51.1)) <|
    bnd (S_instr_Put l54 p53.1 p53.2) <| fun p55 =>
    dY p55.1 <| fun l56 =>
    dI d51.2.2.2.1 <| fun l57 =>
    dI d51.2.2.2.2.1 <| fun l58 =>
    dI d51.2.2.2.2.2.1 <| fun l59 =>
    dI d51.2.2.2.2.2.2.1 <| fun l60 =>
    dC d51.2.2.2.2.2.2.2.1 <| fun l61 =>
    dI d51.2.2.2.2.2.2.2.2.1 <| fun l62 =>
    dN d51.2.2.2.2.2.2.2.2.2.1 <| fun l63 =>
    dI d51.2.2.2.2.2.2.2.2.2.2.1 <| fun l64 =>
    dS d51.2.2.2.2.2.2.2.2.2.2.2.1 <| fun l65 =>
    qN (vnum (eY p55.1)) <|
    qS (eC l_7) <|
    qI (vlen (eC l_7)) <|
    again52 (l56, (d51.2.1, (d51.2.2.1, (l57, (l58, (l59, (l60, (l61, (l62, (l63, (l64, (l65, ((wrp .i64 (addI d51.2.2.2.2.2.2.2.2.2.2.2.2.1 1)), ()))))))))))))))
    (dY d51.1 <| fun l66 =>
    qN (vnum (eY d51.1)) <|
    dI d51.2.2.2.2.2.2.2.2.1 <| fun l67 =>
    bnd (S_lines_Put l66 l67) <| fun p68 =>
    dI d51.2.2.2.1 <| fun l69 =>
    dI d51.2.2.2.2.1 <| fun l70 =>
    dI d51.2.2.2.2.2.1 <| fun l71 =>
    dI d51.2.2.2.2.2.2.1 <| fun l72 =>
    dC d51.2.2.2.2.2.2.2.1 <| fun l73 =>
    dI d51.2.2.2.2.2.2.2.2.1 <| fun l74 =>
    dN d51.2.2.2.2.2.2.2.2.2.1 <| fun l75 =>
    dI d51.2.2.2.2.2.2.2.2.2.2.1 <| fun l76 =>
    dS d51.2.2.2.2.2.2.2.2.2.2.2.1 <| fun l77 =>
    bnd (S_fnc_Bare d51.2.1 d51.2.2.1 l69 l70 l71 l72 l73 l74 l75 l76 l77) <| fun p78 =>
    cnd (notB p78.1)
     (dY p68.1 <| fun l79 =>
     qN (vnum (eY p68.1)) <|
     dN d51.2.2.2.2.2.2.2.2.2.1 <| fun l80 =>
     bnd (S_tree_Put l79 l80) <| fun p81 =>
     dY p81.1 <| fun l82 =>
     qN (vnum (eY p81.1)) <|
     dI d51.2.2.2.2.2.2.2.2.2.2.1 <| fun l83 =>
     bnd (S_runs_Put l82 l83) <| fun p84 =>
     dY p84.1 <| fun l85 =>
     qN (vnum (eY p84.1)) <|
     dS d51.2.2.2.2.2.2.2.2.2.2.2.1 <| fun l86 =>
     bnd (S_maps_Put l85 l86) <| fun p87 =>
     dY p87.1 <| fun l88 =>
     qN (vnum (eY p87.1)) <|
     some (l88, ()))
     (dY p68.1 <| fun l89 =>
     qN (vnum (eY p68.1)) <|
     some (l89, ())))) N (l41, (l_1, (b_2, (l42, (l43, (l44, (l45, (l46, (l47, (l48, (l49, (l50, (0, ()))))))))))))))
noncomputable def q_fnc_Put : Lift := ⟨tyX, look2 .todo (α := LoopAs) (.n 20 [(10, (.as ⟨[.dead, .mu 5 1 tY], [[.hole .str, .hole .bool, .hole (.sl 1 tI), .hole (.sl 1 tI), .hole (.sl 1 tI), .hole (.sl 1 tI), .hole (.sl 2 tC), .hole (.sl 1 tI), .hole (.sl 7 tN), .hole (.sl 1 tI), .hole (.sl 4 tS)]], (.one, [.own 1]) :: (.one, [.junk]) :: (.one, [.junk]) :: (.one, [.stat (.ptr 0 0)]) :: rp 44 (.one, [.junk]) ((.one, [.fix]) :: (.one, [.fix]) :: (.one, [.hole tI]) :: rp 25 (.one, [.junk]) ([]))⟩)), (1012288, (.times 0)), (1028680, (.as ⟨[.dead, .mu 5 1 tY], [[.fix, .fix, .fix, .fix, .fix, .fix, .fix, .fix, .fix, .fix, .fix]], (.one, [.own 1]) :: (.one, [.junk]) :: (.one, [.junk]) :: (.one, [.stat (.ptr 0 0)]) :: rp 72 (.one, [.junk]) ([])⟩)), (1073728, (.times 0))] .o .o), [c_fnc_Bare, c_fnc_Can, c_uvar_Put, c_fnc_flag, c_sig_Put, c_instr_Put, c_runs_Put, c_lines_Put, c_tree_Put, c_maps_Put], bsX⟩
theorem u_fnc_Put {N : Nat} {a0 : LB} {a1 : LB} {a2 : Bool} {a3 : LI} {a4 : LI} {a5 : LI} {a6 : LI} {a7 : LC} {a8 : LI} {a9 : LN} {a10 : LI} {a11 : LS} {q : (LB × Unit)} (h : M_fnc_Put N a0 a1 a2 a3 a4 a5 a6 a7 a8 a9 a10 a11 = some q) : S_fnc_Put a0 a1 a2 a3 a4 a5 a6 a7 a8 a9 a10 a11 = some q :=
 Sof_of (Q := q_fnc_Put) (N := N) (n := 3) (f := 20) (tin := i_fnc_Put) (tout := o_fnc_Put) (d := (a0, (a1, (a2, (a3, (a4, (a5, (a6, (a7, (a8, (a9, (a10, (a11, ()))))))))))))) (all1 k_fnc_Bare (all1 k_fnc_Can (all1 k_uvar_Put (all1 k_fnc_flag (all1 k_sig_Put (all1 k_instr_Put (all1 k_runs_Put (all1 k_lines_Put (all1 k_tree_Put (all1 k_maps_Put all0)))))))))) bs_ok (by kernel_rfl) (by kernel_rfl) (by kernel_rfl) (Eq.trans (b := M_fnc_Put N a0 a1 a2 a3 a4 a5 a6 a7 a8 a9 a10 a11) (by kernel_rfl) h)

end Go.Proofs.YtkdnbnkbnegckaaGreat

