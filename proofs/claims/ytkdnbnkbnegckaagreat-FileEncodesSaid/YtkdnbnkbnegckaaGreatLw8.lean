/- Functions, lifted: what the program comes to by them. -/
import Derived.Test.YtkdnbnkbnegckaaGreatLwA
namespace Go.Proofs.YtkdnbnkbnegckaaGreat
open Go.RowKit
set_option maxRecDepth 100000
set_option linter.unusedVariables false
noncomputable def M_instr_Take (N : Nat) (l_0 : LB) (b_1 : Bool) (n_2 : Int) : Option (LB × (Bool × (Int × (Int × (Int × Unit))))) :=
 dY l_0 <| fun l1 =>
 bnd (S_cursor_Cursor_Byte l1 b_1 n_2) <| fun p2 =>
 joinK (δ := (LB × (Bool × (Int × (Int × (Int × (Int × (Int × Unit)))))))) (cnd (leI 35 (wrp .i64 (u8I p2.2.2.2.1)))
   (dY p2.1 <| fun l3 =>
   bnd (S_cursor_Cursor_Fail l3 p2.2.1 p2.2.2.1 8) <| fun p4 =>
   dY p4.1 <| fun l5 =>
   leftK (l5, (p4.2.1, (p4.2.2.1, (0, (0, ((wrp .i64 (u8I p2.2.2.2.1)), (0, ()))))))))
   (dY p2.1 <| fun l6 =>
   leftK (l6, (p2.2.1, (p2.2.2.1, (0, (0, ((wrp .i64 (u8I p2.2.2.2.1)), (0, ())))))))))
 <| fun p7 =>
 joinK (δ := (LB × (Bool × (Int × (Int × (Int × (Int × (Int × Unit)))))))) (bnd (S_instr_has p7.2.2.2.2.2.1) <| fun p8 =>
  cnd p8.1
   (dY p7.1 <| fun l9 =>
   bnd (S_cursor_Cursor_Int l9 p7.2.1 p7.2.2.1) <| fun p10 =>
   dY p10.1 <| fun l11 =>
   leftK (l11, (p10.2.1, (p10.2.2.1, (p7.2.2.2.1, (p7.2.2.2.2.1, (p7.2.2.2.2.2.1, (p10.2.2.2.1, ()))))))))
   (dY p7.1 <| fun l12 =>
   leftK (l12, (p7.2.1, (p7.2.2.1, (p7.2.2.2.1, (p7.2.2.2.2.1, (p7.2.2.2.2.2.1, (p7.2.2.2.2.2.2.1, ())))))))))
 <| fun p13 =>
 joinK (δ := (LB × (Bool × (Int × (Int × (Int × (Int × (Int × Unit)))))))) (joinK (δ := (LB × (Bool × (Int × (Int × (Int × (Int × (Int × (Bool × Unit))))))))) (dY p13.1 <| fun l14 =>
   bnd (S_cursor_Cursor_Err l14 p13.2.1 p13.2.2.1) <| fun p15 =>
   cnd (eqI p15.2.2.2.1 0)
    (bnd (S_instr_Right p13.2.2.2.2.2.1 p13.2.2.2.2.2.2.1) <| fun p16 =>
    dY p15.1 <| fun l17 =>
    leftK (l17, (p15.2.1, (p15.2.2.1, (p13.2.2.2.1, (p13.2.2.2.2.1, (p13.2.2.2.2.2.1, (p13.2.2.2.2.2.2.1, ((notB p16.1), ())))))))))
    (dY p15.1 <| fun l18 =>
    leftK (l18, (p15.2.1, (p15.2.2.1, (p13.2.2.2.1, (p13.2.2.2.2.1, (p13.2.2.2.2.2.1, (p13.2.2.2.2.2.2.1, (false, ()))))))))))
  <| fun p19 =>
  cnd p19.2.2.2.2.2.2.2.1
   (dY p19.1 <| fun l20 =>
   bnd (S_cursor_Cursor_Fail l20 p19.2.1 p19.2.2.1 2) <| fun p21 =>
   dY p21.1 <| fun l22 =>
   leftK (l22, (p21.2.1, (p21.2.2.1, (p19.2.2.2.1, (p19.2.2.2.2.1, (p19.2.2.2.2.2.1, (p19.2.2.2.2.2.2.1, ()))))))))
   (dY p19.1 <| fun l23 =>
   leftK (l23, (p19.2.1, (p19.2.2.1, (p19.2.2.2.1, (p19.2.2.2.2.1, (p19.2.2.2.2.2.1, (p19.2.2.2.2.2.2.1, ())))))))))
 <| fun p24 =>
 dY p24.1 <| fun l25 =>
 bnd (S_cursor_Cursor_Err l25 p24.2.1 p24.2.2.1) <| fun p26 =>
 cnd (notB (eqI p26.2.2.2.1 0))
  (dY p26.1 <| fun l27 =>
  some (l27, (p26.2.1, (p26.2.2.1, (0, (0, ()))))))
  (dY p26.1 <| fun l28 =>
  some (l28, (p26.2.1, (p26.2.2.1, (p24.2.2.2.2.2.1, (p24.2.2.2.2.2.2.1, ()))))))
noncomputable def q_instr_Take : Lift := ⟨tyX, look2 .todo (α := LoopAs) (.n 97 [(1016389, (.as ⟨[], [[.hole (.sl 1 tY), .hole .bool, .hole tI], [.hole tI, .hole tI], [.hole tI, .hole tI]], (.one, [.stat (.ptr 0 0)]) :: (.one, [.junk]) :: (.one, [.stat (.ptr 1 0)]) :: (.one, [.stat (.ptr 2 0)]) :: rp 30 (.one, [.junk]) ([])⟩)), (1024583, (.as ⟨[], [[.hole (.sl 1 tY), .hole .bool, .hole tI], [.hole tI, .hole tI], [.hole tI, .hole tI]], (.one, [.stat (.ptr 0 0)]) :: (.one, [.junk]) :: (.one, [.stat (.ptr 1 0)]) :: (.one, [.stat (.ptr 2 0)]) :: rp 30 (.one, [.junk]) ([])⟩)), (1028680, (.as ⟨[], [[.hole (.sl 1 tY), .hole .bool, .hole tI], [.hole tI, .hole tI], [.hole tI, .hole tI]], (.one, [.stat (.ptr 0 0)]) :: (.one, [.junk]) :: (.one, [.stat (.ptr 1 0)]) :: (.one, [.stat (.ptr 2 0)]) :: rp 22 (.one, [.junk]) ((.one, [.hole .bool]) :: rp 7 (.one, [.junk]) ([]))⟩)), (1032777, (.as ⟨[], [[.hole (.sl 1 tY), .hole .bool, .hole tI], [.hole tI, .hole tI], [.hole tI, .hole tI]], (.one, [.stat (.ptr 0 0)]) :: (.one, [.junk]) :: (.one, [.stat (.ptr 1 0)]) :: (.one, [.stat (.ptr 2 0)]) :: rp 30 (.one, [.junk]) ([])⟩))] .o .o), [c_cursor_Cursor_Err, c_cursor_Cursor_Fail, c_cursor_Cursor_Byte, c_instr_has, c_cursor_Cursor_Int, c_instr_Right], bsX⟩
theorem u_instr_Take {N : Nat} {a0 : LB} {a1 : Bool} {a2 : Int} {q : (LB × (Bool × (Int × (Int × (Int × Unit)))))} (h : M_instr_Take N a0 a1 a2 = some q) : S_instr_Take a0 a1 a2 = some q :=
 Sof_of (Q := q_instr_Take) (N := N) (n := 3) (f := 97) (tin := i_instr_Take) (tout := o_instr_Take) (d := (a0, (a1, (a2, ())))) (all1 k_cursor_Cursor_Err (all1 k_cursor_Cursor_Fail (all1 k_cursor_Cursor_Byte (all1 k_instr_has (all1 k_cursor_Cursor_Int (all1 k_instr_Right all0)))))) bs_ok (by kernel_rfl) (by kernel_rfl) (by kernel_rfl) (Eq.trans (b := M_instr_Take N a0 a1 a2) (by kernel_rfl) h)

noncomputable def M_runs_run (N : Nat) (l_0 : LB) (b_1 : Bool) (n_2 : Int) (n_3 : Int) : Option (LB × (Bool × (Int × (Int × (Int × (Bool × Unit)))))) :=
 dY l_0 <| fun l1 =>
 bnd (S_cursor_Cursor_Bits l1 b_1 n_2) <| fun p2 =>
 joinK (δ := (LB × (Bool × (Int × (Int × (Int × Unit)))))) (joinK (δ := (LB × (Bool × (Int × (Int × (Int × (Bool × Unit))))))) (dY p2.1 <| fun l3 =>
   bnd (S_cursor_Cursor_Err l3 p2.2.1 p2.2.2.1) <| fun p4 =>
   cnd (eqI p4.2.2.2.1 0)
    (cnd (eqI p2.2.2.2.1 0)
     (dY p4.1 <| fun l5 =>
     qI p2.2.2.2.1 <|
     leftK (l5, (p4.2.1, (p4.2.2.1, (0, (0, (true, ())))))))
     (dY p4.1 <| fun l6 =>
     qI p2.2.2.2.1 <|
     leftK (l6, (p4.2.1, (p4.2.2.1, (0, (0, ((ltI (wrp .u64 n_3) p2.2.2.2.1), ()))))))))
    (dY p4.1 <| fun l7 =>
    qI p2.2.2.2.1 <|
    leftK (l7, (p4.2.1, (p4.2.2.1, (0, (0, (false, ()))))))))
  <| fun p8 =>
  cnd p8.2.2.2.2.2.1
   (dY p8.1 <| fun l9 =>
   bnd (S_cursor_Cursor_Fail l9 p8.2.1 p8.2.2.1 5) <| fun p10 =>
   dY p10.1 <| fun l11 =>
   qI p2.2.2.2.1 <|
   leftK (l11, (p10.2.1, (p10.2.2.1, (p8.2.2.2.1, (p8.2.2.2.2.1, ()))))))
   (dY p8.1 <| fun l12 =>
   qI p2.2.2.2.1 <|
   leftK (l12, (p8.2.1, (p8.2.2.1, (p8.2.2.2.1, (p8.2.2.2.2.1, ())))))))
 <| fun p13 =>
 dY p13.1 <| fun l14 =>
 bnd (S_cursor_Cursor_Int l14 p13.2.1 p13.2.2.1) <| fun p15 =>
 dY p15.1 <| fun l16 =>
 bnd (S_cursor_Cursor_Err l16 p15.2.1 p15.2.2.1) <| fun p17 =>
 dY p17.1 <| fun l18 =>
 some (l18, (p17.2.1, (p17.2.2.1, ((wrp .i64 p2.2.2.2.1), (p15.2.2.2.1, ((eqI p17.2.2.2.1 0), ()))))))
noncomputable def q_runs_run : Lift := ⟨tyX, look2 .todo (α := LoopAs) (.n 146 [(1012292, (.as ⟨[], [[.hole (.sl 1 tY), .hole .bool, .hole tI], [.hole tI, .hole tI]], (.one, [.stat (.ptr 0 0)]) :: (.one, [.junk]) :: (.one, [.junk]) :: (.one, [.junk]) :: (.one, [.stat (.ptr 1 0)]) :: (.one, [.junk]) :: (.one, [.fix]) :: rp 15 (.one, [.junk]) ((.one, [.hole .bool]) :: rp 11 (.one, [.junk]) ([]))⟩)), (1016389, (.as ⟨[], [[.hole (.sl 1 tY), .hole .bool, .hole tI], [.hole tI, .hole tI]], (.one, [.stat (.ptr 0 0)]) :: (.one, [.junk]) :: (.one, [.junk]) :: (.one, [.junk]) :: (.one, [.stat (.ptr 1 0)]) :: (.one, [.junk]) :: (.one, [.fix]) :: rp 27 (.one, [.junk]) ([])⟩))] .o .o), [c_cursor_Cursor_Err, c_cursor_Cursor_Fail, c_cursor_Cursor_Bits, c_cursor_Cursor_Int], bsX⟩
theorem u_runs_run {N : Nat} {a0 : LB} {a1 : Bool} {a2 : Int} {a3 : Int} {q : (LB × (Bool × (Int × (Int × (Int × (Bool × Unit))))))} (h : M_runs_run N a0 a1 a2 a3 = some q) : S_runs_run a0 a1 a2 a3 = some q :=
 Sof_of (Q := q_runs_run) (N := N) (n := 3) (f := 146) (tin := i_runs_run) (tout := o_runs_run) (d := (a0, (a1, (a2, (a3, ()))))) (all1 k_cursor_Cursor_Err (all1 k_cursor_Cursor_Fail (all1 k_cursor_Cursor_Bits (all1 k_cursor_Cursor_Int all0)))) bs_ok (by kernel_rfl) (by kernel_rfl) (by kernel_rfl) (Eq.trans (b := M_runs_run N a0 a1 a2 a3) (by kernel_rfl) h)

noncomputable def M_runs_Take (N : Nat) (l_0 : LB) (b_1 : Bool) (n_2 : Int) (n_3 : Int) (n_4 : Int) (n_5 : Int) : Option (LB × (Bool × (Int × (LI × Unit)))) :=
 decL tI [] <| fun l1 =>
 dY l_0 <| fun l2 =>
 qI n_3 <|
 qI n_4 <|
 qI n_5 <|
 iter (fun (d3 : (LI × (LB × (Bool × (Int × Unit))))) again4 =>
  chk (leN (addN 0 (vnum (eI d3.1))) (vnum (eI d3.1))) <|
  cnd (ltI (vlen (vcut (eI d3.1) 0 (vnum (eI d3.1)))) n_3)
   (chk (leN (addN 0 (vnum (eI d3.1))) (vnum (eI d3.1))) <|
   dY d3.2.1 <| fun l5 =>
   bnd (S_runs_run l5 d3.2.2.1 d3.2.2.2.1 (wrp .i64 (subI n_3 (vlen (vcut (eI d3.1) 0 (vnum (eI d3.1))))))) <| fun p6 =>
   chk (leN (addN 0 (vnum (eI d3.1))) (vnum (eI d3.1))) <|
   cnd (notB p6.2.2.2.2.2.1)
    (dY p6.1 <| fun l7 =>
    decL tI [] <| fun l8 =>
    some (l7, (p6.2.1, (p6.2.2.1, (l8, ())))))
    (joinK (δ := (LI × (Bool × Unit))) (cnd (ltI 0 (vlen (vcut (eI d3.1) 0 (vnum (eI d3.1)))))
      (chk (leI 0 (wrp .i64 (subI (vlen (vcut (eI d3.1) 0 (vnum (eI d3.1)))) 1))) <|
      chk (ltI (wrp .i64 (subI (vlen (vcut (eI d3.1) 0 (vnum (eI d3.1)))) 1)) (Int.ofNat (vnum (eI d3.1)))) <|
      chk (leN (addN 0 (vnum (eI d3.1))) (vnum (eI d3.1))) <|
      getE tI (eI d3.1) (addN 0 (natI (wrp .i64 (subI (vlen (vcut (eI d3.1) 0 (vnum (eI d3.1)))) 1)))) <| fun n9 =>
      dI d3.1 <| fun l10 =>
      qS (eY p6.1) <|
      qO p6.2.1 <|
      qI p6.2.2.1 <|
      qI p6.2.2.2.1 <|
      qI p6.2.2.2.2.1 <|
      qI n_3 <|
      qI n_4 <|
      qI n_5 <|
      qN (vnum (eI d3.1)) <|
      leftK (l10, ((eqI n9 p6.2.2.2.2.1), ())))
      (dI d3.1 <| fun l11 =>
      qS (eY p6.1) <|
      qO p6.2.1 <|
      qI p6.2.2.1 <|
      qI p6.2.2.2.1 <|
      qI p6.2.2.2.2.1 <|
      qI n_3 <|
      qI n_4 <|
      qI n_5 <|
      qN (vnum (eI d3.1)) <|
      leftK (l11, (false, ()))))
    <| fun p12 =>
    cnd p12.2.1
     (dY p6.1 <| fun l13 =>
     bnd (S_cursor_Cursor_Fail l13 p6.2.1 p6.2.2.1 5) <| fun p14 =>
     dY p14.1 <| fun l15 =>
     decL tI [] <| fun l16 =>
     some (l15, (p14.2.1, (p14.2.2.1, (l16, ())))))
     (joinK (δ := (LI × (Bool × Unit))) (cnd (ltI p6.2.2.2.2.1 n_4)
       (dI p12.1 <| fun l17 =>
       qS (eY p6.1) <|
       qO p6.2.1 <|
       qI p6.2.2.1 <|
       qI p6.2.2.2.1 <|
       qI p6.2.2.2.2.1 <|
       qI n_3 <|
       qI n_4 <|
       qI n_5 <|
       qN (vnum (eI p12.1)) <|
       leftK (l17, (true, ())))
       (dI p12.1 <| fun l18 =>
       qS (eY p6.1) <|
       qO p6.2.1 <|
       qI p6.2.2.1 <|
       qI p6.2.2.2.1 <|
       qI p6.2.2.2.2.1 <|
       qI n_3 <|
       qI n_4 <|
       qI n_5 <|
       qN (vnum (eI p12.1)) <|
       leftK (l18, ((ltI n_5 p6.2.2.2.2.1), ()))))
     <| fun p19 =>
     cnd p19.2.1
      (dY p6.1 <| fun l20 =>
      bnd (S_cursor_Cursor_Fail l20 p6.2.1 p6.2.2.1 2) <| fun p21 =>
      dY p21.1 <| fun l22 =>
      decL tI [] <| fun l23 =>
      some (l22, (p21.2.1, (p21.2.2.1, (l23, ())))))
      (dI p19.1 <| fun l24 =>
      qS (eY p6.1) <|
      qO p6.2.1 <|
      qI p6.2.2.1 <|
      qI p6.2.2.2.1 <|
      qI p6.2.2.2.2.1 <|
      qI n_3 <|
      qI n_4 <|
      qI n_5 <|
      qN (vnum (eI p19.1)) <|
      qI p6.2.2.2.1 <|
      iter (fun (d25 : (LI × (Int × Unit))) again26 =>
       cnd (ltI d25.2.1 p6.2.2.2.1)
        (qN (vnum (eI d25.1)) <|
        chk (room (vnum (eI d25.1)) (vnum (vcut [[(C.v (Go.Value.int .i64 p6.2.2.2.2.1))]] 0 1)) 8) <|
        decL tI (vapp (eI d25.1) (vcut [[(C.v (Go.Value.int .i64 p6.2.2.2.2.1))]] 0 1)) <| fun l27 =>
        qS (eY p6.1) <|
        qO p6.2.1 <|
        qI p6.2.2.1 <|
        qI p6.2.2.2.1 <|
        qI p6.2.2.2.2.1 <|
        qI n_3 <|
        qI n_4 <|
        qI n_5 <|
        chk (eqN (addN (vnum (eI d25.1)) (vnum (vcut [[(C.v (Go.Value.int .i64 p6.2.2.2.2.1))]] 0 1))) (vnum (vapp (eI d25.1) (vcut [[(C.v (Go.Value.int .i64 p6.2.2.2.2.1))]] 0 1)))) <|
        qI p6.2.2.2.1 <|
        again26 (l27, ((wrp .i64 (addI d25.2.1 1)), ())))
        (dI d25.1 <| fun l28 =>
        dY p6.1 <| fun l29 =>
        qI n_3 <|
        qI n_4 <|
        qI n_5 <|
        qN (vnum (eI d25.1)) <|
        again4 (l28, (l29, (p6.2.1, (p6.2.2.1, ())))))) N (l24, (0, ()))))))
   (dY d3.2.1 <| fun l30 =>
   bnd (S_cursor_Cursor_Err l30 d3.2.2.1 d3.2.2.2.1) <| fun p31 =>
   cnd (notB (eqI p31.2.2.2.1 0))
    (dY p31.1 <| fun l32 =>
    decL tI [] <| fun l33 =>
    some (l32, (p31.2.1, (p31.2.2.1, (l33, ())))))
    (chk (leN (addN 0 (vnum (eI d3.1))) (vnum (eI d3.1))) <|
    dY p31.1 <| fun l34 =>
    decL tI (vcut (eI d3.1) 0 (vnum (eI d3.1))) <| fun l35 =>
    some (l34, (p31.2.1, (p31.2.2.1, (l35, ()))))))) N (l1, (l2, (b_1, (n_2, ()))))
noncomputable def q_runs_Take : Lift := ⟨tyX, look2 .todo (α := LoopAs) (.n 100 [(2, (.as ⟨[.mu 3 1 tI], [[.hole (.sl 1 tY), .hole .bool, .hole tI]], (.one, [.stat (.ptr 0 0)]) :: (.one, [.fix]) :: (.one, [.fix]) :: (.one, [.fix]) :: rp 5 (.one, [.junk]) ((.one, [.own 0]) :: rp 63 (.one, [.junk]) ([]))⟩)), (14, (.as ⟨[.mu 3 1 tI], [[.fix, .fix, .fix], [.fix, .fix]], (.one, [.stat (.ptr 0 0)]) :: (.one, [.fix]) :: (.one, [.fix]) :: (.one, [.fix]) :: rp 5 (.one, [.junk]) ((.one, [.own 0]) :: (.one, [.stat (.ptr 1 0)]) :: rp 49 (.one, [.junk]) ((.one, [.fix]) :: (.one, [.hole tI]) :: rp 11 (.one, [.junk]) ([])))⟩)), (1032777, (.as ⟨[.mu 3 1 tI], [[.fix, .fix, .fix], [.fix, .fix]], (.one, [.stat (.ptr 0 0)]) :: (.one, [.fix]) :: (.one, [.fix]) :: (.one, [.fix]) :: rp 5 (.one, [.junk]) ((.one, [.own 0]) :: (.one, [.stat (.ptr 1 0)]) :: rp 20 (.one, [.junk]) ((.one, [.hole .bool]) :: rp 41 (.one, [.junk]) ([])))⟩)), (1045068, (.as ⟨[.mu 3 1 tI], [[.fix, .fix, .fix], [.fix, .fix]], (.one, [.stat (.ptr 0 0)]) :: (.one, [.fix]) :: (.one, [.fix]) :: (.one, [.fix]) :: rp 5 (.one, [.junk]) ((.one, [.own 0]) :: (.one, [.stat (.ptr 1 0)]) :: rp 35 (.one, [.junk]) ((.one, [.hole .bool]) :: rp 26 (.one, [.junk]) ([])))⟩))] .o .o), [c_cursor_Cursor_Err, c_cursor_Cursor_Fail, c_runs_run], bsX⟩
theorem u_runs_Take {N : Nat} {a0 : LB} {a1 : Bool} {a2 : Int} {a3 : Int} {a4 : Int} {a5 : Int} {q : (LB × (Bool × (Int × (LI × Unit))))} (h : M_runs_Take N a0 a1 a2 a3 a4 a5 = some q) : S_runs_Take a0 a1 a2 a3 a4 a5 = some q :=
 Sof_of (Q := q_runs_Take) (N := N) (n := 3) (f := 100) (tin := i_runs_Take) (tout := o_runs_Take) (d := (a0, (a1, (a2, (a3, (a4, (a5, ()))))))) (all1 k_cursor_Cursor_Err (all1 k_cursor_Cursor_Fail (all1 k_runs_run all0))) bs_ok (by kernel_rfl) (by kernel_rfl) (by kernel_rfl) (Eq.trans (b := M_runs_Take N a0 a1 a2 a3 a4 a5) (by kernel_rfl) h)

noncomputable def M_lines_Take (N : Nat) (l_0 : LB) (b_1 : Bool) (n_2 : Int) (n_3 : Int) : Option (LB × (Bool × (Int × (LI × Unit)))) :=
 dY l_0 <| fun l1 =>
 bnd (S_runs_Take l1 b_1 n_2 n_3 0 65535) <| fun p2 =>
 dY p2.1 <| fun l3 =>
 dI p2.2.2.2.1 <| fun l4 =>
 some (l3, (p2.2.1, (p2.2.2.1, (l4, ()))))
noncomputable def q_lines_Take : Lift := ⟨tyX, look2 .todo (α := LoopAs) (.o), [c_runs_Take], bsX⟩
theorem u_lines_Take {N : Nat} {a0 : LB} {a1 : Bool} {a2 : Int} {a3 : Int} {q : (LB × (Bool × (Int × (LI × Unit))))} (h : M_lines_Take N a0 a1 a2 a3 = some q) : S_lines_Take a0 a1 a2 a3 = some q :=
 Sof_of (Q := q_lines_Take) (N := N) (n := 3) (f := 98) (tin := i_lines_Take) (tout := o_lines_Take) (d := (a0, (a1, (a2, (a3, ()))))) (all1 k_runs_Take all0) bs_ok (by kernel_rfl) (by kernel_rfl) (by kernel_rfl) (Eq.trans (b := M_lines_Take N a0 a1 a2 a3) (by kernel_rfl) h)

noncomputable def M_fnc_reader_code (N : Nat) (l_0 : LB) (b_1 : Bool) (l_2 : LI) (l_3 : LI) (l_4 : LI) (l_5 : LI) (l_6 : LI) (l_7 : LN) (l_8 : LI) (l_9 : LS) (x_10 : UInt8) (n_11 : Int) (l_12 : LB) (b_13 : Bool) (n_14 : Int) : Option (LC × (LB × (Bool × (LI × (LI × (LI × (LI × (LI × (LN × (LI × (LS × (UInt8 × (Int × (LB × (Bool × (Int × Unit)))))))))))))))) :=
 dY l_12 <| fun l1 =>
 bnd (S_cursor_Cursor_Num l1 b_13 n_14 2000) <| fun p2 =>
 dI l_2 <| fun l3 =>
 dI l_3 <| fun l4 =>
 dI l_4 <| fun l5 =>
 dI l_5 <| fun l6 =>
 dI l_6 <| fun l7 =>
 dN l_7 <| fun l8 =>
 dI l_8 <| fun l9 =>
 dS l_9 <| fun l10 =>
 chk (inU8 (u8I x_10)) <|
 dY p2.1 <| fun l11 =>
 bnd (S_fnc_reader_ask l_0 b_1 l3 l4 l5 l6 l7 l8 l9 l10 (toU8 (u8I x_10)) p2.2.2.2.1 l11 p2.2.1 p2.2.2.1 (ltI 0 p2.2.2.2.1) 6) <| fun p12 =>
 decL tC [] <| fun l13 =>
 dI p12.2.2.1 <| fun l14 =>
 dI p12.2.2.2.1 <| fun l15 =>
 dI p12.2.2.2.2.1 <| fun l16 =>
 dI p12.2.2.2.2.2.1 <| fun l17 =>
 dI p12.2.2.2.2.2.2.1 <| fun l18 =>
 dN p12.2.2.2.2.2.2.2.1 <| fun l19 =>
 dI p12.2.2.2.2.2.2.2.2.1 <| fun l20 =>
 dS p12.2.2.2.2.2.2.2.2.2.1 <| fun l21 =>
 chk (inU8 (u8I p12.2.2.2.2.2.2.2.2.2.2.1)) <|
 dY p12.2.2.2.2.2.2.2.2.2.2.2.2.1 <| fun l22 =>
 qI p12.2.2.2.2.2.2.2.2.2.2.2.1 <|
 iter (fun (d23 : (LC × (LB × (Bool × (LI × (LI × (LI × (LI × (LI × (LN × (LI × (LS × (UInt8 × (Int × (LB × (Bool × (Int × (Int × Unit)))))))))))))))))) again24 =>
  cnd (ltI d23.2.2.2.2.2.2.2.2.2.2.2.2.2.2.2.2.1 p12.2.2.2.2.2.2.2.2.2.2.2.1)
   (dY d23.2.2.2.2.2.2.2.2.2.2.2.2.2.1 <| fun l25 =>
   bnd (S_instr_Take l25 d23.2.2.2.2.2.2.2.2.2.2.2.2.2.2.1 d23.2.2.2.2.2.2.2.2.2.2.2.2.2.2.2.1) <| fun p26 =>
   qN (vnum (eC d23.1)) <|
   chk (room (vnum (eC d23.1)) (vnum (vcut [[(C.v (Go.Value.int .i64 p26.2.2.2.1)), (C.v (Go.Value.int .i64 p26.2.2.2.2.1))]] 0 1)) 16) <|
   decL tC (vapp (eC d23.1) (vcut [[(C.v (Go.Value.int .i64 p26.2.2.2.1)), (C.v (Go.Value.int .i64 p26.2.2.2.2.1))]] 0 1)) <| fun l27 =>
   dI d23.2.2.2.1 <| fun l28 =>
   dI d23.2.2.2.2.1 <| fun l29 =>
   dI d23.2.2.2.2.2.1 <| fun l30 =>
   dI d23.2.2.2.2.2.2.1 <| fun l31 =>
   chk (eqN (addN (vnum (eC d23.1)) (vnum (vcut [[(C.v (Go.Value.int .i64 p26.2.2.2.1)), (C.v (Go.Value.int .i64 p26.2.2.2.2.1))]] 0 1))) (vnum (vapp (eC d23.1) (vcut [[(C.v (Go.Value.int .i64 p26.2.2.2.1)), (C.v (Go.Value.int .i64 p26.2.2.2.2.1))]] 0 1)))) <|
   dI d23.2.2.2.2.2.2.2.1 <| fun l32 =>
   dN d23.2.2.2.2.2.2.2.2.1 <| fun l33 =>
   dI d23.2.2.2.2.2.2.2.2.2.1 <| fun l34 =>
   dS d23.2.2.2.2.2.2.2.2.2.2.1 <| fun l35 =>
   chk (inU8 (u8I d23.2.2.2.2.2.2.2.2.2.2.2.1)) <|
   dY p26.1 <| fun l36 =>
   qI p12.2.2.2.2.2.2.2.2.2.2.2.1 <|
   again24 (l27, (d23.2.1, (d23.2.2.1, (l28, (l29, (l30, (l31, (l32, (l33, (l34, (l35, ((toU8 (u8I d23.2.2.2.2.2.2.2.2.2.2.2.1)), (d23.2.2.2.2.2.2.2.2.2.2.2.2.1, (l36, (p26.2.1, (p26.2.2.1, ((wrp .i64 (addI d23.2.2.2.2.2.2.2.2.2.2.2.2.2.2.2.2.1 1)), ()))))))))))))))))))
   (dY d23.2.2.2.2.2.2.2.2.2.2.2.2.2.1 <| fun l37 =>
   bnd (S_lines_Take l37 d23.2.2.2.2.2.2.2.2.2.2.2.2.2.2.1 d23.2.2.2.2.2.2.2.2.2.2.2.2.2.2.2.1 d23.2.2.2.2.2.2.2.2.2.2.2.2.1) <| fun p38 =>
   dC d23.1 <| fun l39 =>
   dI d23.2.2.2.1 <| fun l40 =>
   dI d23.2.2.2.2.1 <| fun l41 =>
   dI d23.2.2.2.2.2.1 <| fun l42 =>
   dI d23.2.2.2.2.2.2.1 <| fun l43 =>
   qN (vnum (eC d23.1)) <|
   dI p38.2.2.2.1 <| fun l44 =>
   dN d23.2.2.2.2.2.2.2.2.1 <| fun l45 =>
   dI d23.2.2.2.2.2.2.2.2.2.1 <| fun l46 =>
   dS d23.2.2.2.2.2.2.2.2.2.2.1 <| fun l47 =>
   chk (inU8 (u8I d23.2.2.2.2.2.2.2.2.2.2.2.1)) <|
   dY p38.1 <| fun l48 =>
   some (l39, (d23.2.1, (d23.2.2.1, (l40, (l41, (l42, (l43, (l44, (l45, (l46, (l47, ((toU8 (u8I d23.2.2.2.2.2.2.2.2.2.2.2.1)), (d23.2.2.2.2.2.2.2.2.2.2.2.2.1, (l48, (p38.2.1, (p38.2.2.1, ())))))))))))))))))) N (l13, (p12.1, (p12.2.1, (l14, (l15, (l16, (l17, (l18, (l19, (l20, (l21, ((toU8 (u8I p12.2.2.2.2.2.2.2.2.2.2.1)), (p12.2.2.2.2.2.2.2.2.2.2.2.1, (l22, (p12.2.2.2.2.2.2.2.2.2.2.2.2.2.1, (p12.2.2.2.2.2.2.2.2.2.2.2.2.2.2.1, (0, ())))))))))))))))))
noncomputable def q_fnc_reader_code : Lift := ⟨tyX, look2 .todo (α := LoopAs) (.n 51 [(3, (.as ⟨[.mu 78 2 tC], [[.stat (.ptr 1 0), .hole .str, .hole .bool, .hole (.sl 1 tI), .hole (.sl 1 tI), .hole (.sl 1 tI), .hole (.sl 1 tI), .own 0, .hole (.sl 1 tI), .hole (.sl 7 tN), .hole (.sl 1 tI), .hole (.sl 4 tS), .hole tY, .hole tI], [.hole (.sl 1 tY), .hole .bool, .hole tI]], (.one, [.stat (.ptr 0 0)]) :: rp 19 (.one, [.junk]) ((.one, [.fix]) :: (.one, [.hole tI]) :: rp 31 (.one, [.junk]) ([]))⟩))] .o .o), [c_cursor_Cursor_Num, c_fnc_reader_ask, c_instr_Take, c_lines_Take], bsX⟩
theorem u_fnc_reader_code {N : Nat} {a0 : LB} {a1 : Bool} {a2 : LI} {a3 : LI} {a4 : LI} {a5 : LI} {a6 : LI} {a7 : LN} {a8 : LI} {a9 : LS} {a10 : UInt8} {a11 : Int} {a12 : LB} {a13 : Bool} {a14 : Int} {q : (LC × (LB × (Bool × (LI × (LI × (LI × (LI × (LI × (LN × (LI × (LS × (UInt8 × (Int × (LB × (Bool × (Int × Unit))))))))))))))))} (h : M_fnc_reader_code N a0 a1 a2 a3 a4 a5 a6 a7 a8 a9 a10 a11 a12 a13 a14 = some q) : S_fnc_reader_code a0 a1 a2 a3 a4 a5 a6 a7 a8 a9 a10 a11 a12 a13 a14 = some q :=
 Sof_of (Q := q_fnc_reader_code) (N := N) (n := 3) (f := 51) (tin := i_fnc_reader_code) (tout := o_fnc_reader_code) (d := (a0, (a1, (a2, (a3, (a4, (a5, (a6, (a7, (a8, (a9, (a10, (a11, (a12, (a13, (a14, ())))))))))))))))) (all1 k_cursor_Cursor_Num (all1 k_fnc_reader_ask (all1 k_instr_Take (all1 k_lines_Take all0)))) bs_ok (by kernel_rfl) (by kernel_rfl) (by kernel_rfl) (Eq.trans (b := M_fnc_reader_code N a0 a1 a2 a3 a4 a5 a6 a7 a8 a9 a10 a11 a12 a13 a14) (by kernel_rfl) h)

noncomputable def M_tree_take (N : Nat) (l_0 : LB) (b_1 : Bool) (n_2 : Int) : Option (LB × (Bool × (Int × (Int × (Int × (Int × (Int × (Int × (Int × (Int × Unit)))))))))) :=
 dY l_0 <| fun l1 =>
 bnd (S_cursor_Cursor_Int l1 b_1 n_2) <| fun p2 =>
 dY p2.1 <| fun l3 =>
 bnd (S_cursor_Cursor_Int l3 p2.2.1 p2.2.2.1) <| fun p4 =>
 dY p4.1 <| fun l5 =>
 bnd (S_cursor_Cursor_Int l5 p4.2.1 p4.2.2.1) <| fun p6 =>
 dY p6.1 <| fun l7 =>
 bnd (S_cursor_Cursor_Int l7 p6.2.1 p6.2.2.1) <| fun p8 =>
 dY p8.1 <| fun l9 =>
 bnd (S_cursor_Cursor_Int l9 p8.2.1 p8.2.2.1) <| fun p10 =>
 dY p10.1 <| fun l11 =>
 bnd (S_cursor_Cursor_Int l11 p10.2.1 p10.2.2.1) <| fun p12 =>
 dY p12.1 <| fun l13 =>
 bnd (S_cursor_Cursor_Int l13 p12.2.1 p12.2.2.1) <| fun p14 =>
 dY p14.1 <| fun l15 =>
 some (l15, (p14.2.1, (p14.2.2.1, (p2.2.2.2.1, (p4.2.2.2.1, (p6.2.2.2.1, (p8.2.2.2.1, (p10.2.2.2.1, (p12.2.2.2.1, (p14.2.2.2.1, ()))))))))))
noncomputable def q_tree_take : Lift := ⟨tyX, look2 .todo (α := LoopAs) (.n 144 [(3, (.times 8))] .o .o), [c_cursor_Cursor_Int], bsX⟩
theorem u_tree_take {N : Nat} {a0 : LB} {a1 : Bool} {a2 : Int} {q : (LB × (Bool × (Int × (Int × (Int × (Int × (Int × (Int × (Int × (Int × Unit))))))))))} (h : M_tree_take N a0 a1 a2 = some q) : S_tree_take a0 a1 a2 = some q :=
 Sof_of (Q := q_tree_take) (N := N) (n := 3) (f := 144) (tin := i_tree_take) (tout := o_tree_take) (d := (a0, (a1, (a2, ())))) (all1 k_cursor_Cursor_Int all0) bs_ok (by kernel_rfl) (by kernel_rfl) (by kernel_rfl) (Eq.trans (b := M_tree_take N a0 a1 a2) (by kernel_rfl) h)

noncomputable def M_tree_within (N : Nat) (n_0 : Int) (n_1 : Int) (n_2 : Int) : Option (Bool × Unit) :=
 cnd (leI n_1 n_0)
  (some ((leI n_0 n_2), ()))
  (some (false, ()))
noncomputable def q_tree_within : Lift := ⟨tyX, look2 .todo (α := LoopAs) (.o), [], bsX⟩
theorem u_tree_within {N : Nat} {a0 : Int} {a1 : Int} {a2 : Int} {q : (Bool × Unit)} (h : M_tree_within N a0 a1 a2 = some q) : S_tree_within a0 a1 a2 = some q :=
 Sof_of (Q := q_tree_within) (N := N) (n := 3) (f := 172) (tin := i_tree_within) (tout := o_tree_within) (d := (a0, (a1, (a2, ())))) all0 bs_ok (by kernel_rfl) (by kernel_rfl) (by kernel_rfl) (Eq.trans (b := M_tree_within N a0 a1 a2) (by kernel_rfl) h)

noncomputable def M_tree_may (N : Nat) (n_0 : Int) (n_1 : Int) (n_2 : Int) (n_3 : Int) (n_4 : Int) (n_5 : Int) (n_6 : Int) (n_7 : Int) (n_8 : Int) : Option (Bool × Unit) :=
 joinK (δ := Unit) (bnd (S_tree_within n_1 0 39) <| fun p1 =>
  cnd (notB p1.1)
   (rightK <| some (false, ()))
   (bnd (S_tree_within n_2 0 65535) <| fun p2 =>
   cnd (notB p2.1)
    (rightK <| some (false, ()))
    (bnd (S_tree_within n_4 0 8) <| fun p3 =>
    cnd (notB p3.1)
     (rightK <| some (false, ()))
     (qI n_0 <|
     qI n_1 <|
     qI n_2 <|
     qI n_3 <|
     qI n_4 <|
     qI n_5 <|
     qI n_6 <|
     qI n_7 <|
     qI n_8 <|
     leftK ()))))
 <| fun x4 =>
 joinK (δ := Unit) (bnd (S_tree_within n_3 n_8 256) <| fun p5 =>
  cnd (notB p5.1)
   (rightK <| some (false, ()))
   (bnd (S_tree_within n_5 (wrp .i64 (addI n_3 n_4)) 256) <| fun p6 =>
   cnd (notB p6.1)
    (rightK <| some (false, ()))
    (qI n_0 <|
    qI n_1 <|
    qI n_2 <|
    qI n_3 <|
    qI n_4 <|
    qI n_5 <|
    qI n_6 <|
    qI n_7 <|
    leftK ())))
 <| fun x7 =>
 cnd (eqI n_7 0)
  (some ((eqL [n_0, n_1, n_2, n_3, n_4, n_5, n_6] [(-1), n_1, 0, 0, n_4, n_5, 0]), ()))
  (bnd (S_tree_within n_0 0 (wrp .i64 (subI n_7 1))) <| fun p8 =>
  cnd p8.1
   (bnd (S_tree_within n_6 1 1999) <| fun p9 =>
   some (p9.1, ()))
   (some (false, ())))
noncomputable def q_tree_may : Lift := ⟨tyX, look2 .todo (α := LoopAs) (.n 164 [(1012292, (.as ⟨[], [[.fix, .fix, .fix, .fix, .fix, .fix, .fix]], (.one, [.junk]) :: (.one, [.fix]) :: (.one, [.fix]) :: (.one, [.stat (.ptr 0 0)]) :: rp 56 (.one, [.junk]) ([])⟩)), (1020486, (.as ⟨[], [[.fix, .fix, .fix, .fix, .fix, .fix, .fix]], (.one, [.junk]) :: (.one, [.fix]) :: (.one, [.junk]) :: (.one, [.stat (.ptr 0 0)]) :: rp 56 (.one, [.junk]) ([])⟩))] .o .o), [c_tree_within], bsX⟩
theorem u_tree_may {N : Nat} {a0 : Int} {a1 : Int} {a2 : Int} {a3 : Int} {a4 : Int} {a5 : Int} {a6 : Int} {a7 : Int} {a8 : Int} {q : (Bool × Unit)} (h : M_tree_may N a0 a1 a2 a3 a4 a5 a6 a7 a8 = some q) : S_tree_may a0 a1 a2 a3 a4 a5 a6 a7 a8 = some q :=
 Sof_of (Q := q_tree_may) (N := N) (n := 3) (f := 164) (tin := i_tree_may) (tout := o_tree_may) (d := (a0, (a1, (a2, (a3, (a4, (a5, (a6, (a7, (a8, ())))))))))) (all1 k_tree_within all0) bs_ok (by kernel_rfl) (by kernel_rfl) (by kernel_rfl) (Eq.trans (b := M_tree_may N a0 a1 a2 a3 a4 a5 a6 a7 a8) (by kernel_rfl) h)
end Go.Proofs.YtkdnbnkbnegckaaGreat
