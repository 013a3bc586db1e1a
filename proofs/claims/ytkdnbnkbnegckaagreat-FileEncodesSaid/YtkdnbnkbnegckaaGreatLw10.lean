/- Functions, lifted: what the program comes to by them. -/
import Derived.Test.YtkdnbnkbnegckaaGreatLwA
namespace Go.Proofs.YtkdnbnkbnegckaaGreat
open Go.RowKit
set_option maxRecDepth 100000
set_option linter.unusedVariables false
noncomputable def M_maps_take (N : Nat) (l_0 : LB) (b_1 : Bool) (n_2 : Int) (n_3 : Int) (n_4 : Int) (n_5 : Int) (n_6 : Int) (n_7 : Int) (n_8 : Int) (n_9 : Int) : Option (LB × (Bool × (Int × (Int × (Int × (Int × (Int × (Int × Unit)))))))) :=
 dY l_0 <| fun l1 =>
 bnd (S_cursor_Cursor_Bits l1 b_1 n_2) <| fun p2 =>
 joinK (δ := (LB × (Bool × (Int × (Int × (Int × (Int × (Int × (Int × (Int × (Int × (Int × (Int × (Int × Unit)))))))))))))) (joinK (δ := (LB × (Bool × (Int × (Int × (Int × (Int × (Int × (Int × (Int × (Int × (Int × (Int × (Int × (Bool × Unit))))))))))))))) (dY p2.1 <| fun l3 =>
   bnd (S_cursor_Cursor_Err l3 p2.2.1 p2.2.2.1) <| fun p4 =>
   cnd (eqI p4.2.2.2.1 0)
    (cnd (eqI p2.2.2.2.1 0)
     (dY p4.1 <| fun l5 =>
     qI n_4 <|
     qI p2.2.2.2.1 <|
     leftK (l5, (p4.2.1, (p4.2.2.1, (n_5, (n_6, (n_7, (n_8, (n_9, (0, (0, (0, (0, (0, (true, ())))))))))))))))
     (dY p4.1 <| fun l6 =>
     qI n_4 <|
     qI p2.2.2.2.1 <|
     leftK (l6, (p4.2.1, (p4.2.2.1, (n_5, (n_6, (n_7, (n_8, (n_9, (0, (0, (0, (0, (0, ((ltI (wrp .u64 n_3) p2.2.2.2.1), ()))))))))))))))))
    (dY p4.1 <| fun l7 =>
    qI n_4 <|
    qI p2.2.2.2.1 <|
    leftK (l7, (p4.2.1, (p4.2.2.1, (n_5, (n_6, (n_7, (n_8, (n_9, (0, (0, (0, (0, (0, (false, ()))))))))))))))))
  <| fun p8 =>
  cnd p8.2.2.2.2.2.2.2.2.2.2.2.2.2.1
   (dY p8.1 <| fun l9 =>
   bnd (S_cursor_Cursor_Fail l9 p8.2.1 p8.2.2.1 5) <| fun p10 =>
   dY p10.1 <| fun l11 =>
   qI n_4 <|
   qI p2.2.2.2.1 <|
   leftK (l11, (p10.2.1, (p10.2.2.1, (p8.2.2.2.1, (p8.2.2.2.2.1, (p8.2.2.2.2.2.1, (p8.2.2.2.2.2.2.1, (p8.2.2.2.2.2.2.2.1, (p8.2.2.2.2.2.2.2.2.1, (p8.2.2.2.2.2.2.2.2.2.1, (p8.2.2.2.2.2.2.2.2.2.2.1, (p8.2.2.2.2.2.2.2.2.2.2.2.1, (p8.2.2.2.2.2.2.2.2.2.2.2.2.1, ()))))))))))))))
   (dY p8.1 <| fun l12 =>
   qI n_4 <|
   qI p2.2.2.2.1 <|
   leftK (l12, (p8.2.1, (p8.2.2.1, (p8.2.2.2.1, (p8.2.2.2.2.1, (p8.2.2.2.2.2.1, (p8.2.2.2.2.2.2.1, (p8.2.2.2.2.2.2.2.1, (p8.2.2.2.2.2.2.2.2.1, (p8.2.2.2.2.2.2.2.2.2.1, (p8.2.2.2.2.2.2.2.2.2.2.1, (p8.2.2.2.2.2.2.2.2.2.2.2.1, (p8.2.2.2.2.2.2.2.2.2.2.2.2.1, ())))))))))))))))
 <| fun p13 =>
 dY p13.1 <| fun l14 =>
 bnd (S_cursor_Cursor_Bits l14 p13.2.1 p13.2.2.1) <| fun p15 =>
 dY p15.1 <| fun l16 =>
 bnd (S_cursor_Cursor_Bits l16 p15.2.1 p15.2.2.1) <| fun p17 =>
 dY p17.1 <| fun l18 =>
 bnd (S_cursor_Cursor_Bits l18 p17.2.1 p17.2.2.1) <| fun p19 =>
 dY p19.1 <| fun l20 =>
 bnd (S_cursor_Cursor_Bits l20 p19.2.1 p19.2.2.1) <| fun p21 =>
 joinK (δ := (LB × (Bool × (Int × (Int × (Int × (Int × (Int × (Int × (Int × (Int × (Int × (Int × (Int × (Int × (Int × (Int × (Int × Unit)))))))))))))))))) (bnd (S__maps_counted_api_Set_like p13.2.2.2.1 p13.2.2.2.2.1 p13.2.2.2.2.2.1 p13.2.2.2.2.2.2.1 p13.2.2.2.2.2.2.2.1 p15.2.2.2.1 p17.2.2.2.1 p19.2.2.2.1 p21.2.2.2.1) <| fun p22 =>
  cnd p22.1
   (dY p21.1 <| fun l23 =>
   bnd (S_cursor_Cursor_Fail l23 p21.2.1 p21.2.2.1 5) <| fun p24 =>
   dY p24.1 <| fun l25 =>
   qI n_4 <|
   qI p2.2.2.2.1 <|
   leftK (l25, (p24.2.1, (p24.2.2.1, (p13.2.2.2.1, (p13.2.2.2.2.1, (p13.2.2.2.2.2.1, (p13.2.2.2.2.2.2.1, (p13.2.2.2.2.2.2.2.1, (p13.2.2.2.2.2.2.2.2.1, (p13.2.2.2.2.2.2.2.2.2.1, (p13.2.2.2.2.2.2.2.2.2.2.1, (p13.2.2.2.2.2.2.2.2.2.2.2.1, (p13.2.2.2.2.2.2.2.2.2.2.2.2.1, (p15.2.2.2.1, (p17.2.2.2.1, (p19.2.2.2.1, (p21.2.2.2.1, ()))))))))))))))))))
   (dY p21.1 <| fun l26 =>
   qI n_4 <|
   qI p2.2.2.2.1 <|
   leftK (l26, (p21.2.1, (p21.2.2.1, (p13.2.2.2.1, (p13.2.2.2.2.1, (p13.2.2.2.2.2.1, (p13.2.2.2.2.2.2.1, (p13.2.2.2.2.2.2.2.1, (p13.2.2.2.2.2.2.2.2.1, (p13.2.2.2.2.2.2.2.2.2.1, (p13.2.2.2.2.2.2.2.2.2.2.1, (p13.2.2.2.2.2.2.2.2.2.2.2.1, (p13.2.2.2.2.2.2.2.2.2.2.2.2.1, (p15.2.2.2.1, (p17.2.2.2.1, (p19.2.2.2.1, (p21.2.2.2.1, ())))))))))))))))))))
 <| fun p27 =>
 joinK (δ := (LB × (Bool × (Int × (Int × (Int × (Int × (Int × (Int × (Int × (Int × (Int × (Int × (Int × (Int × (Int × (Int × (Int × Unit)))))))))))))))))) (bnd (S_slots_Below p27.2.2.2.2.2.2.2.2.2.2.2.2.2.1 p27.2.2.2.2.2.2.2.2.2.2.2.2.2.2.1 p27.2.2.2.2.2.2.2.2.2.2.2.2.2.2.2.1 p27.2.2.2.2.2.2.2.2.2.2.2.2.2.2.2.2.1 n_4) <| fun p28 =>
  cnd (notB p28.1)
   (dY p27.1 <| fun l29 =>
   bnd (S_cursor_Cursor_Fail l29 p27.2.1 p27.2.2.1 14) <| fun p30 =>
   dY p30.1 <| fun l31 =>
   qI p2.2.2.2.1 <|
   leftK (l31, (p30.2.1, (p30.2.2.1, (p27.2.2.2.1, (p27.2.2.2.2.1, (p27.2.2.2.2.2.1, (p27.2.2.2.2.2.2.1, (p27.2.2.2.2.2.2.2.1, (p27.2.2.2.2.2.2.2.2.1, (p27.2.2.2.2.2.2.2.2.2.1, (p27.2.2.2.2.2.2.2.2.2.2.1, (p27.2.2.2.2.2.2.2.2.2.2.2.1, (p27.2.2.2.2.2.2.2.2.2.2.2.2.1, (p27.2.2.2.2.2.2.2.2.2.2.2.2.2.1, (p27.2.2.2.2.2.2.2.2.2.2.2.2.2.2.1, (p27.2.2.2.2.2.2.2.2.2.2.2.2.2.2.2.1, (p27.2.2.2.2.2.2.2.2.2.2.2.2.2.2.2.2.1, ()))))))))))))))))))
   (dY p27.1 <| fun l32 =>
   qI p2.2.2.2.1 <|
   leftK (l32, (p27.2.1, (p27.2.2.1, (p27.2.2.2.1, (p27.2.2.2.2.1, (p27.2.2.2.2.2.1, (p27.2.2.2.2.2.2.1, (p27.2.2.2.2.2.2.2.1, (p27.2.2.2.2.2.2.2.2.1, (p27.2.2.2.2.2.2.2.2.2.1, (p27.2.2.2.2.2.2.2.2.2.2.1, (p27.2.2.2.2.2.2.2.2.2.2.2.1, (p27.2.2.2.2.2.2.2.2.2.2.2.2.1, (p27.2.2.2.2.2.2.2.2.2.2.2.2.2.1, (p27.2.2.2.2.2.2.2.2.2.2.2.2.2.2.1, (p27.2.2.2.2.2.2.2.2.2.2.2.2.2.2.2.1, (p27.2.2.2.2.2.2.2.2.2.2.2.2.2.2.2.2.1, ())))))))))))))))))))
 <| fun p33 =>
 dY p33.1 <| fun l34 =>
 some (l34, (p33.2.1, (p33.2.2.1, (p33.2.2.2.2.2.2.2.2.2.2.2.2.2.1, (p33.2.2.2.2.2.2.2.2.2.2.2.2.2.2.1, (p33.2.2.2.2.2.2.2.2.2.2.2.2.2.2.2.1, (p33.2.2.2.2.2.2.2.2.2.2.2.2.2.2.2.2.1, ((wrp .i64 p2.2.2.2.1), ()))))))))
noncomputable def q_maps_take : Lift := ⟨tyX, look2 .todo (α := LoopAs) (.n 147 [(6, (.times 5)), (1012292, (.as ⟨[], [[.hole (.sl 1 tY), .hole .bool, .hole tI], [.hole tW, .hole tW, .hole tW, .hole tW, .hole tI], [.hole tW, .hole tW, .hole tW, .hole tW, .hole tI]], (.one, [.stat (.ptr 0 0)]) :: (.one, [.junk]) :: (.one, [.fix]) :: rp 4 (.one, [.junk]) ((.one, [.stat (.ptr 1 0)]) :: (.one, [.stat (.ptr 2 0)]) :: (.one, [.fix]) :: rp 16 (.one, [.junk]) ((.one, [.hole .bool]) :: rp 25 (.one, [.junk]) ([])))⟩)), (1016389, (.as ⟨[], [[.hole (.sl 1 tY), .hole .bool, .hole tI], [.hole tW, .hole tW, .hole tW, .hole tW, .hole tI], [.hole tW, .hole tW, .hole tW, .hole tW, .hole tI]], (.one, [.stat (.ptr 0 0)]) :: (.one, [.junk]) :: (.one, [.fix]) :: rp 4 (.one, [.junk]) ((.one, [.stat (.ptr 1 0)]) :: (.one, [.stat (.ptr 2 0)]) :: (.one, [.fix]) :: rp 42 (.one, [.junk]) ([]))⟩)), (1049165, (.as ⟨[], [[.hole (.sl 1 tY), .hole .bool, .hole tI], [.hole tW, .hole tW, .hole tW, .hole tW, .hole tI], [.hole tW, .hole tW, .hole tW, .hole tW, .hole tI], [.hole tW, .hole tW, .hole tW, .hole tW]], (.one, [.stat (.ptr 0 0)]) :: (.one, [.junk]) :: (.one, [.fix]) :: rp 5 (.one, [.junk]) ((.one, [.stat (.ptr 2 0)]) :: (.one, [.fix]) :: (.one, [.stat (.ptr 3 0)]) :: rp 41 (.one, [.junk]) ([]))⟩)), (1057359, (.as ⟨[], [[.hole (.sl 1 tY), .hole .bool, .hole tI], [.hole tW, .hole tW, .hole tW, .hole tW, .hole tI], [.hole tW, .hole tW, .hole tW, .hole tW, .hole tI], [.hole tW, .hole tW, .hole tW, .hole tW]], rp 8 (.one, [.junk]) ((.one, [.stat (.ptr 2 0)]) :: (.one, [.fix]) :: (.one, [.stat (.ptr 3 0)]) :: rp 41 (.one, [.junk]) ([]))⟩))] .o .o), [c_cursor_Cursor_Err, c_cursor_Cursor_Fail, c_cursor_Cursor_Bits, c__maps_counted_api_Set_like, c_slots_Below], bsX⟩
theorem u_maps_take {N : Nat} {a0 : LB} {a1 : Bool} {a2 : Int} {a3 : Int} {a4 : Int} {a5 : Int} {a6 : Int} {a7 : Int} {a8 : Int} {a9 : Int} {q : (LB × (Bool × (Int × (Int × (Int × (Int × (Int × (Int × Unit))))))))} (h : M_maps_take N a0 a1 a2 a3 a4 a5 a6 a7 a8 a9 = some q) : S_maps_take a0 a1 a2 a3 a4 a5 a6 a7 a8 a9 = some q :=
 Sof_of (Q := q_maps_take) (N := N) (n := 3) (f := 147) (tin := i_maps_take) (tout := o_maps_take) (d := (a0, (a1, (a2, (a3, (a4, (a5, (a6, (a7, (a8, (a9, ()))))))))))) (all1 k_cursor_Cursor_Err (all1 k_cursor_Cursor_Fail (all1 k_cursor_Cursor_Bits (all1 k__maps_counted_api_Set_like (all1 k_slots_Below all0))))) bs_ok (by kernel_rfl) (by kernel_rfl) (by kernel_rfl) (Eq.trans (b := M_maps_take N a0 a1 a2 a3 a4 a5 a6 a7 a8 a9) (by kernel_rfl) h)

noncomputable def M_maps_Take (N : Nat) (l_0 : LB) (b_1 : Bool) (n_2 : Int) (n_3 : Int) (n_4 : Int) : Option (LB × (Bool × (Int × (LS × Unit)))) :=
 decL tS [] <| fun l1 =>
 dY l_0 <| fun l2 =>
 qI n_3 <|
 qI n_4 <|
 iter (fun (d3 : (LS × (LB × (Bool × (Int × (Int × (Int × (Int × (Int × (Int × Unit)))))))))) again4 =>
  chk (leN (addN 0 (vnum (eS d3.1))) (vnum (eS d3.1))) <|
  cnd (ltI (vlen (vcut (eS d3.1) 0 (vnum (eS d3.1)))) n_3)
   (chk (leN (addN 0 (vnum (eS d3.1))) (vnum (eS d3.1))) <|
   dY d3.2.1 <| fun l5 =>
   bnd (S_maps_take l5 d3.2.2.1 d3.2.2.2.1 (wrp .i64 (subI n_3 (vlen (vcut (eS d3.1) 0 (vnum (eS d3.1)))))) n_4 d3.2.2.2.2.1 d3.2.2.2.2.2.1 d3.2.2.2.2.2.2.1 d3.2.2.2.2.2.2.2.1 d3.2.2.2.2.2.2.2.2.1) <| fun p6 =>
   dY p6.1 <| fun l7 =>
   bnd (S_cursor_Cursor_Err l7 p6.2.1 p6.2.2.1) <| fun p8 =>
   cnd (notB (eqI p8.2.2.2.1 0))
    (dY p8.1 <| fun l9 =>
    decL tS [] <| fun l10 =>
    some (l9, (p8.2.1, (p8.2.2.1, (l10, ())))))
    (dS d3.1 <| fun l11 =>
    qS (eY p8.1) <|
    qO p8.2.1 <|
    qI p8.2.2.1 <|
    qI p6.2.2.2.1 <|
    qI p6.2.2.2.2.1 <|
    qI p6.2.2.2.2.2.1 <|
    qI p6.2.2.2.2.2.2.1 <|
    qI p6.2.2.2.2.2.2.2.1 <|
    qI n_3 <|
    qI n_4 <|
    qN (vnum (eS d3.1)) <|
    qI p6.2.2.2.2.2.2.2.1 <|
    iter (fun (d12 : (LS × (Int × Unit))) again13 =>
     cnd (ltI d12.2.1 p6.2.2.2.2.2.2.2.1)
      (qN (vnum (eS d12.1)) <|
      chk (room (vnum (eS d12.1)) (vnum (vcut [[(C.v (Go.Value.int .u64 p6.2.2.2.1)), (C.v (Go.Value.int .u64 p6.2.2.2.2.1)), (C.v (Go.Value.int .u64 p6.2.2.2.2.2.1)), (C.v (Go.Value.int .u64 p6.2.2.2.2.2.2.1))]] 0 1)) 32) <|
      decL tS (vapp (eS d12.1) (vcut [[(C.v (Go.Value.int .u64 p6.2.2.2.1)), (C.v (Go.Value.int .u64 p6.2.2.2.2.1)), (C.v (Go.Value.int .u64 p6.2.2.2.2.2.1)), (C.v (Go.Value.int .u64 p6.2.2.2.2.2.2.1))]] 0 1)) <| fun l14 =>
      qS (eY p8.1) <|
      qO p8.2.1 <|
      qI p8.2.2.1 <|
      qI p6.2.2.2.1 <|
      qI p6.2.2.2.2.1 <|
      qI p6.2.2.2.2.2.1 <|
      qI p6.2.2.2.2.2.2.1 <|
      qI p6.2.2.2.2.2.2.2.1 <|
      qI n_3 <|
      qI n_4 <|
      chk (eqN (addN (vnum (eS d12.1)) (vnum (vcut [[(C.v (Go.Value.int .u64 p6.2.2.2.1)), (C.v (Go.Value.int .u64 p6.2.2.2.2.1)), (C.v (Go.Value.int .u64 p6.2.2.2.2.2.1)), (C.v (Go.Value.int .u64 p6.2.2.2.2.2.2.1))]] 0 1))) (vnum (vapp (eS d12.1) (vcut [[(C.v (Go.Value.int .u64 p6.2.2.2.1)), (C.v (Go.Value.int .u64 p6.2.2.2.2.1)), (C.v (Go.Value.int .u64 p6.2.2.2.2.2.1)), (C.v (Go.Value.int .u64 p6.2.2.2.2.2.2.1))]] 0 1)))) <|
      qI p6.2.2.2.2.2.2.2.1 <|
      again13 (l14, ((wrp .i64 (addI d12.2.1 1)), ())))
      (dS d12.1 <| fun l15 =>
      dY p8.1 <| fun l16 =>
      qI n_3 <|
      qI n_4 <|
      qN (vnum (eS d12.1)) <|
      again4 (l15, (l16, (p8.2.1, (p8.2.2.1, (p6.2.2.2.1, (p6.2.2.2.2.1, (p6.2.2.2.2.2.1, (p6.2.2.2.2.2.2.1, (p6.2.2.2.2.2.2.2.1, ()))))))))))) N (l11, (0, ()))))
   (dY d3.2.1 <| fun l17 =>
   bnd (S_cursor_Cursor_Err l17 d3.2.2.1 d3.2.2.2.1) <| fun p18 =>
   cnd (notB (eqI p18.2.2.2.1 0))
    (dY p18.1 <| fun l19 =>
    decL tS [] <| fun l20 =>
    some (l19, (p18.2.1, (p18.2.2.1, (l20, ())))))
    (chk (leN (addN 0 (vnum (eS d3.1))) (vnum (eS d3.1))) <|
    dY p18.1 <| fun l21 =>
    decL tS (vcut (eS d3.1) 0 (vnum (eS d3.1))) <| fun l22 =>
    some (l21, (p18.2.1, (p18.2.2.1, (l22, ()))))))) N (l1, (l2, (b_1, (n_2, (0, (0, (0, (0, (0, ())))))))))
noncomputable def q_maps_Take : Lift := ⟨tyX, look2 .todo (α := LoopAs) (.n 101 [(3, (.as ⟨[.mu 118 4 tS], [[.hole (.sl 1 tY), .hole .bool, .hole tI], [.hole tW, .hole tW, .hole tW, .hole tW, .hole tI]], (.one, [.stat (.ptr 0 0)]) :: (.one, [.fix]) :: (.one, [.fix]) :: rp 4 (.one, [.junk]) ((.one, [.own 0]) :: (.one, [.stat (.ptr 1 0)]) :: rp 29 (.one, [.junk]) ([]))⟩)), (8, (.as ⟨[.mu 118 4 tS], [[.fix, .fix, .fix], [.fix, .fix, .fix, .fix, .fix]], (.one, [.stat (.ptr 0 0)]) :: (.one, [.fix]) :: (.one, [.fix]) :: rp 4 (.one, [.junk]) ((.one, [.own 0]) :: (.one, [.stat (.ptr 1 0)]) :: rp 16 (.one, [.junk]) ((.one, [.fix]) :: (.one, [.hole tI]) :: rp 11 (.one, [.junk]) ([])))⟩))] .o .o), [c_cursor_Cursor_Err, c_maps_take], bsX⟩
theorem u_maps_Take {N : Nat} {a0 : LB} {a1 : Bool} {a2 : Int} {a3 : Int} {a4 : Int} {q : (LB × (Bool × (Int × (LS × Unit))))} (h : M_maps_Take N a0 a1 a2 a3 a4 = some q) : S_maps_Take a0 a1 a2 a3 a4 = some q :=
 Sof_of (Q := q_maps_Take) (N := N) (n := 3) (f := 101) (tin := i_maps_Take) (tout := o_maps_Take) (d := (a0, (a1, (a2, (a3, (a4, ())))))) (all1 k_cursor_Cursor_Err (all1 k_maps_take all0)) bs_ok (by kernel_rfl) (by kernel_rfl) (by kernel_rfl) (Eq.trans (b := M_maps_Take N a0 a1 a2 a3 a4) (by kernel_rfl) h)

noncomputable def M_fnc_reader_tables (N : Nat) (l_0 : LC) (l_1 : LB) (b_2 : Bool) (l_3 : LI) (l_4 : LI) (l_5 : LI) (l_6 : LI) (l_7 : LI) (l_8 : LN) (l_9 : LI) (l_10 : LS) (x_11 : UInt8) (n_12 : Int) (l_13 : LB) (b_14 : Bool) (n_15 : Int) : Option (LC × (LB × (Bool × (LI × (LI × (LI × (LI × (LI × (LN × (LI × (LS × (UInt8 × (Int × (LB × (Bool × (Int × Unit)))))))))))))))) :=
 cnd (eqI (bitI .and .u8 (u8I x_11) 2) 0)
  (dC l_0 <| fun l1 =>
  dI l_3 <| fun l2 =>
  dI l_4 <| fun l3 =>
  dI l_5 <| fun l4 =>
  dI l_6 <| fun l5 =>
  qN (vnum (eC l_0)) <|
  dI l_7 <| fun l6 =>
  dN l_8 <| fun l7 =>
  dI l_9 <| fun l8 =>
  dS l_10 <| fun l9 =>
  chk (inU8 (u8I x_11)) <|
  dY l_13 <| fun l10 =>
  some (l1, (l_1, (b_2, (l2, (l3, (l4, (l5, (l6, (l7, (l8, (l9, ((toU8 (u8I x_11)), (n_12, (l10, (b_14, (n_15, ())))))))))))))))))
  (dY l_13 <| fun l11 =>
  bnd (S_tree_Take l11 b_14 n_15) <| fun p12 =>
  dY p12.1 <| fun l13 =>
  bnd (S_runs_Take l13 p12.2.1 p12.2.2.1 n_12 0 (wrp .i64 (subI (vlen (eN p12.2.2.2.1)) 1))) <| fun p14 =>
  chk (leN (addN 0 (vnum (eC l_0))) (vnum (eC l_0))) <|
  dI l_3 <| fun l15 =>
  dI l_4 <| fun l16 =>
  dI l_5 <| fun l17 =>
  dI l_6 <| fun l18 =>
  decL tC (vcut (eC l_0) 0 (vnum (eC l_0))) <| fun l19 =>
  dI l_7 <| fun l20 =>
  dN p12.2.2.2.1 <| fun l21 =>
  dI p14.2.2.2.1 <| fun l22 =>
  dS l_10 <| fun l23 =>
  bnd (S_fnc_many l_1 b_2 l15 l16 l17 l18 l19 l20 l21 l22 l23) <| fun p24 =>
  dY p14.1 <| fun l25 =>
  bnd (S_maps_Take l25 p14.2.1 p14.2.2.1 n_12 p24.1) <| fun p26 =>
  dC l_0 <| fun l27 =>
  dI l_3 <| fun l28 =>
  dI l_4 <| fun l29 =>
  dI l_5 <| fun l30 =>
  dI l_6 <| fun l31 =>
  qN (vnum (eC l_0)) <|
  dI l_7 <| fun l32 =>
  dN p12.2.2.2.1 <| fun l33 =>
  dI p14.2.2.2.1 <| fun l34 =>
  dS p26.2.2.2.1 <| fun l35 =>
  chk (inU8 (u8I x_11)) <|
  dY p26.1 <| fun l36 =>
  some (l27, (l_1, (b_2, (l28, (l29, (l30, (l31, (l32, (l33, (l34, (l35, ((toU8 (u8I x_11)), (n_12, (l36, (p26.2.1, (p26.2.2.1, ())))))))))))))))))
noncomputable def q_fnc_reader_tables : Lift := ⟨tyX, look2 .todo (α := LoopAs) (.o), [c_fnc_many, c_runs_Take, c_tree_Take, c_maps_Take], bsX⟩
theorem u_fnc_reader_tables {N : Nat} {a0 : LC} {a1 : LB} {a2 : Bool} {a3 : LI} {a4 : LI} {a5 : LI} {a6 : LI} {a7 : LI} {a8 : LN} {a9 : LI} {a10 : LS} {a11 : UInt8} {a12 : Int} {a13 : LB} {a14 : Bool} {a15 : Int} {q : (LC × (LB × (Bool × (LI × (LI × (LI × (LI × (LI × (LN × (LI × (LS × (UInt8 × (Int × (LB × (Bool × (Int × Unit))))))))))))))))} (h : M_fnc_reader_tables N a0 a1 a2 a3 a4 a5 a6 a7 a8 a9 a10 a11 a12 a13 a14 a15 = some q) : S_fnc_reader_tables a0 a1 a2 a3 a4 a5 a6 a7 a8 a9 a10 a11 a12 a13 a14 a15 = some q :=
 Sof_of (Q := q_fnc_reader_tables) (N := N) (n := 3) (f := 52) (tin := i_fnc_reader_tables) (tout := o_fnc_reader_tables) (d := (a0, (a1, (a2, (a3, (a4, (a5, (a6, (a7, (a8, (a9, (a10, (a11, (a12, (a13, (a14, (a15, ()))))))))))))))))) (all1 k_fnc_many (all1 k_runs_Take (all1 k_tree_Take (all1 k_maps_Take all0)))) bs_ok (by kernel_rfl) (by kernel_rfl) (by kernel_rfl) (Eq.trans (b := M_fnc_reader_tables N a0 a1 a2 a3 a4 a5 a6 a7 a8 a9 a10 a11 a12 a13 a14 a15) (by kernel_rfl) h)

noncomputable def M_fnc_Take (N : Nat) (l_0 : LB) (b_1 : Bool) (n_2 : Int) : Option (LB × (Bool × (Int × (LB × (Bool × (LI × (LI × (LI × (LI × (LC × (LI × (LN × (LI × (LS × Unit)))))))))))))) :=
 joinK (δ := (LC × (LB × (Bool × (Int × (LB × (Bool × (LB × (Bool × (LI × (LI × (LI × (LI × (LI × (LN × (LI × (LS × (UInt8 × (Int × Unit))))))))))))))))))) (decL tI [] <| fun l1 =>
  decL tI [] <| fun l2 =>
  decL tI [] <| fun l3 =>
  decL tI [] <| fun l4 =>
  decL tI [] <| fun l5 =>
  decL tN [] <| fun l6 =>
  decL tI [] <| fun l7 =>
  decL tS [] <| fun l8 =>
  dY l_0 <| fun l9 =>
  bnd (S_fnc_reader_head [] false l1 l2 l3 l4 l5 l6 l7 l8 (toU8 0) 0 l9 b_1 n_2) <| fun p10 =>
  dY p10.2.2.2.2.2.2.2.2.2.2.2.2.1 <| fun l11 =>
  bnd (S_cursor_Cursor_Err l11 p10.2.2.2.2.2.2.2.2.2.2.2.2.2.1 p10.2.2.2.2.2.2.2.2.2.2.2.2.2.2.1) <| fun p12 =>
  cnd (notB (eqI p12.2.2.2.1 0))
   (decL tC [] <| fun l13 =>
   dY p12.1 <| fun l14 =>
   dI p10.2.2.1 <| fun l15 =>
   dI p10.2.2.2.1 <| fun l16 =>
   dI p10.2.2.2.2.1 <| fun l17 =>
   dI p10.2.2.2.2.2.1 <| fun l18 =>
   dI p10.2.2.2.2.2.2.1 <| fun l19 =>
   dN p10.2.2.2.2.2.2.2.1 <| fun l20 =>
   dI p10.2.2.2.2.2.2.2.2.1 <| fun l21 =>
   dS p10.2.2.2.2.2.2.2.2.2.1 <| fun l22 =>
   chk (inU8 (u8I p10.2.2.2.2.2.2.2.2.2.2.1)) <|
   leftK (l13, (l14, (p12.2.1, (p12.2.2.1, ([], (false, (p10.1, (p10.2.1, (l15, (l16, (l17, (l18, (l19, (l20, (l21, (l22, ((toU8 (u8I p10.2.2.2.2.2.2.2.2.2.2.1)), (p10.2.2.2.2.2.2.2.2.2.2.2.1, ())))))))))))))))))))
   (dI p10.2.2.1 <| fun l23 =>
   dI p10.2.2.2.1 <| fun l24 =>
   dI p10.2.2.2.2.1 <| fun l25 =>
   dI p10.2.2.2.2.2.1 <| fun l26 =>
   dI p10.2.2.2.2.2.2.1 <| fun l27 =>
   dN p10.2.2.2.2.2.2.2.1 <| fun l28 =>
   dI p10.2.2.2.2.2.2.2.2.1 <| fun l29 =>
   dS p10.2.2.2.2.2.2.2.2.2.1 <| fun l30 =>
   chk (inU8 (u8I p10.2.2.2.2.2.2.2.2.2.2.1)) <|
   dY p12.1 <| fun l31 =>
   bnd (S_fnc_reader_code p10.1 p10.2.1 l23 l24 l25 l26 l27 l28 l29 l30 (toU8 (u8I p10.2.2.2.2.2.2.2.2.2.2.1)) p10.2.2.2.2.2.2.2.2.2.2.2.1 l31 p12.2.1 p12.2.2.1) <| fun p32 =>
   dY p32.2.2.2.2.2.2.2.2.2.2.2.2.2.1 <| fun l33 =>
   bnd (S_cursor_Cursor_Err l33 p32.2.2.2.2.2.2.2.2.2.2.2.2.2.2.1 p32.2.2.2.2.2.2.2.2.2.2.2.2.2.2.2.1) <| fun p34 =>
   cnd (notB (eqI p34.2.2.2.1 0))
    (dC p32.1 <| fun l35 =>
    dY p34.1 <| fun l36 =>
    dI p32.2.2.2.1 <| fun l37 =>
    dI p32.2.2.2.2.1 <| fun l38 =>
    dI p32.2.2.2.2.2.1 <| fun l39 =>
    dI p32.2.2.2.2.2.2.1 <| fun l40 =>
    qN (vnum (eC p32.1)) <|
    dI p32.2.2.2.2.2.2.2.1 <| fun l41 =>
    dN p32.2.2.2.2.2.2.2.2.1 <| fun l42 =>
    dI p32.2.2.2.2.2.2.2.2.2.1 <| fun l43 =>
    dS p32.2.2.2.2.2.2.2.2.2.2.1 <| fun l44 =>
    chk (inU8 (u8I p32.2.2.2.2.2.2.2.2.2.2.2.1)) <|
    leftK (l35, (l36, (p34.2.1, (p34.2.2.1, ([], (false, (p32.2.1, (p32.2.2.1, (l37, (l38, (l39, (l40, (l41, (l42, (l43, (l44, ((toU8 (u8I p32.2.2.2.2.2.2.2.2.2.2.2.1)), (p32.2.2.2.2.2.2.2.2.2.2.2.2.1, ())))))))))))))))))))
    (dC p32.1 <| fun l45 =>
    dI p32.2.2.2.1 <| fun l46 =>
    dI p32.2.2.2.2.1 <| fun l47 =>
    dI p32.2.2.2.2.2.1 <| fun l48 =>
    dI p32.2.2.2.2.2.2.1 <| fun l49 =>
    qN (vnum (eC p32.1)) <|
    dI p32.2.2.2.2.2.2.2.1 <| fun l50 =>
    dN p32.2.2.2.2.2.2.2.2.1 <| fun l51 =>
    dI p32.2.2.2.2.2.2.2.2.2.1 <| fun l52 =>
    dS p32.2.2.2.2.2.2.2.2.2.2.1 <| fun l53 =>
    chk (inU8 (u8I p32.2.2.2.2.2.2.2.2.2.2.2.1)) <|
    dY p34.1 <| fun l54 =>
    bnd (S_fnc_reader_tables l45 p32.2.1 p32.2.2.1 l46 l47 l48 l49 l50 l51 l52 l53 (toU8 (u8I p32.2.2.2.2.2.2.2.2.2.2.2.1)) p32.2.2.2.2.2.2.2.2.2.2.2.2.1 l54 p34.2.1 p34.2.2.1) <| fun p55 =>
    dY p55.2.2.2.2.2.2.2.2.2.2.2.2.2.1 <| fun l56 =>
    bnd (S_cursor_Cursor_Err l56 p55.2.2.2.2.2.2.2.2.2.2.2.2.2.2.1 p55.2.2.2.2.2.2.2.2.2.2.2.2.2.2.2.1) <| fun p57 =>
    cnd (notB (eqI p57.2.2.2.1 0))
     (dC p55.1 <| fun l58 =>
     dY p57.1 <| fun l59 =>
     dI p55.2.2.2.1 <| fun l60 =>
     dI p55.2.2.2.2.1 <| fun l61 =>
     dI p55.2.2.2.2.2.1 <| fun l62 =>
     dI p55.2.2.2.2.2.2.1 <| fun l63 =>
     qN (vnum (eC p55.1)) <|
     dI p55.2.2.2.2.2.2.2.1 <| fun l64 =>
     dN p55.2.2.2.2.2.2.2.2.1 <| fun l65 =>
     dI p55.2.2.2.2.2.2.2.2.2.1 <| fun l66 =>
     dS p55.2.2.2.2.2.2.2.2.2.2.1 <| fun l67 =>
     chk (inU8 (u8I p55.2.2.2.2.2.2.2.2.2.2.2.1)) <|
     leftK (l58, (l59, (p57.2.1, (p57.2.2.1, ([], (false, (p55.2.1, (p55.2.2.1, (l60, (l61, (l62, (l63, (l64, (l65, (l66, (l67, ((toU8 (u8I p55.2.2.2.2.2.2.2.2.2.2.2.1)), (p55.2.2.2.2.2.2.2.2.2.2.2.2.1, ())))))))))))))))))))
     (dC p55.1 <| fun l68 =>
     dY p57.1 <| fun l69 =>
     dI p55.2.2.2.1 <| fun l70 =>
     dI p55.2.2.2.2.1 <| fun l71 =>
     dI p55.2.2.2.2.2.1 <| fun l72 =>
     dI p55.2.2.2.2.2.2.1 <| fun l73 =>
     qN (vnum (eC p55.1)) <|
     dI p55.2.2.2.2.2.2.2.1 <| fun l74 =>
     dN p55.2.2.2.2.2.2.2.2.1 <| fun l75 =>
     dI p55.2.2.2.2.2.2.2.2.2.1 <| fun l76 =>
     dS p55.2.2.2.2.2.2.2.2.2.2.1 <| fun l77 =>
     chk (inU8 (u8I p55.2.2.2.2.2.2.2.2.2.2.2.1)) <|
     leftK (l68, (l69, (p57.2.1, (p57.2.2.1, ([], (false, (p55.2.1, (p55.2.2.1, (l70, (l71, (l72, (l73, (l74, (l75, (l76, (l77, ((toU8 (u8I p55.2.2.2.2.2.2.2.2.2.2.2.1)), (p55.2.2.2.2.2.2.2.2.2.2.2.2.1, ()))))))))))))))))))))))
 <| fun p78 =>
 dY p78.2.1 <| fun l79 =>
 bnd (S_cursor_Cursor_Err l79 p78.2.2.1 p78.2.2.2.1) <| fun p80 =>
 cnd (notB (eqI p80.2.2.2.1 0))
  (dY p80.1 <| fun l81 =>
  decL tI [] <| fun l82 =>
  decL tI [] <| fun l83 =>
  decL tI [] <| fun l84 =>
  decL tI [] <| fun l85 =>
  decL tC [] <| fun l86 =>
  decL tI [] <| fun l87 =>
  decL tN [] <| fun l88 =>
  decL tI [] <| fun l89 =>
  decL tS [] <| fun l90 =>
  some (l81, (p80.2.1, (p80.2.2.1, ([], (false, (l82, (l83, (l84, (l85, (l86, (l87, (l88, (l89, (l90, ())))))))))))))))
  (chk (leN (addN 0 (vnum (eC p78.1))) (vnum (eC p78.1))) <|
  dY p80.1 <| fun l91 =>
  dI p78.2.2.2.2.2.2.2.2.1 <| fun l92 =>
  dI p78.2.2.2.2.2.2.2.2.2.1 <| fun l93 =>
  dI p78.2.2.2.2.2.2.2.2.2.2.1 <| fun l94 =>
  dI p78.2.2.2.2.2.2.2.2.2.2.2.1 <| fun l95 =>
  decL tC (vcut (eC p78.1) 0 (vnum (eC p78.1))) <| fun l96 =>
  dI p78.2.2.2.2.2.2.2.2.2.2.2.2.1 <| fun l97 =>
  dN p78.2.2.2.2.2.2.2.2.2.2.2.2.2.1 <| fun l98 =>
  dI p78.2.2.2.2.2.2.2.2.2.2.2.2.2.2.1 <| fun l99 =>
  dS p78.2.2.2.2.2.2.2.2.2.2.2.2.2.2.2.1 <| fun l100 =>
  some (l91, (p80.2.1, (p80.2.2.1, (p78.2.2.2.2.2.2.1, (p78.2.2.2.2.2.2.2.1, (l92, (l93, (l94, (l95, (l96, (l97, (l98, (l99, (l100, ())))))))))))))))
noncomputable def q_fnc_Take : Lift := ⟨tyX, look2 .todo (α := LoopAs) (.n 13 [(3, (.times 4)), (1032777, (.as ⟨[.mu 78 2 tC], [[.hole (.sl 1 tY), .hole .bool, .hole tI], [.hole .str, .hole .bool, .stat (.c (.v (.slice none 0 0))), .stat (.c (.v (.slice none 0 0))), .stat (.c (.v (.slice none 0 0))), .stat (.c (.v (.slice none 0 0))), .stat (.c (.v (.slice none 0 0))), .stat (.c (.v (.slice none 0 0))), .stat (.c (.v (.slice none 0 0))), .stat (.c (.v (.slice none 0 0))), .stat (.c (.v (.slice none 0 0)))], [.stat (.ptr 0 0), .hole .str, .hole .bool, .hole (.sl 1 tI), .hole (.sl 1 tI), .hole (.sl 1 tI), .hole (.sl 1 tI), .own 0, .hole (.sl 1 tI), .hole (.sl 7 tN), .hole (.sl 1 tI), .hole (.sl 4 tS), .hole tY, .hole tI]], (.one, [.stat (.ptr 0 0)]) :: (.one, [.junk]) :: (.one, [.stat (.ptr 1 0)]) :: (.one, [.stat (.ptr 2 0)]) :: rp 29 (.one, [.junk]) ([])⟩))] .o .o), [c_cursor_Cursor_Err, c_fnc_reader_head, c_fnc_reader_code, c_fnc_reader_tables], bsX⟩
theorem u_fnc_Take {N : Nat} {a0 : LB} {a1 : Bool} {a2 : Int} {q : (LB × (Bool × (Int × (LB × (Bool × (LI × (LI × (LI × (LI × (LC × (LI × (LN × (LI × (LS × Unit))))))))))))))} (h : M_fnc_Take N a0 a1 a2 = some q) : S_fnc_Take a0 a1 a2 = some q :=
 Sof_of (Q := q_fnc_Take) (N := N) (n := 3) (f := 13) (tin := i_fnc_Take) (tout := o_fnc_Take) (d := (a0, (a1, (a2, ())))) (all1 k_cursor_Cursor_Err (all1 k_fnc_reader_head (all1 k_fnc_reader_code (all1 k_fnc_reader_tables all0)))) bs_ok (by kernel_rfl) (by kernel_rfl) (by kernel_rfl) (Eq.trans (b := M_fnc_Take N a0 a1 a2) (by kernel_rfl) h)

end Go.Proofs.YtkdnbnkbnegckaaGreat
