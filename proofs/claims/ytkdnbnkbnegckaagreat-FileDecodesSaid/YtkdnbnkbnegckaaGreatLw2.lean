/- Functions, lifted: what the program comes to by them. -/
import Derived.Test.YtkdnbnkbnegckaaGreatLwA
namespace Go.Proofs.YtkdnbnkbnegckaaGreat
open Go.RowKit
set_option maxRecDepth 100000
set_option linter.unusedVariables false
noncomputable def M_ref10_Take (N : Nat) (l_0 : LB) (n_1 : Int) : Option (Int × (Int × (LB × (Int × Unit)))) :=
 dY l_0 <| fun l1 =>
 bnd (S_ref02_Byte l1 n_1) <| fun p2 =>
 cnd (notB (eqI p2.2.2.1 0))
  (dY p2.2.1 <| fun l3 =>
  some (0, (0, (l3, (p2.2.2.1, ())))))
  (cnd (leI 35 (wrp .i64 (u8I p2.1)))
   (dY p2.2.1 <| fun l4 =>
   bnd (S_ref02_Fail l4 p2.2.2.1 8) <| fun p5 =>
   dY p5.1 <| fun l6 =>
   some (0, (0, (l6, (p5.2.1, ())))))
   (joinK (δ := (LB × (Int × (Int × (Int × (Int × (LB × (Int × (Int × (Int × Unit)))))))))) (bnd (S_ref09_Operand (wrp .i64 (u8I p2.1))) <| fun p7 =>
    cnd (ltI 0 p7.1)
     (dY p2.2.1 <| fun l8 =>
     bnd (S_ref02_Int l8 p2.2.2.1) <| fun p9 =>
     dY l_0 <| fun l10 =>
     dY p9.2.1 <| fun l11 =>
     leftK (l10, (n_1, (0, (0, (0, (l11, (p9.2.2.1, ((wrp .i64 (u8I p2.1)), (p9.1, ()))))))))))
     (dY l_0 <| fun l12 =>
     dY p2.2.1 <| fun l13 =>
     leftK (l12, (n_1, (0, (0, (0, (l13, (p2.2.2.1, ((wrp .i64 (u8I p2.1)), (0, ())))))))))))
   <| fun p14 =>
   joinK (δ := (LB × (Int × (Int × (Int × (Int × (LB × (Int × (Int × (Int × Unit)))))))))) (joinK (δ := (Bool × Unit)) (cnd (eqI p14.2.2.2.2.2.2.1 0)
      (bnd (S_ref10_Right p14.2.2.2.2.2.2.2.1 p14.2.2.2.2.2.2.2.2.1) <| fun p15 =>
      qS (eY p14.1) <|
      qI p14.2.1 <|
      qI p14.2.2.1 <|
      qI p14.2.2.2.1 <|
      qI p14.2.2.2.2.1 <|
      qS (eY p14.2.2.2.2.2.1) <|
      qI p14.2.2.2.2.2.2.1 <|
      qI p14.2.2.2.2.2.2.2.1 <|
      qI p14.2.2.2.2.2.2.2.2.1 <|
      leftK ((notB p15.1), ()))
      (qS (eY p14.1) <|
      qI p14.2.1 <|
      qI p14.2.2.1 <|
      qI p14.2.2.2.1 <|
      qI p14.2.2.2.2.1 <|
      qS (eY p14.2.2.2.2.2.1) <|
      qI p14.2.2.2.2.2.2.1 <|
      qI p14.2.2.2.2.2.2.2.1 <|
      qI p14.2.2.2.2.2.2.2.2.1 <|
      leftK (false, ())))
    <| fun p16 =>
    cnd p16.1
     (dY p14.2.2.2.2.2.1 <| fun l17 =>
     bnd (S_ref02_Fail l17 p14.2.2.2.2.2.2.1 2) <| fun p18 =>
     dY p14.1 <| fun l19 =>
     dY p18.1 <| fun l20 =>
     leftK (l19, (p14.2.1, (p14.2.2.1, (p14.2.2.2.1, (p14.2.2.2.2.1, (l20, (p18.2.1, (p14.2.2.2.2.2.2.2.1, (p14.2.2.2.2.2.2.2.2.1, ()))))))))))
     (dY p14.1 <| fun l21 =>
     dY p14.2.2.2.2.2.1 <| fun l22 =>
     leftK (l21, (p14.2.1, (p14.2.2.1, (p14.2.2.2.1, (p14.2.2.2.2.1, (l22, (p14.2.2.2.2.2.2.1, (p14.2.2.2.2.2.2.2.1, (p14.2.2.2.2.2.2.2.2.1, ())))))))))))
   <| fun p23 =>
   cnd (notB (eqI p23.2.2.2.2.2.2.1 0))
    (dY p23.2.2.2.2.2.1 <| fun l24 =>
    some (0, (0, (l24, (p23.2.2.2.2.2.2.1, ())))))
    (dY p23.2.2.2.2.2.1 <| fun l25 =>
    some (p23.2.2.2.2.2.2.2.1, (p23.2.2.2.2.2.2.2.2.1, (l25, (p23.2.2.2.2.2.2.1, ())))))))
noncomputable def q_ref10_Take : Lift := ⟨tyX, look2 .todo (α := LoopAs) (.n 40 [(1036874, (.as ⟨[], [[.hole (.sl 1 tY), .hole tI], [.hole tI, .hole tI], [.stat (.c (.v (.slice none 0 0))), .hole tI], [.hole (.sl 1 tY), .hole tI], [.hole tI, .hole tI]], (.one, [.junk]) :: (.one, [.junk]) :: (.one, [.stat (.ptr 1 0)]) :: (.one, [.stat (.ptr 2 0)]) :: (.one, [.junk]) :: (.one, [.stat (.ptr 3 0)]) :: (.one, [.stat (.ptr 4 0)]) :: rp 46 (.one, [.junk]) ([])⟩)), (1040971, (.as ⟨[], [[.fix, .fix], [.fix, .fix], [.stat (.c (.v (.slice none 0 0))), .fix], [.fix, .fix], [.fix, .fix]], (.one, [.junk]) :: (.one, [.junk]) :: (.one, [.stat (.ptr 1 0)]) :: (.one, [.stat (.ptr 2 0)]) :: (.one, [.junk]) :: (.one, [.stat (.ptr 3 0)]) :: (.one, [.stat (.ptr 4 0)]) :: rp 36 (.one, [.junk]) ((.one, [.hole .bool]) :: rp 9 (.one, [.junk]) ([]))⟩)), (1045068, (.as ⟨[], [[.hole (.sl 1 tY), .hole tI], [.hole tI, .hole tI], [.stat (.c (.v (.slice none 0 0))), .hole tI], [.hole (.sl 1 tY), .hole tI], [.hole tI, .hole tI]], (.one, [.junk]) :: (.one, [.junk]) :: (.one, [.stat (.ptr 1 0)]) :: (.one, [.stat (.ptr 2 0)]) :: (.one, [.junk]) :: (.one, [.stat (.ptr 3 0)]) :: (.one, [.stat (.ptr 4 0)]) :: rp 46 (.one, [.junk]) ([])⟩))] .o .o), [c_ref02_Fail, c_ref02_Byte, c_ref09_Operand, c_ref02_Int, c_ref10_Right], bsX⟩
theorem u_ref10_Take {N : Nat} {a0 : LB} {a1 : Int} {q : (Int × (Int × (LB × (Int × Unit))))} (h : M_ref10_Take N a0 a1 = some q) : S_ref10_Take a0 a1 = some q :=
 Sof_of (Q := q_ref10_Take) (N := N) (n := 3) (f := 40) (tin := i_ref10_Take) (tout := o_ref10_Take) (d := (a0, (a1, ()))) (all1 k_ref02_Fail (all1 k_ref02_Byte (all1 k_ref09_Operand (all1 k_ref02_Int (all1 k_ref10_Right all0))))) bs_ok (by kernel_rfl) (by kernel_rfl) (by kernel_rfl) (Eq.trans (b := M_ref10_Take N a0 a1) (by kernel_rfl) h)

noncomputable def M_ref04_Take (N : Nat) (l_0 : LB) (n_1 : Int) (n_2 : Int) (n_3 : Int) (n_4 : Int) : Option (LI × (LB × (Int × Unit))) :=
 joinK (δ := (LI × (LB × (Int × (Int × Unit))))) (decL tI [] <| fun l1 =>
  dY l_0 <| fun l2 =>
  qI n_2 <|
  qI n_3 <|
  qI n_4 <|
  iter (fun (d3 : (LI × (LB × (Int × (Int × Unit))))) again4 =>
   joinK (δ := (LI × Unit)) (chk (leN (addN 0 (vnum (eI d3.1))) (vnum (eI d3.1))) <|
    cnd (ltI (vlen (vcut (eI d3.1) 0 (vnum (eI d3.1)))) n_2)
     (cnd (eqI d3.2.2.1 0)
      (dI d3.1 <| fun l5 =>
      qS (eY d3.2.1) <|
      qI d3.2.2.1 <|
      qI d3.2.2.2.1 <|
      qI n_2 <|
      qI n_3 <|
      qI n_4 <|
      qN (vnum (eI d3.1)) <|
      leftK (l5, ()))
      (rightK <| dI d3.1 <| fun l6 =>
      dY d3.2.1 <| fun l7 =>
      qN (vnum (eI d3.1)) <|
      leftK (l6, (l7, (d3.2.2.1, (d3.2.2.2.1, ()))))))
     (rightK <| dI d3.1 <| fun l8 =>
     dY d3.2.1 <| fun l9 =>
     qN (vnum (eI d3.1)) <|
     leftK (l8, (l9, (d3.2.2.1, (d3.2.2.2.1, ()))))))
   <| fun p10 =>
   dY d3.2.1 <| fun l11 =>
   bnd (S_ref02_Bits l11 d3.2.2.1) <| fun p12 =>
   joinK (δ := (LI × (Bool × Unit))) (cnd (eqI p12.2.2.1 0)
     (cnd (eqI p12.1 0)
      (dI p10.1 <| fun l13 =>
      qS (eY d3.2.1) <|
      qI d3.2.2.1 <|
      qI d3.2.2.2.1 <|
      qS (eY p12.2.1) <|
      qI p12.2.2.1 <|
      qI n_2 <|
      qI n_3 <|
      qI n_4 <|
      qN (vnum (eI p10.1)) <|
      qI p12.1 <|
      leftK (l13, (true, ())))
      (chk (leN (addN 0 (vnum (eI p10.1))) (vnum (eI p10.1))) <|
      dI p10.1 <| fun l14 =>
      qS (eY d3.2.1) <|
      qI d3.2.2.1 <|
      qI d3.2.2.2.1 <|
      qS (eY p12.2.1) <|
      qI p12.2.2.1 <|
      qI n_2 <|
      qI n_3 <|
      qI n_4 <|
      qN (vnum (eI p10.1)) <|
      qI p12.1 <|
      leftK (l14, ((ltI (wrp .u64 (wrp .i64 (subI n_2 (vlen (vcut (eI p10.1) 0 (vnum (eI p10.1))))))) p12.1), ()))))
     (dI p10.1 <| fun l15 =>
     qS (eY d3.2.1) <|
     qI d3.2.2.1 <|
     qI d3.2.2.2.1 <|
     qS (eY p12.2.1) <|
     qI p12.2.2.1 <|
     qI n_2 <|
     qI n_3 <|
     qI n_4 <|
     qN (vnum (eI p10.1)) <|
     qI p12.1 <|
     leftK (l15, (false, ()))))
   <| fun p16 =>
   cnd p16.2.1
    (dY p12.2.1 <| fun l17 =>
    bnd (S_ref02_Fail l17 p12.2.2.1 5) <| fun p18 =>
    rightK <| decL tI [] <| fun l19 =>
    dY p18.1 <| fun l20 =>
    some (l19, (l20, (p18.2.1, ()))))
    (dY p12.2.1 <| fun l21 =>
    bnd (S_ref02_Int l21 p12.2.2.1) <| fun p22 =>
    joinK (δ := (LI × (Bool × Unit))) (cnd (eqI p22.2.2.1 0)
      (chk (leN (addN 0 (vnum (eI p16.1))) (vnum (eI p16.1))) <|
      cnd (ltI 0 (vlen (vcut (eI p16.1) 0 (vnum (eI p16.1)))))
       (chk (leN (addN 0 (vnum (eI p16.1))) (vnum (eI p16.1))) <|
       chk (leI 0 (wrp .i64 (subI (vlen (vcut (eI p16.1) 0 (vnum (eI p16.1)))) 1))) <|
       chk (ltI (wrp .i64 (subI (vlen (vcut (eI p16.1) 0 (vnum (eI p16.1)))) 1)) (Int.ofNat (vnum (eI p16.1)))) <|
       chk (leN (addN 0 (vnum (eI p16.1))) (vnum (eI p16.1))) <|
       getE tI (eI p16.1) (addN 0 (natI (wrp .i64 (subI (vlen (vcut (eI p16.1) 0 (vnum (eI p16.1)))) 1)))) <| fun n23 =>
       dI p16.1 <| fun l24 =>
       qS (eY d3.2.1) <|
       qI d3.2.2.1 <|
       qI d3.2.2.2.1 <|
       qS (eY p12.2.1) <|
       qI p12.2.2.1 <|
       qS (eY p22.2.1) <|
       qI p22.2.2.1 <|
       qI n_2 <|
       qI n_3 <|
       qI n_4 <|
       qN (vnum (eI p16.1)) <|
       qI p12.1 <|
       qI p22.1 <|
       leftK (l24, ((eqI n23 p22.1), ())))
       (dI p16.1 <| fun l25 =>
       qS (eY d3.2.1) <|
       qI d3.2.2.1 <|
       qI d3.2.2.2.1 <|
       qS (eY p12.2.1) <|
       qI p12.2.2.1 <|
       qS (eY p22.2.1) <|
       qI p22.2.2.1 <|
       qI n_2 <|
       qI n_3 <|
       qI n_4 <|
       qN (vnum (eI p16.1)) <|
       qI p12.1 <|
       qI p22.1 <|
       leftK (l25, (false, ()))))
      (dI p16.1 <| fun l26 =>
      qS (eY d3.2.1) <|
      qI d3.2.2.1 <|
      qI d3.2.2.2.1 <|
      qS (eY p12.2.1) <|
      qI p12.2.2.1 <|
      qS (eY p22.2.1) <|
      qI p22.2.2.1 <|
      qI n_2 <|
      qI n_3 <|
      qI n_4 <|
      qN (vnum (eI p16.1)) <|
      qI p12.1 <|
      qI p22.1 <|
      leftK (l26, (false, ()))))
    <| fun p27 =>
    cnd p27.2.1
     (dY p22.2.1 <| fun l28 =>
     bnd (S_ref02_Fail l28 p22.2.2.1 5) <| fun p29 =>
     rightK <| decL tI [] <| fun l30 =>
     dY p29.1 <| fun l31 =>
     some (l30, (l31, (p29.2.1, ()))))
     (joinK (δ := (LI × (Bool × Unit))) (cnd (eqI p22.2.2.1 0)
       (cnd (ltI p22.1 n_3)
        (dI p27.1 <| fun l32 =>
        qS (eY d3.2.1) <|
        qI d3.2.2.1 <|
        qI d3.2.2.2.1 <|
        qS (eY p12.2.1) <|
        qI p12.2.2.1 <|
        qS (eY p22.2.1) <|
        qI p22.2.2.1 <|
        qI n_2 <|
        qI n_3 <|
        qI n_4 <|
        qN (vnum (eI p27.1)) <|
        qI p12.1 <|
        qI p22.1 <|
        leftK (l32, (true, ())))
        (dI p27.1 <| fun l33 =>
        qS (eY d3.2.1) <|
        qI d3.2.2.1 <|
        qI d3.2.2.2.1 <|
        qS (eY p12.2.1) <|
        qI p12.2.2.1 <|
        qS (eY p22.2.1) <|
        qI p22.2.2.1 <|
        qI n_2 <|
        qI n_3 <|
        qI n_4 <|
        qN (vnum (eI p27.1)) <|
        qI p12.1 <|
        qI p22.1 <|
        leftK (l33, ((ltI n_4 p22.1), ()))))
       (dI p27.1 <| fun l34 =>
       qS (eY d3.2.1) <|
       qI d3.2.2.1 <|
       qI d3.2.2.2.1 <|
       qS (eY p12.2.1) <|
       qI p12.2.2.1 <|
       qS (eY p22.2.1) <|
       qI p22.2.2.1 <|
       qI n_2 <|
       qI n_3 <|
       qI n_4 <|
       qN (vnum (eI p27.1)) <|
       qI p12.1 <|
       qI p22.1 <|
       leftK (l34, (false, ()))))
     <| fun p35 =>
     cnd p35.2.1
      (dY p22.2.1 <| fun l36 =>
      bnd (S_ref02_Fail l36 p22.2.2.1 2) <| fun p37 =>
      rightK <| decL tI [] <| fun l38 =>
      dY p37.1 <| fun l39 =>
      some (l38, (l39, (p37.2.1, ()))))
      (dI p35.1 <| fun l40 =>
      qS (eY p22.2.1) <|
      qI p22.2.2.1 <|
      qI d3.2.2.2.1 <|
      qS (eY p12.2.1) <|
      qI p12.2.2.1 <|
      qS (eY p22.2.1) <|
      qI p22.2.2.1 <|
      qI n_2 <|
      qI n_3 <|
      qI n_4 <|
      qN (vnum (eI p35.1)) <|
      qI p12.1 <|
      qI p22.1 <|
      iter (fun (d41 : (LI × (Int × Unit))) again42 =>
       joinK (δ := (LI × Unit)) (cnd (ltI d41.2.1 p12.1)
         (cnd (eqI p22.2.2.1 0)
          (dI d41.1 <| fun l43 =>
          qS (eY p22.2.1) <|
          qI p22.2.2.1 <|
          qI d3.2.2.2.1 <|
          qS (eY p12.2.1) <|
          qI p12.2.2.1 <|
          qS (eY p22.2.1) <|
          qI p22.2.2.1 <|
          qI n_2 <|
          qI n_3 <|
          qI n_4 <|
          qN (vnum (eI d41.1)) <|
          qI p12.1 <|
          qI p22.1 <|
          qI d41.2.1 <|
          leftK (l43, ()))
          (rightK <| dI d41.1 <| fun l44 =>
          dY p22.2.1 <| fun l45 =>
          qI n_2 <|
          qI n_3 <|
          qI n_4 <|
          qN (vnum (eI d41.1)) <|
          again4 (l44, (l45, (p22.2.2.1, (d3.2.2.2.1, ()))))))
         (rightK <| dI d41.1 <| fun l46 =>
         dY p22.2.1 <| fun l47 =>
         qI n_2 <|
         qI n_3 <|
         qI n_4 <|
         qN (vnum (eI d41.1)) <|
         again4 (l46, (l47, (p22.2.2.1, (d3.2.2.2.1, ()))))))
       <| fun p48 =>
       qN (vnum (eI p48.1)) <|
       chk (room (vnum (eI p48.1)) (vnum (vcut [[(C.v (Go.Value.int .i64 p22.1))]] 0 1)) 8) <|
       decL tI (vapp (eI p48.1) (vcut [[(C.v (Go.Value.int .i64 p22.1))]] 0 1)) <| fun l49 =>
       qS (eY p22.2.1) <|
       qI p22.2.2.1 <|
       qI d3.2.2.2.1 <|
       qS (eY p12.2.1) <|
       qI p12.2.2.1 <|
       qS (eY p22.2.1) <|
       qI p22.2.2.1 <|
       qI n_2 <|
       qI n_3 <|
       qI n_4 <|
       chk (eqN (addN (vnum (eI p48.1)) (vnum (vcut [[(C.v (Go.Value.int .i64 p22.1))]] 0 1))) (vnum (vapp (eI p48.1) (vcut [[(C.v (Go.Value.int .i64 p22.1))]] 0 1)))) <|
       qI p12.1 <|
       qI p22.1 <|
       again42 (l49, ((wrp .u64 (addI d41.2.1 1)), ()))) N (l40, (0, ())))))) N (l1, (l2, (n_1, (0, ())))))
 <| fun p50 =>
 cnd (notB (eqI p50.2.2.1 0))
  (decL tI [] <| fun l51 =>
  dY p50.2.1 <| fun l52 =>
  some (l51, (l52, (p50.2.2.1, ()))))
  (chk (leN (addN 0 (vnum (eI p50.1))) (vnum (eI p50.1))) <|
  decL tI (vcut (eI p50.1) 0 (vnum (eI p50.1))) <| fun l53 =>
  dY p50.2.1 <| fun l54 =>
  some (l53, (l54, (p50.2.2.1, ()))))
noncomputable def q_ref04_Take : Lift := ⟨tyX, look2 .todo (α := LoopAs) (.n 43 [(2, (.as ⟨[.mu 3 1 tI], [[.hole (.sl 1 tY), .hole tI], [.stat (.c (.v (.slice none 0 0))), .hole tI]], (.one, [.junk]) :: (.one, [.fix]) :: (.one, [.fix]) :: (.one, [.fix]) :: (.one, [.stat (.ptr 0 0)]) :: rp 4 (.one, [.junk]) ((.one, [.stat (.ptr 1 0)]) :: (.one, [.own 0]) :: rp 98 (.one, [.junk]) ([]))⟩)), (13, (.as ⟨[.mu 3 1 tI], [[.fix, .fix], [.stat (.c (.v (.slice none 0 0))), .fix], [.fix, .fix], [.fix, .fix]], (.one, [.junk]) :: (.one, [.fix]) :: (.one, [.fix]) :: (.one, [.fix]) :: (.one, [.stat (.ptr 0 0)]) :: rp 4 (.one, [.junk]) ((.one, [.stat (.ptr 1 0)]) :: (.one, [.own 0]) :: (.one, [.fix]) :: (.one, [.junk]) :: (.one, [.fix]) :: (.one, [.stat (.ptr 3 0)]) :: (.one, [.hole tW]) :: rp 93 (.one, [.junk]) ([]))⟩)), (1012292, (.as ⟨[.mu 3 1 tI], [[.fix, .fix], [.stat (.c (.v (.slice none 0 0))), .fix]], (.one, [.junk]) :: (.one, [.fix]) :: (.one, [.fix]) :: (.one, [.fix]) :: (.one, [.stat (.ptr 0 0)]) :: rp 4 (.one, [.junk]) ((.one, [.stat (.ptr 1 0)]) :: (.one, [.own 0]) :: rp 98 (.one, [.junk]) ([]))⟩)), (1020486, (.as ⟨[.mu 3 1 tI], [[.fix, .fix], [.stat (.c (.v (.slice none 0 0))), .fix], [.fix, .fix]], (.one, [.junk]) :: (.one, [.fix]) :: (.one, [.fix]) :: (.one, [.fix]) :: (.one, [.stat (.ptr 0 0)]) :: rp 4 (.one, [.junk]) ((.one, [.stat (.ptr 1 0)]) :: (.one, [.own 0]) :: (.one, [.fix]) :: (.one, [.stat (.ptr 2 0)]) :: rp 32 (.one, [.junk]) ((.one, [.hole .bool]) :: rp 63 (.one, [.junk]) ([])))⟩)), (1032777, (.as ⟨[.mu 3 1 tI], [[.fix, .fix], [.stat (.c (.v (.slice none 0 0))), .fix], [.fix, .fix], [.fix, .fix]], (.one, [.junk]) :: (.one, [.fix]) :: (.one, [.fix]) :: (.one, [.fix]) :: (.one, [.stat (.ptr 0 0)]) :: rp 4 (.one, [.junk]) ((.one, [.stat (.ptr 1 0)]) :: (.one, [.own 0]) :: (.one, [.fix]) :: (.one, [.junk]) :: (.one, [.fix]) :: (.one, [.stat (.ptr 3 0)]) :: rp 55 (.one, [.junk]) ((.one, [.hole .bool]) :: rp 38 (.one, [.junk]) ([])))⟩)), (1040971, (.as ⟨[.mu 3 1 tI], [[.fix, .fix], [.stat (.c (.v (.slice none 0 0))), .fix], [.fix, .fix], [.fix, .fix]], (.one, [.junk]) :: (.one, [.fix]) :: (.one, [.fix]) :: (.one, [.fix]) :: (.one, [.stat (.ptr 0 0)]) :: rp 4 (.one, [.junk]) ((.one, [.stat (.ptr 1 0)]) :: (.one, [.own 0]) :: (.one, [.fix]) :: (.one, [.junk]) :: (.one, [.fix]) :: (.one, [.stat (.ptr 3 0)]) :: rp 70 (.one, [.junk]) ((.one, [.hole .bool]) :: rp 23 (.one, [.junk]) ([])))⟩)), (1057360, (.as ⟨[.mu 3 1 tI], [[.fix, .fix], [.stat (.c (.v (.slice none 0 0))), .fix], [.fix, .fix], [.fix, .fix]], (.one, [.junk]) :: (.one, [.fix]) :: (.one, [.fix]) :: (.one, [.fix]) :: (.one, [.stat (.ptr 0 0)]) :: rp 4 (.one, [.junk]) ((.one, [.stat (.ptr 1 0)]) :: (.one, [.own 0]) :: (.one, [.fix]) :: (.one, [.junk]) :: (.one, [.fix]) :: (.one, [.stat (.ptr 3 0)]) :: (.one, [.fix]) :: rp 93 (.one, [.junk]) ([]))⟩)), (1061457, (.as ⟨[.mu 3 1 tI], [[.hole (.sl 1 tY), .hole tI], [.stat (.c (.v (.slice none 0 0))), .hole tI]], rp 4 (.one, [.junk]) ((.one, [.stat (.ptr 0 0)]) :: rp 4 (.one, [.junk]) ((.one, [.stat (.ptr 1 0)]) :: (.one, [.own 0]) :: rp 98 (.one, [.junk]) ([])))⟩))] .o .o), [c_ref02_Bits, c_ref02_Fail, c_ref02_Int], bsX⟩
theorem u_ref04_Take {N : Nat} {a0 : LB} {a1 : Int} {a2 : Int} {a3 : Int} {a4 : Int} {q : (LI × (LB × (Int × Unit)))} (h : M_ref04_Take N a0 a1 a2 a3 a4 = some q) : S_ref04_Take a0 a1 a2 a3 a4 = some q :=
 Sof_of (Q := q_ref04_Take) (N := N) (n := 3) (f := 43) (tin := i_ref04_Take) (tout := o_ref04_Take) (d := (a0, (a1, (a2, (a3, (a4, ())))))) (all1 k_ref02_Bits (all1 k_ref02_Fail (all1 k_ref02_Int all0))) bs_ok (by kernel_rfl) (by kernel_rfl) (by kernel_rfl) (Eq.trans (b := M_ref04_Take N a0 a1 a2 a3 a4) (by kernel_rfl) h)

noncomputable def M_ref12_Take (N : Nat) (l_0 : LB) (n_1 : Int) (n_2 : Int) : Option (LI × (LB × (Int × Unit))) :=
 dY l_0 <| fun l1 =>
 bnd (S_ref04_Take l1 n_1 n_2 0 65535) <| fun p2 =>
 dI p2.1 <| fun l3 =>
 dY p2.2.1 <| fun l4 =>
 some (l3, (l4, (p2.2.2.1, ())))
noncomputable def q_ref12_Take : Lift := ⟨tyX, look2 .todo (α := LoopAs) (.o), [c_ref04_Take], bsX⟩
theorem u_ref12_Take {N : Nat} {a0 : LB} {a1 : Int} {a2 : Int} {q : (LI × (LB × (Int × Unit)))} (h : M_ref12_Take N a0 a1 a2 = some q) : S_ref12_Take a0 a1 a2 = some q :=
 Sof_of (Q := q_ref12_Take) (N := N) (n := 3) (f := 41) (tin := i_ref12_Take) (tout := o_ref12_Take) (d := (a0, (a1, (a2, ())))) (all1 k_ref04_Take all0) bs_ok (by kernel_rfl) (by kernel_rfl) (by kernel_rfl) (Eq.trans (b := M_ref12_Take N a0 a1 a2) (by kernel_rfl) h)

noncomputable def M_ref13_Right (N : Nat) (l_0 : LN) : Option (Bool × Unit) :=
 joinK (δ := Unit) (cnd (ltI (vlen (eN l_0)) 1)
   (rightK <| some (false, ()))
   (cnd (ltI 120 (vlen (eN l_0)))
    (rightK <| some (false, ()))
    (qS (eN l_0) <|
    leftK ())))
 <| fun x1 =>
 qS (eN l_0) <|
 iter (fun (d2 : (Int × (Int × Unit))) again3 =>
  cnd (ltI d2.2.1 (vlen (eN l_0)))
   (chk (leI 0 d2.2.1) <|
   getE tN (eN l_0) (natI d2.2.1) <| fun p4 =>
   joinK (δ := Unit) (cnd (ltI p4.2.1 0)
     (rightK <| some (false, ()))
     (cnd (ltI 39 p4.2.1)
      (rightK <| some (false, ()))
      (cnd (ltI p4.2.2.1 0)
       (rightK <| some (false, ()))
       (cnd (ltI 65535 p4.2.2.1)
        (rightK <| some (false, ()))
        (cnd (ltI p4.2.2.2.2.1 0)
         (rightK <| some (false, ()))
         (cnd (ltI 8 p4.2.2.2.2.1)
          (rightK <| some (false, ()))
          (cnd (ltI p4.2.2.2.1 d2.1)
           (rightK <| some (false, ()))
           (cnd (ltI 256 p4.2.2.2.1)
            (rightK <| some (false, ()))
            (cnd (ltI p4.2.2.2.2.2.1 p4.2.2.2.1)
             (rightK <| some (false, ()))
             (cnd (ltI 256 p4.2.2.2.2.2.1)
              (rightK <| some (false, ()))
              (cnd (ltI (wrp .i64 (subI p4.2.2.2.2.2.1 p4.2.2.2.1)) p4.2.2.2.2.1)
               (rightK <| some (false, ()))
               (qI p4.1 <|
               qI p4.2.1 <|
               qI p4.2.2.1 <|
               qI p4.2.2.2.1 <|
               qI p4.2.2.2.2.1 <|
               qI p4.2.2.2.2.2.1 <|
               qI p4.2.2.2.2.2.2 <|
               qS (eN l_0) <|
               qI d2.2.1 <|
               leftK ()))))))))))))
   <| fun x5 =>
   joinK (δ := Unit) (cnd (eqI d2.2.1 0)
     (cnd (notB (eqI p4.1 (-1)))
      (rightK <| some (false, ()))
      (cnd (notB (eqI p4.2.2.1 0))
       (rightK <| some (false, ()))
       (cnd (notB (eqI p4.2.2.2.1 0))
        (rightK <| some (false, ()))
        (cnd (notB (eqI p4.2.2.2.2.2.2 0))
         (rightK <| some (false, ()))
         (qI p4.1 <|
         qI p4.2.1 <|
         qI p4.2.2.1 <|
         qI p4.2.2.2.1 <|
         qI p4.2.2.2.2.1 <|
         qI p4.2.2.2.2.2.1 <|
         qI p4.2.2.2.2.2.2 <|
         qS (eN l_0) <|
         qI d2.2.1 <|
         leftK ())))))
     (qI p4.1 <|
     qI p4.2.1 <|
     qI p4.2.2.1 <|
     qI p4.2.2.2.1 <|
     qI p4.2.2.2.2.1 <|
     qI p4.2.2.2.2.2.1 <|
     qI p4.2.2.2.2.2.2 <|
     qS (eN l_0) <|
     qI d2.2.1 <|
     leftK ()))
   <| fun x6 =>
   joinK (δ := Unit) (cnd (ltI 0 d2.2.1)
     (cnd (ltI p4.1 0)
      (rightK <| some (false, ()))
      (cnd (leI d2.2.1 p4.1)
       (rightK <| some (false, ()))
       (cnd (ltI p4.2.2.2.2.2.2 1)
        (rightK <| some (false, ()))
        (cnd (ltI 1999 p4.2.2.2.2.2.2)
         (rightK <| some (false, ()))
         (qI p4.1 <|
         qI p4.2.1 <|
         qI p4.2.2.1 <|
         qI p4.2.2.2.1 <|
         qI p4.2.2.2.2.1 <|
         qI p4.2.2.2.2.2.1 <|
         qI p4.2.2.2.2.2.2 <|
         qS (eN l_0) <|
         qI d2.2.1 <|
         leftK ())))))
     (qI p4.1 <|
     qI p4.2.1 <|
     qI p4.2.2.1 <|
     qI p4.2.2.2.1 <|
     qI p4.2.2.2.2.1 <|
     qI p4.2.2.2.2.2.1 <|
     qI p4.2.2.2.2.2.2 <|
     qS (eN l_0) <|
     qI d2.2.1 <|
     leftK ()))
   <| fun x7 =>
   qS (eN l_0) <|
   again3 (p4.2.2.2.2.2.1, ((wrp .i64 (addI d2.2.1 1)), ())))
   (some (true, ()))) N (0, (0, ()))
noncomputable def q_ref13_Right : Lift := ⟨tyX, look2 .todo (α := LoopAs) (.n 87 [(5, (.as ⟨[], [], (.one, [.fix]) :: (.one, [.junk]) :: (.one, [.junk]) :: (.one, [.hole tI]) :: (.one, [.hole tI]) :: rp 127 (.one, [.junk]) ([])⟩)), (1012292, (.as ⟨[], [], (.one, [.fix]) :: rp 131 (.one, [.junk]) ([])⟩)), (1040971, (.as ⟨[], [[.fix, .fix, .fix, .fix, .fix, .fix, .fix]], (.one, [.fix]) :: (.one, [.junk]) :: (.one, [.junk]) :: (.one, [.junk]) :: (.one, [.fix]) :: (.one, [.stat (.ptr 0 0)]) :: rp 126 (.one, [.junk]) ([])⟩)), (1049165, (.as ⟨[], [[.fix, .fix, .fix, .fix, .fix, .fix, .fix]], (.one, [.fix]) :: (.one, [.junk]) :: (.one, [.junk]) :: (.one, [.junk]) :: (.one, [.fix]) :: (.one, [.stat (.ptr 0 0)]) :: rp 126 (.one, [.junk]) ([])⟩)), (1057359, (.as ⟨[], [[.fix, .fix, .fix, .fix, .fix, .fix, .fix]], (.one, [.fix]) :: (.one, [.junk]) :: (.one, [.junk]) :: (.one, [.junk]) :: (.one, [.fix]) :: (.one, [.stat (.ptr 0 0)]) :: rp 126 (.one, [.junk]) ([])⟩))] .o .o), [], bsX⟩
theorem u_ref13_Right {N : Nat} {a0 : LN} {q : (Bool × Unit)} (h : M_ref13_Right N a0 = some q) : S_ref13_Right a0 = some q :=
 Sof_of (Q := q_ref13_Right) (N := N) (n := 3) (f := 87) (tin := i_ref13_Right) (tout := o_ref13_Right) (d := (a0, ())) all0 bs_ok (by kernel_rfl) (by kernel_rfl) (by kernel_rfl) (Eq.trans (b := M_ref13_Right N a0) (by kernel_rfl) h)
end Go.Proofs.YtkdnbnkbnegckaaGreat
