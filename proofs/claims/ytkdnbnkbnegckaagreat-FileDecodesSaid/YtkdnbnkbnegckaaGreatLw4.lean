/- Functions, lifted: what the program comes to by them. Functions, lifted: what the program comes to by them. -/
import Derived.Test.YtkdnbnkbnegckaaGreatLwA
namespace Go.Proofs.YtkdnbnkbnegckaaGreat
open Go.RowKit
set_option maxRecDepth 100000
set_option linter.unusedVariables false
noncomputable def M_ref13_Take (N : Nat) (l_0 : LB) (n_1 : Int) : Option (LN × (LB × (Int × Unit))) :=
 dY l_0 <| fun l1 =>
 bnd (S_ref02_Num l1 n_1 120) <| fun p2 =>
 joinK (δ := (LN × (LB × (Int × (Int × Unit))))) (decL tN [] <| fun l3 =>
  dY p2.2.1 <| fun l4 =>
  qI p2.1 <|
  iter (fun (d5 : (LN × (LB × (Int × (Int × (Int × Unit)))))) again6 =>
   joinK (δ := (LN × Unit)) (cnd (ltI d5.2.2.2.2.1 p2.1)
     (cnd (eqI d5.2.2.1 0)
      (dN d5.1 <| fun l7 =>
      qS (eY d5.2.1) <|
      qI d5.2.2.1 <|
      qI d5.2.2.2.1 <|
      qI p2.1 <|
      qN (vnum (eN d5.1)) <|
      qI d5.2.2.2.2.1 <|
      leftK (l7, ()))
      (rightK <| dN d5.1 <| fun l8 =>
      dY d5.2.1 <| fun l9 =>
      qN (vnum (eN d5.1)) <|
      leftK (l8, (l9, (d5.2.2.1, (d5.2.2.2.1, ()))))))
     (rightK <| dN d5.1 <| fun l10 =>
     dY d5.2.1 <| fun l11 =>
     qN (vnum (eN d5.1)) <|
     leftK (l10, (l11, (d5.2.2.1, (d5.2.2.2.1, ()))))))
   <| fun p12 =>
   dY d5.2.1 <| fun l13 =>
   bnd (S_ref02_Int l13 d5.2.2.1) <| fun p14 =>
   dY p14.2.1 <| fun l15 =>
   bnd (S_ref02_Int l15 p14.2.2.1) <| fun p16 =>
   dY p16.2.1 <| fun l17 =>
   bnd (S_ref02_Int l17 p16.2.2.1) <| fun p18 =>
   dY p18.2.1 <| fun l19 =>
   bnd (S_ref02_Int l19 p18.2.2.1) <| fun p20 =>
   dY p20.2.1 <| fun l21 =>
   bnd (S_ref02_Int l21 p20.2.2.1) <| fun p22 =>
   dY p22.2.1 <| fun l23 =>
   bnd (S_ref02_Int l23 p22.2.2.1) <| fun p24 =>
   dY p24.2.1 <| fun l25 =>
   bnd (S_ref02_Int l25 p24.2.2.1) <| fun p26 =>
   qN (vnum (eN p12.1)) <|
   chk (room (vnum (eN p12.1)) (vnum (vcut [[(C.v (Go.Value.int .i64 p14.1)), (C.v (Go.Value.int .i64 p16.1)), (C.v (Go.Value.int .i64 p18.1)), (C.v (Go.Value.int .i64 p20.1)), (C.v (Go.Value.int .i64 p22.1)), (C.v (Go.Value.int .i64 p24.1)), (C.v (Go.Value.int .i64 p26.1))]] 0 1)) 56) <|
   decL tN (vapp (eN p12.1) (vcut [[(C.v (Go.Value.int .i64 p14.1)), (C.v (Go.Value.int .i64 p16.1)), (C.v (Go.Value.int .i64 p18.1)), (C.v (Go.Value.int .i64 p20.1)), (C.v (Go.Value.int .i64 p22.1)), (C.v (Go.Value.int .i64 p24.1)), (C.v (Go.Value.int .i64 p26.1))]] 0 1)) <| fun l27 =>
   dY p26.2.1 <| fun l28 =>
   qI p2.1 <|
   chk (eqN (addN (vnum (eN p12.1)) (vnum (vcut [[(C.v (Go.Value.int .i64 p14.1)), (C.v (Go.Value.int .i64 p16.1)), (C.v (Go.Value.int .i64 p18.1)), (C.v (Go.Value.int .i64 p20.1)), (C.v (Go.Value.int .i64 p22.1)), (C.v (Go.Value.int .i64 p24.1)), (C.v (Go.Value.int .i64 p26.1))]] 0 1))) (vnum (vapp (eN p12.1) (vcut [[(C.v (Go.Value.int .i64 p14.1)), (C.v (Go.Value.int .i64 p16.1)), (C.v (Go.Value.int .i64 p18.1)), (C.v (Go.Value.int .i64 p20.1)), (C.v (Go.Value.int .i64 p22.1)), (C.v (Go.Value.int .i64 p24.1)), (C.v (Go.Value.int .i64 p26.1))]] 0 1)))) <|
   again6 (l27, (l28, (p26.2.2.1, (d5.2.2.2.1, ((wrp .i64 (addI d5.2.2.2.2.1 1)), ())))))) N (l3, (l4, (p2.2.2.1, (0, (0, ()))))))
 <| fun p29 =>
 joinK (δ := (LN × (LB × (Int × (Int × Unit))))) (joinK (δ := (LN × (Bool × Unit))) (cnd (eqI p29.2.2.1 0)
    (chk (leN (addN 0 (vnum (eN p29.1))) (vnum (eN p29.1))) <|
    decL tN (vcut (eN p29.1) 0 (vnum (eN p29.1))) <| fun l30 =>
    bnd (S_ref13_Right l30) <| fun p31 =>
    dN p29.1 <| fun l32 =>
    qS (eY p29.2.1) <|
    qI p29.2.2.1 <|
    qI p29.2.2.2.1 <|
    qN (vnum (eN p29.1)) <|
    leftK (l32, ((notB p31.1), ())))
    (dN p29.1 <| fun l33 =>
    qS (eY p29.2.1) <|
    qI p29.2.2.1 <|
    qI p29.2.2.2.1 <|
    qN (vnum (eN p29.1)) <|
    leftK (l33, (false, ()))))
  <| fun p34 =>
  cnd p34.2.1
   (dY p29.2.1 <| fun l35 =>
   bnd (S_ref02_Fail l35 p29.2.2.1 14) <| fun p36 =>
   dN p34.1 <| fun l37 =>
   dY p36.1 <| fun l38 =>
   qN (vnum (eN p34.1)) <|
   leftK (l37, (l38, (p36.2.1, (p29.2.2.2.1, ())))))
   (dN p34.1 <| fun l39 =>
   dY p29.2.1 <| fun l40 =>
   qN (vnum (eN p34.1)) <|
   leftK (l39, (l40, (p29.2.2.1, (p29.2.2.2.1, ()))))))
 <| fun p41 =>
 cnd (notB (eqI p41.2.2.1 0))
  (decL tN [] <| fun l42 =>
  dY p41.2.1 <| fun l43 =>
  some (l42, (l43, (p41.2.2.1, ()))))
  (chk (leN (addN 0 (vnum (eN p41.1))) (vnum (eN p41.1))) <|
  decL tN (vcut (eN p41.1) 0 (vnum (eN p41.1))) <| fun l44 =>
  dY p41.2.1 <| fun l45 =>
  some (l44, (l45, (p41.2.2.1, ()))))
noncomputable def q_ref13_Take : Lift := ⟨tyX, look2 .todo (α := LoopAs) (.n 42 [(4, (.as ⟨[.mu 115 7 tN], [[.hole (.sl 1 tY), .hole tI], [.stat (.c (.v (.slice none 0 0))), .hole tI]], (.one, [.junk]) :: (.one, [.stat (.ptr 0 0)]) :: (.one, [.junk]) :: (.one, [.stat (.ptr 1 0)]) :: (.one, [.fix]) :: (.one, [.own 0]) :: (.one, [.hole tI]) :: rp 62 (.one, [.junk]) ([])⟩)), (8, (.times 8)), (1020487, (.as ⟨[.mu 115 7 tN], [[.fix, .fix], [.stat (.c (.v (.slice none 0 0))), .fix]], (.one, [.junk]) :: (.one, [.stat (.ptr 0 0)]) :: (.one, [.junk]) :: (.one, [.stat (.ptr 1 0)]) :: (.one, [.fix]) :: (.one, [.own 0]) :: (.one, [.fix]) :: rp 62 (.one, [.junk]) ([])⟩)), (1024589, (.as ⟨[.mu 115 7 tN], [[.hole (.sl 1 tY), .hole tI], [.stat (.c (.v (.slice none 0 0))), .hole tI]], (.one, [.junk]) :: (.one, [.stat (.ptr 0 0)]) :: (.one, [.junk]) :: (.one, [.stat (.ptr 1 0)]) :: (.one, [.junk]) :: (.one, [.own 0]) :: rp 63 (.one, [.junk]) ([])⟩)), (1053262, (.as ⟨[.mu 115 7 tN], [[.fix, .fix], [.stat (.c (.v (.slice none 0 0))), .fix]], (.one, [.junk]) :: (.one, [.stat (.ptr 0 0)]) :: (.one, [.junk]) :: (.one, [.stat (.ptr 1 0)]) :: (.one, [.junk]) :: (.one, [.own 0]) :: rp 54 (.one, [.junk]) ((.one, [.hole .bool]) :: rp 8 (.one, [.junk]) ([]))⟩)), (1057359, (.as ⟨[.mu 115 7 tN], [[.hole (.sl 1 tY), .hole tI], [.stat (.c (.v (.slice none 0 0))), .hole tI]], (.one, [.junk]) :: (.one, [.stat (.ptr 0 0)]) :: (.one, [.junk]) :: (.one, [.stat (.ptr 1 0)]) :: (.one, [.junk]) :: (.one, [.own 0]) :: rp 63 (.one, [.junk]) ([])⟩))] .o .o), [c_ref02_Num, c_ref02_Fail, c_ref02_Int, c_ref13_Right], bsX⟩
theorem u_ref13_Take {N : Nat} {a0 : LB} {a1 : Int} {q : (LN × (LB × (Int × Unit)))} (h : M_ref13_Take N a0 a1 = some q) : S_ref13_Take a0 a1 = some q :=
 Sof_of (Q := q_ref13_Take) (N := N) (n := 3) (f := 42) (tin := i_ref13_Take) (tout := o_ref13_Take) (d := (a0, (a1, ()))) (all1 k_ref02_Num (all1 k_ref02_Fail (all1 k_ref02_Int (all1 k_ref13_Right all0)))) bs_ok (by kernel_rfl) (by kernel_rfl) (by kernel_rfl) (Eq.trans (b := M_ref13_Take N a0 a1) (by kernel_rfl) h)

noncomputable def M_ref03_Range (N : Nat) (n_0 : Int) (n_1 : Int) : Option (Int × (Int × (Int × (Int × Unit)))) :=
 qI n_1 <|
 iter (fun (d1 : (Int × (Int × (Int × (Int × (Int × (Int × (Int × (Int × (Int × Unit)))))))))) again2 =>
  cnd (ltI d1.2.2.2.2.2.2.2.2.1 (minI n_1 256))
   (joinK (δ := (Int × (Int × (Int × (Int × (Int × (Int × (Int × (Int × Unit))))))))) (cnd (eqI (wrp .i64 (quoI d1.2.2.2.2.2.2.2.2.1 64)) 3)
     (chk (leI 0 (wrp .u64 (remI d1.2.2.2.2.2.2.2.2.1 64))) <|
     cnd (eqI (wrp .i64 (quoI d1.2.2.2.2.2.2.2.2.1 64)) 3)
      (qI n_1 <|
      qI d1.2.2.2.2.2.2.2.2.1 <|
      leftK (d1.1, (d1.2.1, (d1.2.2.1, (d1.2.2.2.1, (d1.2.2.2.2.1, (d1.2.2.2.2.2.1, (d1.2.2.2.2.2.2.1, ((wrp .u64 (addI d1.2.2.2.2.2.2.2.1 (wrp .u64 (shlI .u64 1 (wrp .u64 (remI d1.2.2.2.2.2.2.2.2.1 64)))))), ())))))))))
      (cnd (eqI (wrp .i64 (quoI d1.2.2.2.2.2.2.2.2.1 64)) 2)
       (qI n_1 <|
       qI d1.2.2.2.2.2.2.2.2.1 <|
       leftK (d1.1, (d1.2.1, (d1.2.2.1, (d1.2.2.2.1, (d1.2.2.2.2.1, (d1.2.2.2.2.2.1, ((wrp .u64 (addI d1.2.2.2.2.2.2.2.1 (wrp .u64 (shlI .u64 1 (wrp .u64 (remI d1.2.2.2.2.2.2.2.2.1 64)))))), (d1.2.2.2.2.2.2.2.1, ())))))))))
       (cnd (eqI (wrp .i64 (quoI d1.2.2.2.2.2.2.2.2.1 64)) 1)
        (qI n_1 <|
        qI d1.2.2.2.2.2.2.2.2.1 <|
        leftK (d1.1, (d1.2.1, (d1.2.2.1, (d1.2.2.2.1, (d1.2.2.2.2.1, ((wrp .u64 (addI d1.2.2.2.2.2.2.2.1 (wrp .u64 (shlI .u64 1 (wrp .u64 (remI d1.2.2.2.2.2.2.2.2.1 64)))))), (d1.2.2.2.2.2.2.1, (d1.2.2.2.2.2.2.2.1, ())))))))))
        (cnd (eqI (wrp .i64 (quoI d1.2.2.2.2.2.2.2.2.1 64)) 0)
         (qI n_1 <|
         qI d1.2.2.2.2.2.2.2.2.1 <|
         leftK (d1.1, (d1.2.1, (d1.2.2.1, (d1.2.2.2.1, ((wrp .u64 (addI d1.2.2.2.2.2.2.2.1 (wrp .u64 (shlI .u64 1 (wrp .u64 (remI d1.2.2.2.2.2.2.2.2.1 64)))))), (d1.2.2.2.2.2.1, (d1.2.2.2.2.2.2.1, (d1.2.2.2.2.2.2.2.1, ())))))))))
         (none)))))
     (cnd (eqI (wrp .i64 (quoI d1.2.2.2.2.2.2.2.2.1 64)) 2)
      (chk (leI 0 (wrp .u64 (remI d1.2.2.2.2.2.2.2.2.1 64))) <|
      cnd (eqI (wrp .i64 (quoI d1.2.2.2.2.2.2.2.2.1 64)) 3)
       (qI n_1 <|
       qI d1.2.2.2.2.2.2.2.2.1 <|
       leftK (d1.1, (d1.2.1, (d1.2.2.1, (d1.2.2.2.1, (d1.2.2.2.2.1, (d1.2.2.2.2.2.1, (d1.2.2.2.2.2.2.1, ((wrp .u64 (addI d1.2.2.2.2.2.2.1 (wrp .u64 (shlI .u64 1 (wrp .u64 (remI d1.2.2.2.2.2.2.2.2.1 64)))))), ())))))))))
       (cnd (eqI (wrp .i64 (quoI d1.2.2.2.2.2.2.2.2.1 64)) 2)
        (qI n_1 <|
        qI d1.2.2.2.2.2.2.2.2.1 <|
        leftK (d1.1, (d1.2.1, (d1.2.2.1, (d1.2.2.2.1, (d1.2.2.2.2.1, (d1.2.2.2.2.2.1, ((wrp .u64 (addI d1.2.2.2.2.2.2.1 (wrp .u64 (shlI .u64 1 (wrp .u64 (remI d1.2.2.2.2.2.2.2.2.1 64)))))), (d1.2.2.2.2.2.2.2.1, ())))))))))
        (cnd (eqI (wrp .i64 (quoI d1.2.2.2.2.2.2.2.2.1 64)) 1)
         (qI n_1 <|
         qI d1.2.2.2.2.2.2.2.2.1 <|
         leftK (d1.1, (d1.2.1, (d1.2.2.1, (d1.2.2.2.1, (d1.2.2.2.2.1, ((wrp .u64 (addI d1.2.2.2.2.2.2.1 (wrp .u64 (shlI .u64 1 (wrp .u64 (remI d1.2.2.2.2.2.2.2.2.1 64)))))), (d1.2.2.2.2.2.2.1, (d1.2.2.2.2.2.2.2.1, ())))))))))
         (cnd (eqI (wrp .i64 (quoI d1.2.2.2.2.2.2.2.2.1 64)) 0)
          (qI n_1 <|
          qI d1.2.2.2.2.2.2.2.2.1 <|
          leftK (d1.1, (d1.2.1, (d1.2.2.1, (d1.2.2.2.1, ((wrp .u64 (addI d1.2.2.2.2.2.2.1 (wrp .u64 (shlI .u64 1 (wrp .u64 (remI d1.2.2.2.2.2.2.2.2.1 64)))))), (d1.2.2.2.2.2.1, (d1.2.2.2.2.2.2.1, (d1.2.2.2.2.2.2.2.1, ())))))))))
          (none)))))
      (cnd (eqI (wrp .i64 (quoI d1.2.2.2.2.2.2.2.2.1 64)) 1)
       (chk (leI 0 (wrp .u64 (remI d1.2.2.2.2.2.2.2.2.1 64))) <|
       cnd (eqI (wrp .i64 (quoI d1.2.2.2.2.2.2.2.2.1 64)) 3)
        (qI n_1 <|
        qI d1.2.2.2.2.2.2.2.2.1 <|
        leftK (d1.1, (d1.2.1, (d1.2.2.1, (d1.2.2.2.1, (d1.2.2.2.2.1, (d1.2.2.2.2.2.1, (d1.2.2.2.2.2.2.1, ((wrp .u64 (addI d1.2.2.2.2.2.1 (wrp .u64 (shlI .u64 1 (wrp .u64 (remI d1.2.2.2.2.2.2.2.2.1 64)))))), ())))))))))
        (cnd (eqI (wrp .i64 (quoI d1.2.2.2.2.2.2.2.2.1 64)) 2)
         (qI n_1 <|
         qI d1.2.2.2.2.2.2.2.2.1 <|
         leftK (d1.1, (d1.2.1, (d1.2.2.1, (d1.2.2.2.1, (d1.2.2.2.2.1, (d1.2.2.2.2.2.1, ((wrp .u64 (addI d1.2.2.2.2.2.1 (wrp .u64 (shlI .u64 1 (wrp .u64 (remI d1.2.2.2.2.2.2.2.2.1 64)))))), (d1.2.2.2.2.2.2.2.1, ())))))))))
         (cnd (eqI (wrp .i64 (quoI d1.2.2.2.2.2.2.2.2.1 64)) 1)
          (qI n_1 <|
          qI d1.2.2.2.2.2.2.2.2.1 <|
          leftK (d1.1, (d1.2.1, (d1.2.2.1, (d1.2.2.2.1, (d1.2.2.2.2.1, ((wrp .u64 (addI d1.2.2.2.2.2.1 (wrp .u64 (shlI .u64 1 (wrp .u64 (remI d1.2.2.2.2.2.2.2.2.1 64)))))), (d1.2.2.2.2.2.2.1, (d1.2.2.2.2.2.2.2.1, ())))))))))
          (cnd (eqI (wrp .i64 (quoI d1.2.2.2.2.2.2.2.2.1 64)) 0)
           (qI n_1 <|
           qI d1.2.2.2.2.2.2.2.2.1 <|
           leftK (d1.1, (d1.2.1, (d1.2.2.1, (d1.2.2.2.1, ((wrp .u64 (addI d1.2.2.2.2.2.1 (wrp .u64 (shlI .u64 1 (wrp .u64 (remI d1.2.2.2.2.2.2.2.2.1 64)))))), (d1.2.2.2.2.2.1, (d1.2.2.2.2.2.2.1, (d1.2.2.2.2.2.2.2.1, ())))))))))
           (none)))))
       (cnd (eqI (wrp .i64 (quoI d1.2.2.2.2.2.2.2.2.1 64)) 0)
        (chk (leI 0 (wrp .u64 (remI d1.2.2.2.2.2.2.2.2.1 64))) <|
        cnd (eqI (wrp .i64 (quoI d1.2.2.2.2.2.2.2.2.1 64)) 3)
         (qI n_1 <|
         qI d1.2.2.2.2.2.2.2.2.1 <|
         leftK (d1.1, (d1.2.1, (d1.2.2.1, (d1.2.2.2.1, (d1.2.2.2.2.1, (d1.2.2.2.2.2.1, (d1.2.2.2.2.2.2.1, ((wrp .u64 (addI d1.2.2.2.2.1 (wrp .u64 (shlI .u64 1 (wrp .u64 (remI d1.2.2.2.2.2.2.2.2.1 64)))))), ())))))))))
         (cnd (eqI (wrp .i64 (quoI d1.2.2.2.2.2.2.2.2.1 64)) 2)
          (qI n_1 <|
          qI d1.2.2.2.2.2.2.2.2.1 <|
          leftK (d1.1, (d1.2.1, (d1.2.2.1, (d1.2.2.2.1, (d1.2.2.2.2.1, (d1.2.2.2.2.2.1, ((wrp .u64 (addI d1.2.2.2.2.1 (wrp .u64 (shlI .u64 1 (wrp .u64 (remI d1.2.2.2.2.2.2.2.2.1 64)))))), (d1.2.2.2.2.2.2.2.1, ())))))))))
          (cnd (eqI (wrp .i64 (quoI d1.2.2.2.2.2.2.2.2.1 64)) 1)
           (qI n_1 <|
           qI d1.2.2.2.2.2.2.2.2.1 <|
           leftK (d1.1, (d1.2.1, (d1.2.2.1, (d1.2.2.2.1, (d1.2.2.2.2.1, ((wrp .u64 (addI d1.2.2.2.2.1 (wrp .u64 (shlI .u64 1 (wrp .u64 (remI d1.2.2.2.2.2.2.2.2.1 64)))))), (d1.2.2.2.2.2.2.1, (d1.2.2.2.2.2.2.2.1, ())))))))))
           (cnd (eqI (wrp .i64 (quoI d1.2.2.2.2.2.2.2.2.1 64)) 0)
            (qI n_1 <|
            qI d1.2.2.2.2.2.2.2.2.1 <|
            leftK (d1.1, (d1.2.1, (d1.2.2.1, (d1.2.2.2.1, ((wrp .u64 (addI d1.2.2.2.2.1 (wrp .u64 (shlI .u64 1 (wrp .u64 (remI d1.2.2.2.2.2.2.2.2.1 64)))))), (d1.2.2.2.2.2.1, (d1.2.2.2.2.2.2.1, (d1.2.2.2.2.2.2.2.1, ())))))))))
            (none)))))
        (none)))))
   <| fun p3 =>
   qI n_1 <|
   again2 (p3.1, (p3.2.1, (p3.2.2.1, (p3.2.2.2.1, (p3.2.2.2.2.1, (p3.2.2.2.2.2.1, (p3.2.2.2.2.2.2.1, (p3.2.2.2.2.2.2.2.1, ((wrp .i64 (addI d1.2.2.2.2.2.2.2.2.1 1)), ()))))))))))
   (some (d1.2.2.2.2.1, (d1.2.2.2.2.2.1, (d1.2.2.2.2.2.2.1, (d1.2.2.2.2.2.2.2.1, ())))))) N (0, (0, (0, (0, (0, (0, (0, (0, ((maxI n_0 0), ())))))))))
noncomputable def q_ref03_Range : Lift := ⟨tyX, look2 .todo (α := LoopAs) (.n 89 [(3, (.as ⟨[], [[.hole tW, .hole tW, .hole tW, .hole tW], [.hole tW, .hole tW, .hole tW, .hole tW]], (.one, [.junk]) :: (.one, [.fix]) :: (.one, [.junk]) :: (.one, [.junk]) :: (.one, [.stat (.ptr 0 0)]) :: (.one, [.stat (.ptr 1 0)]) :: (.one, [.hole tI]) :: rp 21 (.one, [.junk]) ([])⟩)), (1024581, (.as ⟨[], [[.hole tW, .hole tW, .hole tW, .hole tW], [.hole tW, .hole tW, .hole tW, .hole tW]], (.one, [.junk]) :: (.one, [.fix]) :: (.one, [.junk]) :: (.one, [.junk]) :: (.one, [.stat (.ptr 0 0)]) :: (.one, [.stat (.ptr 1 0)]) :: (.one, [.fix]) :: rp 21 (.one, [.junk]) ([])⟩))] .o .o), [], bsX⟩
theorem u_ref03_Range {N : Nat} {a0 : Int} {a1 : Int} {q : (Int × (Int × (Int × (Int × Unit))))} (h : M_ref03_Range N a0 a1 = some q) : S_ref03_Range a0 a1 = some q :=
 Sof_of (Q := q_ref03_Range) (N := N) (n := 3) (f := 89) (tin := i_ref03_Range) (tout := o_ref03_Range) (d := (a0, (a1, ()))) all0 bs_ok (by kernel_rfl) (by kernel_rfl) (by kernel_rfl) (Eq.trans (b := M_ref03_Range N a0 a1) (by kernel_rfl) h)

noncomputable def M_ref03_Sub (N : Nat) (n_0 : Int) (n_1 : Int) (n_2 : Int) (n_3 : Int) (n_4 : Int) (n_5 : Int) (n_6 : Int) (n_7 : Int) : Option (Int × (Int × (Int × (Int × Unit)))) :=
 some ((bitI .andNot .u64 n_0 n_4), ((bitI .andNot .u64 n_1 n_5), ((bitI .andNot .u64 n_2 n_6), ((bitI .andNot .u64 n_3 n_7), ()))))
noncomputable def q_ref03_Sub : Lift := ⟨tyX, look2 .todo (α := LoopAs) (.n 134 [(2, (.times 5))] .o .o), [], bsX⟩
theorem u_ref03_Sub {N : Nat} {a0 : Int} {a1 : Int} {a2 : Int} {a3 : Int} {a4 : Int} {a5 : Int} {a6 : Int} {a7 : Int} {q : (Int × (Int × (Int × (Int × Unit))))} (h : M_ref03_Sub N a0 a1 a2 a3 a4 a5 a6 a7 = some q) : S_ref03_Sub a0 a1 a2 a3 a4 a5 a6 a7 = some q :=
 Sof_of (Q := q_ref03_Sub) (N := N) (n := 3) (f := 134) (tin := i_ref03_Sub) (tout := o_ref03_Sub) (d := (a0, (a1, (a2, (a3, (a4, (a5, (a6, (a7, ()))))))))) all0 bs_ok (by kernel_rfl) (by kernel_rfl) (by kernel_rfl) (Eq.trans (b := M_ref03_Sub N a0 a1 a2 a3 a4 a5 a6 a7) (by kernel_rfl) h)

noncomputable def M_ref03_Inside (N : Nat) (n_0 : Int) (n_1 : Int) (n_2 : Int) (n_3 : Int) (n_4 : Int) (n_5 : Int) (n_6 : Int) (n_7 : Int) : Option (Bool × Unit) :=
 bnd (S_ref03_Sub n_0 n_1 n_2 n_3 n_4 n_5 n_6 n_7) <| fun p1 =>
 some ((eqL [p1.1, p1.2.1, p1.2.2.1, p1.2.2.2.1] [0, 0, 0, 0]), ())
noncomputable def q_ref03_Inside : Lift := ⟨tyX, look2 .todo (α := LoopAs) (.o), [c_ref03_Sub], bsX⟩
theorem u_ref03_Inside {N : Nat} {a0 : Int} {a1 : Int} {a2 : Int} {a3 : Int} {a4 : Int} {a5 : Int} {a6 : Int} {a7 : Int} {q : (Bool × Unit)} (h : M_ref03_Inside N a0 a1 a2 a3 a4 a5 a6 a7 = some q) : S_ref03_Inside a0 a1 a2 a3 a4 a5 a6 a7 = some q :=
 Sof_of (Q := q_ref03_Inside) (N := N) (n := 3) (f := 88) (tin := i_ref03_Inside) (tout := o_ref03_Inside) (d := (a0, (a1, (a2, (a3, (a4, (a5, (a6, (a7, ()))))))))) (all1 k_ref03_Sub all0) bs_ok (by kernel_rfl) (by kernel_rfl) (by kernel_rfl) (Eq.trans (b := M_ref03_Inside N a0 a1 a2 a3 a4 a5 a6 a7) (by kernel_rfl) h)
end Go.Proofs.YtkdnbnkbnegckaaGreat
namespace Go.Proofs.YtkdnbnkbnegckaaGreat
open Go.RowKit
set_option maxRecDepth 100000
set_option linter.unusedVariables false
noncomputable def M_ref14_Take (N : Nat) (l_0 : LB) (n_1 : Int) (n_2 : Int) (n_3 : Int) : Option (LS × (LB × (Int × Unit))) :=
 joinK (δ := (LS × (LB × (Int × (Int × Unit))))) (decL tS [] <| fun l1 =>
  dY l_0 <| fun l2 =>
  qI n_2 <|
  qI n_3 <|
  iter (fun (d3 : (LS × (LB × (Int × (Int × Unit))))) again4 =>
   joinK (δ := (LS × Unit)) (chk (leN (addN 0 (vnum (eS d3.1))) (vnum (eS d3.1))) <|
    cnd (ltI (vlen (vcut (eS d3.1) 0 (vnum (eS d3.1)))) n_2)
     (cnd (eqI d3.2.2.1 0)
      (dS d3.1 <| fun l5 =>
      qS (eY d3.2.1) <|
      qI d3.2.2.1 <|
      qI d3.2.2.2.1 <|
      qI n_2 <|
      qI n_3 <|
      qN (vnum (eS d3.1)) <|
      leftK (l5, ()))
      (rightK <| dS d3.1 <| fun l6 =>
      dY d3.2.1 <| fun l7 =>
      qN (vnum (eS d3.1)) <|
      leftK (l6, (l7, (d3.2.2.1, (d3.2.2.2.1, ()))))))
     (rightK <| dS d3.1 <| fun l8 =>
     dY d3.2.1 <| fun l9 =>
     qN (vnum (eS d3.1)) <|
     leftK (l8, (l9, (d3.2.2.1, (d3.2.2.2.1, ()))))))
   <| fun p10 =>
   dY d3.2.1 <| fun l11 =>
   bnd (S_ref02_Bits l11 d3.2.2.1) <| fun p12 =>
   joinK (δ := (LS × (Bool × Unit))) (cnd (eqI p12.2.2.1 0)
     (cnd (eqI p12.1 0)
      (dS p10.1 <| fun l13 =>
      qS (eY d3.2.1) <|
      qI d3.2.2.1 <|
      qI d3.2.2.2.1 <|
      qS (eY p12.2.1) <|
      qI p12.2.2.1 <|
      qI n_2 <|
      qI n_3 <|
      qN (vnum (eS p10.1)) <|
      qI p12.1 <|
      leftK (l13, (true, ())))
      (chk (leN (addN 0 (vnum (eS p10.1))) (vnum (eS p10.1))) <|
      dS p10.1 <| fun l14 =>
      qS (eY d3.2.1) <|
      qI d3.2.2.1 <|
      qI d3.2.2.2.1 <|
      qS (eY p12.2.1) <|
      qI p12.2.2.1 <|
      qI n_2 <|
      qI n_3 <|
      qN (vnum (eS p10.1)) <|
      qI p12.1 <|
      leftK (l14, ((ltI (wrp .u64 (wrp .i64 (subI n_2 (vlen (vcut (eS p10.1) 0 (vnum (eS p10.1))))))) p12.1), ()))))
     (dS p10.1 <| fun l15 =>
     qS (eY d3.2.1) <|
     qI d3.2.2.1 <|
     qI d3.2.2.2.1 <|
     qS (eY p12.2.1) <|
     qI p12.2.2.1 <|
     qI n_2 <|
     qI n_3 <|
     qN (vnum (eS p10.1)) <|
     qI p12.1 <|
     leftK (l15, (false, ()))))
   <| fun p16 =>
   cnd p16.2.1
    (dY p12.2.1 <| fun l17 =>
    bnd (S_ref02_Fail l17 p12.2.2.1 5) <| fun p18 =>
    rightK <| decL tS [] <| fun l19 =>
    dY p18.1 <| fun l20 =>
    some (l19, (l20, (p18.2.1, ()))))
    (dY p12.2.1 <| fun l21 =>
    bnd (S_ref02_Bits l21 p12.2.2.1) <| fun p22 =>
    dY p22.2.1 <| fun l23 =>
    bnd (S_ref02_Bits l23 p22.2.2.1) <| fun p24 =>
    dY p24.2.1 <| fun l25 =>
    bnd (S_ref02_Bits l25 p24.2.2.1) <| fun p26 =>
    dY p26.2.1 <| fun l27 =>
    bnd (S_ref02_Bits l27 p26.2.2.1) <| fun p28 =>
    joinK (δ := (LS × (Bool × Unit))) (cnd (eqI p28.2.2.1 0)
      (chk (leN (addN 0 (vnum (eS p16.1))) (vnum (eS p16.1))) <|
      cnd (ltI 0 (vlen (vcut (eS p16.1) 0 (vnum (eS p16.1)))))
       (chk (leN (addN 0 (vnum (eS p16.1))) (vnum (eS p16.1))) <|
       chk (leI 0 (wrp .i64 (subI (vlen (vcut (eS p16.1) 0 (vnum (eS p16.1)))) 1))) <|
       chk (ltI (wrp .i64 (subI (vlen (vcut (eS p16.1) 0 (vnum (eS p16.1)))) 1)) (Int.ofNat (vnum (eS p16.1)))) <|
       chk (leN (addN 0 (vnum (eS p16.1))) (vnum (eS p16.1))) <|
       getE tS (eS p16.1) (addN 0 (natI (wrp .i64 (subI (vlen (vcut (eS p16.1) 0 (vnum (eS p16.1)))) 1)))) <| fun p29 =>
       dS p16.1 <| fun l30 =>
       qS (eY d3.2.1) <|
       qI d3.2.2.1 <|
       qI d3.2.2.2.1 <|
       qS (eY p28.2.1) <|
       qI p28.2.2.1 <|
       qI p22.1 <|
       qI p24.1 <|
       qI p26.1 <|
       qI p28.1 <|
       qI n_2 <|
       qI n_3 <|
       qN (vnum (eS p16.1)) <|
       qI p12.1 <|
       leftK (l30, ((eqL [p29.1, p29.2.1, p29.2.2.1, p29.2.2.2] [p22.1, p24.1, p26.1, p28.1]), ())))
       (dS p16.1 <| fun l31 =>
       qS (eY d3.2.1) <|
       qI d3.2.2.1 <|
       qI d3.2.2.2.1 <|
       qS (eY p28.2.1) <|
       qI p28.2.2.1 <|
       qI p22.1 <|
       qI p24.1 <|
       qI p26.1 <|
       qI p28.1 <|
       qI n_2 <|
       qI n_3 <|
       qN (vnum (eS p16.1)) <|
       qI p12.1 <|
       leftK (l31, (false, ()))))
      (dS p16.1 <| fun l32 =>
      qS (eY d3.2.1) <|
      qI d3.2.2.1 <|
      qI d3.2.2.2.1 <|
      qS (eY p28.2.1) <|
      qI p28.2.2.1 <|
      qI p22.1 <|
      qI p24.1 <|
      qI p26.1 <|
      qI p28.1 <|
      qI n_2 <|
      qI n_3 <|
      qN (vnum (eS p16.1)) <|
      qI p12.1 <|
      leftK (l32, (false, ()))))
    <| fun p33 =>
    cnd p33.2.1
     (dY p28.2.1 <| fun l34 =>
     bnd (S_ref02_Fail l34 p28.2.2.1 5) <| fun p35 =>
     rightK <| decL tS [] <| fun l36 =>
     dY p35.1 <| fun l37 =>
     some (l36, (l37, (p35.2.1, ()))))
     (joinK (δ := (LS × (Bool × Unit))) (cnd (eqI p28.2.2.1 0)
       (bnd (S_ref03_Range 0 n_3) <| fun p38 =>
       bnd (S_ref03_Inside p22.1 p24.1 p26.1 p28.1 p38.1 p38.2.1 p38.2.2.1 p38.2.2.2.1) <| fun p39 =>
       dS p33.1 <| fun l40 =>
       qS (eY d3.2.1) <|
       qI d3.2.2.1 <|
       qI d3.2.2.2.1 <|
       qS (eY p28.2.1) <|
       qI p28.2.2.1 <|
       qI p22.1 <|
       qI p24.1 <|
       qI p26.1 <|
       qI p28.1 <|
       qI n_2 <|
       qI n_3 <|
       qN (vnum (eS p33.1)) <|
       qI p12.1 <|
       leftK (l40, ((notB p39.1), ())))
       (dS p33.1 <| fun l41 =>
       qS (eY d3.2.1) <|
       qI d3.2.2.1 <|
       qI d3.2.2.2.1 <|
       qS (eY p28.2.1) <|
       qI p28.2.2.1 <|
       qI p22.1 <|
       qI p24.1 <|
       qI p26.1 <|
       qI p28.1 <|
       qI n_2 <|
       qI n_3 <|
       qN (vnum (eS p33.1)) <|
       qI p12.1 <|
       leftK (l41, (false, ()))))
     <| fun p42 =>
     cnd p42.2.1
      (dY p28.2.1 <| fun l43 =>
      bnd (S_ref02_Fail l43 p28.2.2.1 14) <| fun p44 =>
      rightK <| decL tS [] <| fun l45 =>
      dY p44.1 <| fun l46 =>
      some (l45, (l46, (p44.2.1, ()))))
      (dS p42.1 <| fun l47 =>
      qS (eY p28.2.1) <|
      qI p28.2.2.1 <|
      qI d3.2.2.2.1 <|
      qS (eY p28.2.1) <|
      qI p28.2.2.1 <|
      qI p22.1 <|
      qI p24.1 <|
      qI p26.1 <|
      qI p28.1 <|
      qI n_2 <|
      qI n_3 <|
      qN (vnum (eS p42.1)) <|
      qI p12.1 <|
      iter (fun (d48 : (LS × (Int × Unit))) again49 =>
       joinK (δ := (LS × Unit)) (cnd (ltI d48.2.1 p12.1)
         (cnd (eqI p28.2.2.1 0)
          (dS d48.1 <| fun l50 =>
          qS (eY p28.2.1) <|
          qI p28.2.2.1 <|
          qI d3.2.2.2.1 <|
          qS (eY p28.2.1) <|
          qI p28.2.2.1 <|
          qI p22.1 <|
          qI p24.1 <|
          qI p26.1 <|
          qI p28.1 <|
          qI n_2 <|
          qI n_3 <|
          qN (vnum (eS d48.1)) <|
          qI p12.1 <|
          qI d48.2.1 <|
          leftK (l50, ()))
          (rightK <| dS d48.1 <| fun l51 =>
          dY p28.2.1 <| fun l52 =>
          qI n_2 <|
          qI n_3 <|
          qN (vnum (eS d48.1)) <|
          again4 (l51, (l52, (p28.2.2.1, (d3.2.2.2.1, ()))))))
         (rightK <| dS d48.1 <| fun l53 =>
         dY p28.2.1 <| fun l54 =>
         qI n_2 <|
         qI n_3 <|
         qN (vnum (eS d48.1)) <|
         again4 (l53, (l54, (p28.2.2.1, (d3.2.2.2.1, ()))))))
       <| fun p55 =>
       qN (vnum (eS p55.1)) <|
       chk (room (vnum (eS p55.1)) (vnum (vcut [[(C.v (Go.Value.int .u64 p22.1)), (C.v (Go.Value.int .u64 p24.1)), (C.v (Go.Value.int .u64 p26.1)), (C.v (Go.Value.int .u64 p28.1))]] 0 1)) 32) <|
       decL tS (vapp (eS p55.1) (vcut [[(C.v (Go.Value.int .u64 p22.1)), (C.v (Go.Value.int .u64 p24.1)), (C.v (Go.Value.int .u64 p26.1)), (C.v (Go.Value.int .u64 p28.1))]] 0 1)) <| fun l56 =>
       qS (eY p28.2.1) <|
       qI p28.2.2.1 <|
       qI d3.2.2.2.1 <|
       qS (eY p28.2.1) <|
       qI p28.2.2.1 <|
       qI p22.1 <|
       qI p24.1 <|
       qI p26.1 <|
       qI p28.1 <|
       qI n_2 <|
       qI n_3 <|
       chk (eqN (addN (vnum (eS p55.1)) (vnum (vcut [[(C.v (Go.Value.int .u64 p22.1)), (C.v (Go.Value.int .u64 p24.1)), (C.v (Go.Value.int .u64 p26.1)), (C.v (Go.Value.int .u64 p28.1))]] 0 1))) (vnum (vapp (eS p55.1) (vcut [[(C.v (Go.Value.int .u64 p22.1)), (C.v (Go.Value.int .u64 p24.1)), (C.v (Go.Value.int .u64 p26.1)), (C.v (Go.Value.int .u64 p28.1))]] 0 1)))) <|
       qI p12.1 <|
       again49 (l56, ((wrp .u64 (addI d48.2.1 1)), ()))) N (l47, (0, ())))))) N (l1, (l2, (n_1, (0, ())))))
 <| fun p57 =>
 cnd (notB (eqI p57.2.2.1 0))
  (decL tS [] <| fun l58 =>
  dY p57.2.1 <| fun l59 =>
  some (l58, (l59, (p57.2.2.1, ()))))
  (chk (leN (addN 0 (vnum (eS p57.1))) (vnum (eS p57.1))) <|
  decL tS (vcut (eS p57.1) 0 (vnum (eS p57.1))) <| fun l60 =>
  dY p57.2.1 <| fun l61 =>
  some (l60, (l61, (p57.2.2.1, ()))))
noncomputable def q_ref14_Take : Lift := ⟨tyX, look2 .todo (α := LoopAs) (.n 44 [(2, (.as ⟨[.mu 118 4 tS], [[.hole (.sl 1 tY), .hole tI], [.stat (.c (.v (.slice none 0 0))), .hole tI]], (.one, [.junk]) :: (.one, [.fix]) :: (.one, [.fix]) :: (.one, [.stat (.ptr 0 0)]) :: (.one, [.junk]) :: (.one, [.junk]) :: (.one, [.junk]) :: (.one, [.stat (.ptr 1 0)]) :: (.one, [.own 0]) :: rp 101 (.one, [.junk]) ([])⟩)), (8, (.times 5)), (17, (.as ⟨[.mu 118 4 tS], [[.fix, .fix], [.stat (.c (.v (.slice none 0 0))), .fix], [.fix, .fix], [.fix, .fix, .fix, .fix]], (.one, [.junk]) :: (.one, [.fix]) :: (.one, [.fix]) :: (.one, [.stat (.ptr 0 0)]) :: (.one, [.junk]) :: (.one, [.junk]) :: (.one, [.junk]) :: (.one, [.stat (.ptr 1 0)]) :: (.one, [.own 0]) :: (.one, [.fix]) :: (.one, [.stat (.ptr 2 0)]) :: (.one, [.stat (.ptr 3 0)]) :: (.one, [.junk]) :: (.one, [.hole tW]) :: rp 96 (.one, [.junk]) ([])⟩)), (1012292, (.as ⟨[.mu 118 4 tS], [[.fix, .fix], [.stat (.c (.v (.slice none 0 0))), .fix]], (.one, [.junk]) :: (.one, [.fix]) :: (.one, [.fix]) :: (.one, [.stat (.ptr 0 0)]) :: (.one, [.junk]) :: (.one, [.junk]) :: (.one, [.junk]) :: (.one, [.stat (.ptr 1 0)]) :: (.one, [.own 0]) :: rp 101 (.one, [.junk]) ([])⟩)), (1020486, (.as ⟨[.mu 118 4 tS], [[.fix, .fix], [.stat (.c (.v (.slice none 0 0))), .fix], [.fix, .fix]], (.one, [.junk]) :: (.one, [.fix]) :: (.one, [.fix]) :: (.one, [.stat (.ptr 0 0)]) :: (.one, [.junk]) :: (.one, [.junk]) :: (.one, [.junk]) :: (.one, [.stat (.ptr 1 0)]) :: (.one, [.own 0]) :: (.one, [.fix]) :: (.one, [.stat (.ptr 2 0)]) :: rp 32 (.one, [.junk]) ((.one, [.hole .bool]) :: rp 66 (.one, [.junk]) ([]))⟩)), (1049165, (.as ⟨[.mu 118 4 tS], [[.fix, .fix], [.stat (.c (.v (.slice none 0 0))), .fix], [.fix, .fix], [.fix, .fix, .fix, .fix]], (.one, [.junk]) :: (.one, [.fix]) :: (.one, [.fix]) :: (.one, [.stat (.ptr 0 0)]) :: (.one, [.junk]) :: (.one, [.junk]) :: (.one, [.junk]) :: (.one, [.stat (.ptr 1 0)]) :: (.one, [.own 0]) :: (.one, [.fix]) :: (.one, [.stat (.ptr 2 0)]) :: (.one, [.stat (.ptr 3 0)]) :: rp 62 (.one, [.junk]) ((.one, [.hole .bool]) :: rp 35 (.one, [.junk]) ([]))⟩)), (1057359, (.as ⟨[.mu 118 4 tS], [[.fix, .fix], [.stat (.c (.v (.slice none 0 0))), .fix], [.fix, .fix], [.fix, .fix, .fix, .fix]], (.one, [.junk]) :: (.one, [.fix]) :: (.one, [.fix]) :: (.one, [.stat (.ptr 0 0)]) :: (.one, [.junk]) :: (.one, [.junk]) :: (.one, [.junk]) :: (.one, [.stat (.ptr 1 0)]) :: (.one, [.own 0]) :: (.one, [.fix]) :: (.one, [.stat (.ptr 2 0)]) :: (.one, [.stat (.ptr 3 0)]) :: rp 74 (.one, [.junk]) ((.one, [.hole .bool]) :: rp 23 (.one, [.junk]) ([]))⟩)), (1073748, (.as ⟨[.mu 118 4 tS], [[.fix, .fix], [.stat (.c (.v (.slice none 0 0))), .fix], [.fix, .fix], [.fix, .fix, .fix, .fix]], (.one, [.junk]) :: (.one, [.fix]) :: (.one, [.fix]) :: (.one, [.stat (.ptr 0 0)]) :: (.one, [.junk]) :: (.one, [.junk]) :: (.one, [.junk]) :: (.one, [.stat (.ptr 1 0)]) :: (.one, [.own 0]) :: (.one, [.fix]) :: (.one, [.stat (.ptr 2 0)]) :: (.one, [.stat (.ptr 3 0)]) :: (.one, [.junk]) :: (.one, [.fix]) :: rp 96 (.one, [.junk]) ([])⟩)), (1077845, (.as ⟨[.mu 118 4 tS], [[.hole (.sl 1 tY), .hole tI], [.stat (.c (.v (.slice none 0 0))), .hole tI]], (.one, [.junk]) :: (.one, [.junk]) :: (.one, [.junk]) :: (.one, [.stat (.ptr 0 0)]) :: (.one, [.junk]) :: (.one, [.junk]) :: (.one, [.junk]) :: (.one, [.stat (.ptr 1 0)]) :: (.one, [.own 0]) :: rp 101 (.one, [.junk]) ([])⟩))] .o .o), [c_ref02_Bits, c_ref02_Fail, c_ref03_Range, c_ref03_Inside], bsX⟩
theorem u_ref14_Take {N : Nat} {a0 : LB} {a1 : Int} {a2 : Int} {a3 : Int} {q : (LS × (LB × (Int × Unit)))} (h : M_ref14_Take N a0 a1 a2 a3 = some q) : S_ref14_Take a0 a1 a2 a3 = some q :=
 Sof_of (Q := q_ref14_Take) (N := N) (n := 3) (f := 44) (tin := i_ref14_Take) (tout := o_ref14_Take) (d := (a0, (a1, (a2, (a3, ()))))) (all1 k_ref02_Bits (all1 k_ref02_Fail (all1 k_ref03_Range (all1 k_ref03_Inside all0)))) bs_ok (by kernel_rfl) (by kernel_rfl) (by kernel_rfl) (Eq.trans (b := M_ref14_Take N a0 a1 a2 a3) (by kernel_rfl) h)
end Go.Proofs.YtkdnbnkbnegckaaGreat
