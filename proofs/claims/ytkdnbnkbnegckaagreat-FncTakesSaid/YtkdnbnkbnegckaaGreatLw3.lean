/- Functions, lifted: what the program comes to by them. -/
import Derived.Test.YtkdnbnkbnegckaaGreatLwA
namespace Go.Proofs.YtkdnbnkbnegckaaGreat
open Go.RowKit
set_option maxRecDepth 100000
noncomputable def M_ref13_Take (N : Nat) (l_0 : LB) (n_1 : Int) : Option (LN × (LB × (Int × Unit))) :=
 dY l_0 <| fun l1 =>
 bnd (S_ref02_Num l1 n_1 120) <| fun p2 =>
 joinK (δ := (LN × (LB × (Int × (Int × Unit))))) (decL tN [] <| fun l3 =>
  dY p2.2.1 <| fun l4 =>
  qI p2.1 <|
  iter (fun (d5 : (LN × (LB × (Int × (Int × (Int × Unit)))))) again6 =>
   joinK (δ := (LN × Unit)) (cnd (ltI d5.2.2.2.2.1 p2.1)
     (cnd (eqI d5.2.2.1 0)
      (dN d5.1 <| fun l7 =>
      qS (eY d5.2.1) <|
      qI d5.2.2.1 <|
      qI d5.2.2.2.1 <|
      qI p2.1 <|
      qN (vnum (eN d5.1)) <|
      qI d5.2.2.2.2.1 <|
      leftK (l7, ()))
      (rightK <| dN d5.1 <| fun l8 =>
      dY d5.2.1 <| fun l9 =>
      qN (vnum (eN d5.1)) <|
      leftK (l8, (l9, (d5.2.2.1, (d5.2.2.2.1, ()))))))
     (rightK <| dN d5.1 <| fun l10 =>
     dY d5.2.1 <| fun l11 =>
     qN (vnum (eN d5.1)) <|
     leftK (l10, (l11, (d5.2.2.1, (d5.2.2.2.1, ()))))))
   <| fun p12 =>
   dY d5.2.1 <| fun l13 =>
   bnd (S_ref02_Int l13 d5.2.2.1) <| fun p14 =>
   dY p14.2.1 <| fun l15 =>
   bnd (S_ref02_Int l15 p14.2.2.1) <| fun p16 =>
   dY p16.2.1 <| fun l17 =>
   bnd (S_ref02_Int l17 p16.2.2.1) <| fun p18 =>
   dY p18.2.1 <| fun l19 =>
   bnd (S_ref02_Int l19 p18.2.2.1) <| fun p20 =>
   dY p20.2.1 <| fun l21 =>
   bnd (S_ref02_Int l21 p20.2.2.1) <| fun p22 =>
   dY p22.2.1 <| fun l23 =>
   bnd (S_ref02_Int l23 p22.2.2.1) <| fun p24 =>
   dY p24.2.1 <| fun l25 =>
   bnd (S_ref02_Int l25 p24.2.2.1) <| fun p26 =>
   qN (vnum (eN p12.1)) <|
   chk (room (vnum (eN p12.1)) (vnum (vcut [[(C.v (Go.Value.int .i64 p14.1)), (C.v (Go.Value.int .i64 p16.1)), (C.v (Go.Value.int .i64 p18.1)), (C.v (Go.Value.int .i64 p20.1)), (C.v (Go.Value.int .i64 p22.1)), (C.v (Go.Value.int .i64 p24.1)), (C.v (Go.Value.int .i64 p26.1))]] 0 1)) 56) <|
   decL tN (vapp (eN p12.1) (vcut [[(C.v (Go.Value.int .i64 p14.1)), (C.v (Go.Value.int .i64 p16.1)), (C.v (Go.Value.int .i64 p18.1)), (C.v (Go.Value.int .i64 p20.1)), (C.v (Go.Value.int .i64 p22.1)), (C.v (Go.Value.int .i64 p24.1)), (C.v (Go.Value.int .i64 p26.1))]] 0 1)) <| fun l27 =>
   dY p26.2.1 <| fun l28 =>
   qI p2.1 <|
   chk (eqN (addN (vnum (eN p12.1)) (vnum (vcut [[(C.v (Go.Value.int .i64 p14.1)), (C.v (Go.Value.int .i64 p16.1)), (C.v (Go.Value.int .i64 p18.1)), (C.v (Go.Value.int .i64 p20.1)), (C.v (Go.Value.int .i64 p22.1)), (C.v (Go.Value.int .i64 p24.1)), (C.v (Go.Value.int .i64 p26.1))]] 0 1))) (vnum (vapp (eN p12.1) (vcut [[(C.v (Go.Value.int .i64 p14.1)), (C.v (Go.Value.int .i64 p16.1)), (C.v (Go.Value.int .i64 p18.1)), (C.v (Go.Value.int .i64 p20.1)), (C.v (Go.Value.int .i64 p22.1)), (C.v (Go.Value.int .i64 p24.1)), (C.v (Go.Value.int .i64 p26.1))]] 0 1)))) <|
   again6 (l27, (l28, (p26.2.2.1, (d5.2.2.2.1, ((wrp .i64 (addI d5.2.2.2.2.1 1)), ())))))) N (l3, (l4, (p2.2.2.1, (0, (0, ()))))))
 <| fun p29 =>
 joinK (δ := (LN × (LB × (Int × (Int × Unit))))) (joinK (δ := (LN × (Bool × Unit))) (cnd (eqI p29.2.2.1 0)
    (chk (leN (addN 0 (vnum (eN p29.1))) (vnum (eN p29.1))) <|
    decL tN (vcut (eN p29.1) 0 (vnum (eN p29.1))) <| fun l30 =>
    bnd (S_ref13_Right l30) <| fun p31 =>
    dN p29.1 <| fun l32 =>
    qS (eY p29.2.1) <|
    qI p29.2.2.1 <|
    qI p29.2.2.2.1 <|
    qN (vnum (eN p29.1)) <|
    leftK (l32, ((notB p31.1), ())))
    (dN p29.1 <| fun l33 =>
    qS (eY p29.2.1) <|
    qI p29.2.2.1 <|
    qI p29.2.2.2.1 <|
    qN (vnum (eN p29.1)) <|
    leftK (l33, (false, ()))))
  <| fun p34 =>
  cnd p34.2.1
   (dY p29.2.1 <| fun l35 =>
   bnd (S_ref02_Fail l35 p29.2.2.1 14) <| fun p36 =>
   dN p34.1 <| fun l37 =>
   dY p36.1 <| fun l38 =>
   qN (vnum (eN p34.1)) <|
   leftK (l37, (l38, (p36.2.1, (p29.2.2.2.1, ())))))
   (dN p34.1 <| fun l39 =>
   dY p29.2.1 <| fun l40 =>
   qN (vnum (eN p34.1)) <|
   leftK (l39, (l40, (p29.2.2.1, (p29.2.2.2.1, ()))))))
 <| fun p41 =>
 cnd (notB (eqI p41.2.2.1 0))
  (decL tN [] <| fun l42 =>
  dY p41.2.1 <| fun l43 =>
  some (l42, (l43, (p41.2.2.1, ()))))
  (chk (leN (addN 0 (vnum (eN p41.1))) (vnum (eN p41.1))) <|
  decL tN (vcut (eN p41.1) 0 (vnum (eN p41.1))) <| fun l44 =>
  dY p41.2.1 <| fun l45 =>
  some (l44, (l45, (p41.2.2.1, ()))))
noncomputable def q_ref13_Take : Lift := ⟨tyX, look2 .todo (α := LoopAs) (.n 42 [(4, (.as ⟨[.mu 115 7 tN], [[.hole (.sl 1 tY), .hole tI], [.stat (.c (.v (.slice none 0 0))), .hole tI]], (.one, [.junk]) :: (.one, [.stat (.ptr 0 0)]) :: (.one, [.junk]) :: (.one, [.stat (.ptr 1 0)]) :: (.one, [.fix]) :: (.one, [.own 0]) :: (.one, [.hole tI]) :: rp 62 (.one, [.junk]) ([])⟩)), (8, (.times 8)), (1020487, (.as ⟨[.mu 115 7 tN], [[.fix, .fix], [.stat (.c (.v (.slice none 0 0))), .fix]], (.one, [.junk]) :: (.one, [.stat (.ptr 0 0)]) :: (.one, [.junk]) :: (.one, [.stat (.ptr 1 0)]) :: (.one, [.fix]) :: (.one, [.own 0]) :: (.one, [.fix]) :: rp 62 (.one, [.junk]) ([])⟩)), (1024589, (.as ⟨[.mu 115 7 tN], [[.hole (.sl 1 tY), .hole tI], [.stat (.c (.v (.slice none 0 0))), .hole tI]], (.one, [.junk]) :: (.one, [.stat (.ptr 0 0)]) :: (.one, [.junk]) :: (.one, [.stat (.ptr 1 0)]) :: (.one, [.junk]) :: (.one, [.own 0]) :: rp 63 (.one, [.junk]) ([])⟩)), (1053262, (.as ⟨[.mu 115 7 tN], [[.fix, .fix], [.stat (.c (.v (.slice none 0 0))), .fix]], (.one, [.junk]) :: (.one, [.stat (.ptr 0 0)]) :: (.one, [.junk]) :: (.one, [.stat (.ptr 1 0)]) :: (.one, [.junk]) :: (.one, [.own 0]) :: rp 54 (.one, [.junk]) ((.one, [.hole .bool]) :: rp 8 (.one, [.junk]) ([]))⟩)), (1057359, (.as ⟨[.mu 115 7 tN], [[.hole (.sl 1 tY), .hole tI], [.stat (.c (.v (.slice none 0 0))), .hole tI]], (.one, [.junk]) :: (.one, [.stat (.ptr 0 0)]) :: (.one, [.junk]) :: (.one, [.stat (.ptr 1 0)]) :: (.one, [.junk]) :: (.one, [.own 0]) :: rp 63 (.one, [.junk]) ([])⟩))] .o .o), [c_ref02_Num, c_ref02_Fail, c_ref02_Int, c_ref13_Right], bsX⟩
theorem u_ref13_Take {N : Nat} {a0 : LB} {a1 : Int} {q : (LN × (LB × (Int × Unit)))} (h : M_ref13_Take N a0 a1 = some q) : S_ref13_Take a0 a1 = some q :=
 Sof_of (Q := q_ref13_Take) (N := N) (n := 3) (f := 42) (tin := i_ref13_Take) (tout := o_ref13_Take) (d := (a0, (a1, ()))) (all1 k_ref02_Num (all1 k_ref02_Fail (all1 k_ref02_Int (all1 k_ref13_Right all0)))) bs_ok (by kernel_rfl) (by kernel_rfl) (by kernel_rfl) (Eq.trans (b := M_ref13_Take N a0 a1) (by kernel_rfl) h)

noncomputable def M_ref03_Range (N : Nat) (n_0 : Int) (n_1 : Int) : Option (Int × (Int × (Int × (Int × Unit)))) :=
 qI n_1 <|
 iter (fun (d1 : (Int × (Int × (Int × (Int × (Int × (Int × (Int × (Int × (Int × Unit)))))))))) again2 =>
  cnd (ltI d1.2.2.2.2.2.2.2.2.1 (minI n_1 256))
   (joinK (δ := (Int × (Int × (Int × (Int × (Int × (Int × (Int × (Int × Unit))))))))) (cnd (eqI (wrp .i64 (quoI d1.2.2.2.2.2.2.2.2.1 64)) 3)
     (chk (leI 0 (wrp .u64 (remI d1.2.2.2.2.2.2.2.2.1 64))) <|
     cnd (eqI (wrp .i64 (quoI d1.2.2.2.2.2.2.2.2.1 64)) 3)
      (qI n_1 <|
      qI d1.2.2.2.2.2.2.2.2.1 <|
      leftK (d1.1, (d1.2.1, (d1.2.2.1, (d1.2.2.2.1, (d1.2.2.2.2.1, (d1.2.2.2.2.2.1, (d1.2.2.2.2.2.2.1, ((wrp .u64 (addI d1.2.2.2.2.2.2.2.1 (wrp .u64 (shlI .u64 1 (wrp .u64 (remI d1.2.2.2.2.2.2.2.2.1 64)))))), ())))))))))
      (cnd (eqI (wrp .i64 (quoI d1.2.2.2.2.2.2.2.2.1 64)) 2)
       (qI n_1 <|
       qI d1.2.2.2.2.2.2.2.2.1 <|
       leftK (d1.1, (d1.2.1, (d1.2.2.1, (d1.2.2.2.1, (d1.2.2.2.2.1, (d1.2.2.2.2.2.1, ((wrp .u64 (addI d1.2.2.2.2.2.2.2.1 (wrp .u64 (shlI .u64 1 (wrp .u64 (remI d1.2.2.2.2.2.2.2.2.1 64)))))), (d1.2.2.2.2.2.2.2.1, ())))))))))
       (cnd (eqI (wrp .i64 (quoI d1.2.2.2.2.2.2.2.2.1 64)) 1)
        (qI n_1 <|
        qI d1.2.2.2.2.2.2.2.2.1 <|
        leftK (d1.1, (d1.2.1, (d1.2.2.1, (d1.2.2.2.1, (d1.2.2.2.2.1, ((wrp .u64 (addI d1.2.2.2.2.2.2.2.1 (wrp .u64 (shlI .u64 1 (wrp .u64 (remI d1.2.2.2.2.2.2.2.2.1 64)))))), (d1.2.2.2.2.2.2.1, (d1.2.2.2.2.2.2.2.1, ())))))))))
        (cnd (eqI (wrp .i64 (quoI d1.2.2.2.2.2.2.2.2.1 64)) 0)
         (qI n_1 <|
         qI d1.2.2.2.2.2.2.2.2.1 <|
         leftK (d1.1, (d1.2.1, (d1.2.2.1, (d1.2.2.2.1, ((wrp .u64 (addI d1.2.2.2.2.2.2.2.1 (wrp .u64 (shlI .u64 1 (wrp .u64 (remI d1.2.2.2.2.2.2.2.2.1 64)))))), (d1.2.2.2.2.2.1, (d1.2.2.2.2.2.2.1, (d1.2.2.2.2.2.2.2.1, ())))))))))
         (none)))))
     (cnd (eqI (wrp .i64 (quoI d1.2.2.2.2.2.2.2.2.1 64)) 2)
      (chk (leI 0 (wrp .u64 (remI d1.2.2.2.2.2.2.2.2.1 64))) <|
      cnd (eqI (wrp .i64 (quoI d1.2.2.2.2.2.2.2.2.1 64)) 3)
       (qI n_1 <|
       qI d1.2.2.2.2.2.2.2.2.1 <|
       leftK (d1.1, (d1.2.1, (d1.2.2.1, (d1.2.2.2.1, (d1.2.2.2.2.1, (d1.2.2.2.2.2.1, (d1.2.2.2.2.2.2.1, ((wrp .u64 (addI d1.2.2.2.2.2.2.1 (wrp .u64 (shlI .u64 1 (wrp .u64 (remI d1.2.2.2.2.2.2.2.2.1 64)))))), ())))))))))
       (cnd (eqI (wrp .i64 (quoI d1.2.2.2.2.2.2.2.2.1 64)) 2)
        (qI n_1 <|
        qI d1.2.2.2.2.2.2.2.2.1 <|
        leftK (d1.1, (d1.2.1, (d1.2.2.1, (d1.2.2.2.1, (d1.2.2.2.2.1, (d1.2.2.2.2.2.1, ((wrp .u64 (addI d1.2.2.2.2.2.2.1 (wrp .u64 (shlI .u64 1 (wrp .u64 (remI d1.2.2.2.2.2.2.2.2.1 64)))))), (d1.2.2.2.2.2.2.2.1, ())))))))))
        (cnd (eqI (wrp .i64 (quoI d1.2.2.2.2.2.2.2.2.1 64)) 1)
         (qI n_1 <|
         qI d1.2.2.2.2.2.2.2.2.1 <|
         leftK (d1.1, (d1.2.1, (d1.2.2.1, (d1.2.2.2.1, (d1.2.2.2.2.1, ((wrp .u64 (addI d1.2.2.2.2.2.2.1 (wrp .u64 (shlI .u64 1 (wrp .u64 (remI d1.2.2.2.2.2.2.2.2.1 64)))))), (d1.2.2.2.2.2.2.1, (d1.2.2.2.2.2.2.2.1, ())))))))))
         (cnd (eqI (wrp .i64 (quoI d1.2.2.2.2.2.2.2.2.1 64)) 0)
          (qI n_1 <|
          qI d1.2.2.2.2.2.2.2.2.1 <|
          leftK (d1.1, (d1.2.1, (d1.2.2.1, (d1.2.2.2.1, ((wrp .u64 (addI d1.2.2.2.2.2.2.1 (wrp .u64 (shlI .u64 1 (wrp .u64 (remI d1.2.2.2.2.2.2.2.2.1 64)))))), (d1.2.2.2.2.2.1, (d1.2.2.2.2.2.2.1, (d1.2.2.2.2.2.2.2.1, ())))))))))
          (none)))))
      (cnd (eqI (wrp .i64 (quoI d1.2.2.2.2.2.2.2.2.1 64)) 1)
       (chk (leI 0 (wrp .u64 (remI d1.2.2.2.2.2.2.2.2.1 64))) <|
       cnd (eqI (wrp .i64 (quoI d1.2.2.2.2.2.2.2.2.1 64)) 3)
        (qI n_1 <|
        qI d1.2.2.2.2.2.2.2.2.1 <|
        leftK (d1.1, (d1.2.1, (d1.2.2.1, (d1.2.2.2.1, (d1.2.2.2.2.1, (d1.2.2.2.2.2.1, (d1.2.2.2.2.2.2.1, ((wrp .u64 (addI d1.2.2.2.2.2.1 (wrp .u64 (shlI .u64 1 (wrp .u64 (remI d1.2.2.2.2.2.2.2.2.1 64)))))), ())))))))))
        (cnd (eqI (wrp .i64 (quoI d1.2.2.2.2.2.2.2.2.1 64)) 2)
         (qI n_1 <|
         qI d1.2.2.2.2.2.2.2.2.1 <|
         leftK (d1.1, (d1.2.1, (d1.2.2.1, (d1.2.2.2.1, (d1.2.2.2.2.1, (d1.2.2.2.2.2.1, ((wrp .u64 (addI d1.2.2.2.2.2.1 (wrp .u64 (shlI .u64 1 (wrp .u64 (remI d1.2.2.2.2.2.2.2.2.1 64)))))), (d1.2.2.2.2.2.2.2.1, ())))))))))
         (cnd (eqI (wrp .i64 (quoI d1.2.2.2.2.2.2.2.2.1 64)) 1)
          (qI n_1 <|
          qI d1.2.2.2.2.2.2.2.2.1 <|
          leftK (d1.1, (d1.2.1, (d1.2.2.1, (d1.2.2.2.1, (d1.2.2.2.2.1, ((wrp .u64 (addI d1.2.2.2.2.2.1 (wrp .u64 (shlI .u64 1 (wrp .u64 (remI d1.2.2.2.2.2.2.2.2.1 64)))))), (d1.2.2.2.2.2.2.1, (d1.2.2.2.2.2.2.2.1, ())))))))))
          (cnd (eqI (wrp .i64 (quoI d1.2.2.2.2.2.2.2.2.1 64)) 0)
           (qI n_1 <|
           qI d1.2.2.2.2.2.2.2.2.1 <|
           leftK (d1.1, (d1.2.1, (d1.2.2.1, (d1.2.2.2.1, ((wrp .u64 (addI d1.2.2.2.2.2.1 (wrp .u64 (shlI .u64 1 (wrp .u64 (remI d1.2.2.2.2.2.2.2.2.1 64)))))), (d1.2.2.2.2.2.1, (d1.2.2.2.2.2.2.1, (d1.2.2.2.2.2.2.2.1, ())))))))))
           (none)))))
       (cnd (eqI (wrp .i64 (quoI d1.2.2.2.2.2.2.2.2.1 64)) 0)
        (chk (leI 0 (wrp .u64 (remI d1.2.2.2.2.2.2.2.2.1 64))) <|
        cnd (eqI (wrp .i64 (quoI d1.2.2.2.2.2.2.2.2.1 64)) 3)
         (qI n_1 <|
         qI d1.2.2.2.2.2.2.2.2.1 <|
         leftK (d1.1, (d1.2.1, (d1.2.2.1, (d1.2.2.2.1, (d1.2.2.2.2.1, (d1.2.2.2.2.2.1, (d1.2.2.2.2.2.2.1, ((wrp .u64 (addI d1.2.2.2.2.1 (wrp .u64 (shlI .u64 1 (wrp .u64 (remI d1.2.2.2.2.2.2.2.2.1 64)))))), ())))))))))
         (cnd (eqI (wrp .i64 (quoI d1.2.2.2.2.2.2.2.2.1 64)) 2)
          (qI n_1 <|
          qI d1.2.2.2.2.2.2.2.2.1 <|
          leftK (d1.1, (d1.2.1, (d1.2.2.1, (d1.2.2.2.1, (d1.2.2.2.2.1, (d1.2.2.2.2.2.1, ((wrp .u64 (addI d1.2.2.2.2.1 (wrp .u64 (shlI .u64 1 (wrp .u64 (remI d1.2.2.2.2.2.2.2.2.1 64)))))), (d1.2.2.2.2.2.2.2.1, ())))))))))
          (cnd (eqI (wrp .i64 (quoI d1.2.2.2.2.2.2.2.2.1 64)) 1)
           (qI n_1 <|
           qI d1.2.2.2.2.2.2.2.2.1 <|
           leftK (d1.1, (d1.2.1, (d1.2.2.1, (d1.2.2.2.1, (d1.2.2.2.2.1, ((wrp .u64 (addI d1.2.2.2.2.1 (wrp .u64 (shlI .u64 1 (wrp .u64 (remI d1.2.2.2.2.2.2.2.2.1 64)))))), (d1.2.2.2.2.2.2.1, (d1.2.2.2.2.2.2.2.1, ())))))))))
           (cnd (eqI (wrp .i64 (quoI d1.2.2.2.2.2.2.2.2.1 64)) 0)
            (qI n_1 <|
            qI d1.2.2.2.2.2.2.2.2.1 <|
            leftK (d1.1, (d1.2.1, (d1.2.2.1, (d1.2.2.2.1, ((wrp .u64 (addI d1.2.2.2.2.1 (wrp .u64 (shlI .u64 1 (wrp .u64 (remI d1.2.2.2.2.2.2.2.2.1 64)))))), (d1.2.2.2.2.2.1, (d1.2.2.2.2.2.2.1, (d1.2.2.2.2.2.2.2.1, ())))))))))
            (none)))))
        (none)))))
   <| fun p3 =>
   qI n_1 <|
   again2 (p3.1, (p3.2.1, (p3.2.2.1, (p3.2.2.2.1, (p3.2.2.2.2.1, (p3.2.2.2.2.2.1, (p3.2.2.2.2.2.2.1, (p3.2.2.2.2.2.2.2.1, ((wrp .i64 (addI d1.2.2.2.2.2.2.2.2.1 1)), ()))))))))))
   (some (d1.2.2.2.2.1, (d1.2.2.2.2.2.1, (d1.2.2.2.2.2.2.1, (d1.2.2.2.2.2.2.2.1, ())))))) N (0, (0, (0, (0, (0, (0, (0, (0, ((maxI n_0 0), ())))))))))
noncomputable def q_ref03_Range : Lift := ⟨tyX, look2 .todo (α := LoopAs) (.n 89 [(3, (.as ⟨[], [[.hole tW, .hole tW, .hole tW, .hole tW], [.hole tW, .hole tW, .hole tW, .hole tW]], (.one, [.junk]) :: (.one, [.fix]) :: (.one, [.junk]) :: (.one, [.junk]) :: (.one, [.stat (.ptr 0 0)]) :: (.one, [.stat (.ptr 1 0)]) :: (.one, [.hole tI]) :: rp 21 (.one, [.junk]) ([])⟩)), (1024581, (.as ⟨[], [[.hole tW, .hole tW, .hole tW, .hole tW], [.hole tW, .hole tW, .hole tW, .hole tW]], (.one, [.junk]) :: (.one, [.fix]) :: (.one, [.junk]) :: (.one, [.junk]) :: (.one, [.stat (.ptr 0 0)]) :: (.one, [.stat (.ptr 1 0)]) :: (.one, [.fix]) :: rp 21 (.one, [.junk]) ([])⟩))] .o .o), [], bsX⟩
theorem u_ref03_Range {N : Nat} {a0 : Int} {a1 : Int} {q : (Int × (Int × (Int × (Int × Unit))))} (h : M_ref03_Range N a0 a1 = some q) : S_ref03_Range a0 a1 = some q :=
 Sof_of (Q := q_ref03_Range) (N := N) (n := 3) (f := 89) (tin := i_ref03_Range) (tout := o_ref03_Range) (d := (a0, (a1, ()))) all0 bs_ok (by kernel_rfl) (by kernel_rfl) (by kernel_rfl) (Eq.trans (b := M_ref03_Range N a0 a1) (by kernel_rfl) h)

noncomputable def M_ref03_Sub (N : Nat) (n_0 : Int) (n_1 : Int) (n_2 : Int) (n_3 : Int) (n_4 : Int) (n_5 : Int) (n_6 : Int) (n_7 : Int) : Option (Int × (Int × (Int × (Int × Unit)))) :=
 some ((bitI .andNot .u64 n_0 n_4), ((bitI .andNot .u64 n_1 n_5), ((bitI .andNot .u64 n_2 n_6), ((bitI .andNot .u64 n_3 n_7), ()))))
noncomputable def q_ref03_Sub : Lift := ⟨tyX, look2 .todo (α := LoopAs) (.n 134 [(2, (.times 5))] .o .o), [], bsX⟩
theorem u_ref03_Sub {N : Nat} {a0 : Int} {a1 : Int} {a2 : Int} {a3 : Int} {a4 : Int} {a5 : Int} {a6 : Int} {a7 : Int} {q : (Int × (Int × (Int × (Int × Unit))))} (h : M_ref03_Sub N a0 a1 a2 a3 a4 a5 a6 a7 = some q) : S_ref03_Sub a0 a1 a2 a3 a4 a5 a6 a7 = some q :=
 Sof_of (Q := q_ref03_Sub) (N := N) (n := 3) (f := 134) (tin := i_ref03_Sub) (tout := o_ref03_Sub) (d := (a0, (a1, (a2, (a3, (a4, (a5, (a6, (a7, ()))))))))) all0 bs_ok (by kernel_rfl) (by kernel_rfl) (by kernel_rfl) (Eq.trans (b := M_ref03_Sub N a0 a1 a2 a3 a4 a5 a6 a7) (by kernel_rfl) h)

noncomputable def M_ref03_Inside (N : Nat) (n_0 : Int) (n_1 : Int) (n_2 : Int) (n_3 : Int) (n_4 : Int) (n_5 : Int) (n_6 : Int) (n_7 : Int) : Option (Bool × Unit) :=
 bnd (S_ref03_Sub n_0 n_1 n_2 n_3 n_4 n_5 n_6 n_7) <| fun p1 =>
 some ((eqL [p1.1, p1.2.1, p1.2.2.1, p1.2.2.2.1] [0, 0, 0, 0]), ())
noncomputable def q_ref03_Inside : Lift := ⟨tyX, look2 .todo (α := LoopAs) (.o), [c_ref03_Sub], bsX⟩
theorem u_ref03_Inside {N : Nat} {a0 : Int} {a1 : Int} {a2 : Int} {a3 : Int} {a4 : Int} {a5 : Int} {a6 : Int} {a7 : Int} {q : (Bool × Unit)} (h : M_ref03_Inside N a0 a1 a2 a3 a4 a5 a6 a7 = some q) : S_ref03_Inside a0 a1 a2 a3 a4 a5 a6 a7 = some q :=
 Sof_of (Q := q_ref03_Inside) (N := N) (n := 3) (f := 88) (tin := i_ref03_Inside) (tout := o_ref03_Inside) (d := (a0, (a1, (a2, (a3, (a4, (a5, (a6, (a7, ()))))))))) (all1 k_ref03_Sub all0) bs_ok (by kernel_rfl) (by kernel_rfl) (by kernel_rfl) (Eq.trans (b := M_ref03_Inside N a0 a1 a2 a3 a4 a5 a6 a7) (by kernel_rfl) h)

end Go.Proofs.YtkdnbnkbnegckaaGreat
