/- Functions, lifted: what the program comes to by them. -/
import Derived.Test.YtkdnbnkbnegckaaGreatLwA
namespace Go.Proofs.YtkdnbnkbnegckaaGreat
open Go.RowKit
set_option maxRecDepth 100000
noncomputable def M_ref14_Take (N : Nat) (l_0 : LB) (n_1 : Int) (n_2 : Int) (n_3 : Int) : Option (LS × (LB × (Int × Unit))) :=
 joinK (δ := (LS × (LB × (Int × (Int × Unit))))) (decL tS [] <| fun l1 =>
  dY l_0 <| fun l2 =>
  qI n_2 <|
  qI n_3 <|
  iter (fun (d3 : (LS × (LB × (Int × (Int × Unit))))) again4 =>
   joinK (δ := (LS × Unit)) (chk (leN (addN 0 (vnum (eS d3.1))) (vnum (eS d3.1))) <|
    cnd (ltI (vlen (vcut (eS d3.1) 0 (vnum (eS d3.1)))) n_2)
     (cnd (eqI d3.2.2.1 0)
      (dS d3.1 <| fun l5 =>
      qS (eY d3.2.1) <|
      qI d3.2.2.1 <|
      qI d3.2.2.2.1 <|
      qI n_2 <|
      qI n_3 <|
      qN (vnum (eS d3.1)) <|
      leftK (l5, ()))
      (rightK <| dS d3.1 <| fun l6 =>
      dY d3.2.1 <| fun l7 =>
      qN (vnum (eS d3.1)) <|
      leftK (l6, (l7, (d3.2.2.1, (d3.2.2.2.1, ()))))))
     (rightK <| dS d3.1 <| fun l8 =>
     dY d3.2.1 <| fun l9 =>
     qN (vnum (eS d3.1)) <|
     leftK (l8, (l9, (d3.2.2.1, (d3.2.2.2.1, ()))))))
   <| fun p10 =>
   dY d3.2.1 <| fun l11 =>
   bnd (S_ref02_Bits l11 d3.2.2.1) <| fun p12 =>
   joinK (δ := (LS × (Bool × Unit))) (cnd (eqI p12.2.2.1 0)
     (cnd (eqI p12.1 0)
      (dS p10.1 <| fun l13 =>
      qS (eY d3.2.1) <|
      qI d3.2.2.1 <|
      qI d3.2.2.2.1 <|
      qS (eY p12.2.1) <|
      qI p12.2.2.1 <|
      qI n_2 <|
      qI n_3 <|
      qN (vnum (eS p10.1)) <|
      qI p12.1 <|
      leftK (l13, (true, ())))
      (chk (leN (addN 0 (vnum (eS p10.1))) (vnum (eS p10.1))) <|
      dS p10.1 <| fun l14 =>
      qS (eY d3.2.1) <|
      qI d3.2.2.1 <|
      qI d3.2.2.2.1 <|
      qS (eY p12.2.1) <|
      qI p12.2.2.1 <|
      qI n_2 <|
      qI n_3 <|
      qN (vnum (eS p10.1)) <|
      qI p12.1 <|
      leftK (l14, ((ltI (wrp .u64 (wrp .i64 (subI n_2 (vlen (vcut (eS p10.1) 0 (vnum (eS p10.1))))))) p12.1), ()))))
     (dS p10.1 <| fun l15 =>
     qS (eY d3.2.1) <|
     qI d3.2.2.1 <|
     qI d3.2.2.2.1 <|
     qS (eY p12.2.1) <|
     qI p12.2.2.1 <|
     qI n_2 <|
     qI n_3 <|
     qN (vnum (eS p10.1)) <|
     qI p12.1 <|
     leftK (l15, (false, ()))))
   <| fun p16 =>
   cnd p16.2.1
    (dY p12.2.1 <| fun l17 =>
    bnd (S_ref02_Fail l17 p12.2.2.1 5) <| fun p18 =>
    rightK <| decL tS [] <| fun l19 =>
    dY p18.1 <| fun l20 =>
    some (l19, (l20, (p18.2.1, ()))))
    (dY p12.2.1 <| fun l21 =>
    bnd (S_ref02_Bits l21 p12.2.2.1) <| fun p22 =>
    dY p22.2.1 <| fun l23 =>
    bnd (S_ref02_Bits l23 p22.2.2.1) <| fun p24 =>
    dY p24.2.1 <| fun l25 =>
    bnd (S_ref02_Bits l25 p24.2.2.1) <| fun p26 =>
    dY p26.2.1 <| fun l27 =>
    bnd (S_ref02_Bits l27 p26.2.2.1) <| fun p28 =>
    joinK (δ := (LS × (Bool × Unit))) (cnd (eqI p28.2.2.1 0)
      (chk (leN (addN 0 (vnum (eS p16.1))) (vnum (eS p16.1))) <|
      cnd (ltI 0 (vlen (vcut (eS p16.1) 0 (vnum (eS p16.1)))))
       (chk (leN (addN 0 (vnum (eS p16.1))) (vnum (eS p16.1))) <|
       chk (leI 0 (wrp .i64 (subI (vlen (vcut (eS p16.1) 0 (vnum (eS p16.1)))) 1))) <|
       chk (ltI (wrp .i64 (subI (vlen (vcut (eS p16.1) 0 (vnum (eS p16.1)))) 1)) (Int.ofNat (vnum (eS p16.1)))) <|
       chk (leN (addN 0 (vnum (eS p16.1))) (vnum (eS p16.1))) <|
       getE tS (eS p16.1) (addN 0 (natI (wrp .i64 (subI (vlen (vcut (eS p16.1) 0 (vnum (eS p16.1)))) 1)))) <| fun p29 =>
       dS p16.1 <| fun l30 =>
       qS (eY d3.2.1) <|
       qI d3.2.2.1 <|
       qI d3.2.2.2.1 <|
       qS (eY p28.2.1) <|
       qI p28.2.2.1 <|
       qI p22.1 <|
       qI p24.1 <|
       qI p26.1 <|
       qI p28.1 <|
       qI n_2 <|
       qI n_3 <|
       qN (vnum (eS p16.1)) <|
       qI p12.1 <|
       leftK (l30, ((eqL [p29.1, p29.2.1, p29.2.2.1, p29.2.2.2] [p22.1, p24.1, p26.1, p28.1]), ())))
       (dS p16.1 <| fun l31 =>
       qS (eY d3.2.1) <|
       qI d3.2.2.1 <|
       qI d3.2.2.2.1 <|
       qS (eY p28.2.1) <|
       qI p28.2.2.1 <|
       qI p22.1 <|
       qI p24.1 <|
       qI p26.1 <|
       qI p28.1 <|
       qI n_2 <|
       qI n_3 <|
       qN (vnum (eS p16.1)) <|
       qI p12.1 <|
       leftK (l31, (false, ()))))
      (dS p16.1 <| fun l32 =>
      qS (eY d3.2.1) <|
      qI d3.2.2.1 <|
      qI d3.2.2.2.1 <|
      qS (eY p28.2.1) <|
      qI p28.2.2.1 <|
      qI p22.1 <|
      qI p24.1 <|
      qI p26.1 <|
      qI p28.1 <|
      qI n_2 <|
      qI n_3 <|
      qN (vnum (eS p16.1)) <|
      qI p12.1 <|
      leftK (l32, (false, ()))))
    <| fun p33 =>
    cnd p33.2.1
     (dY p28.2.1 <| fun l34 =>
     bnd (S_ref02_Fail l34 p28.2.2.1 5) <| fun p35 =>
     rightK <| decL tS [] <| fun l36 =>
     dY p35.1 <| fun l37 =>
     some (l36, (l37, (p35.2.1, ()))))
     (joinK (δ := (LS × (Bool × Unit))) (cnd (eqI p28.2.2.1 0)
       (bnd (S_ref03_Range 0 n_3) <| fun p38 =>
       bnd (S_ref03_Inside p22.1 p24.1 p26.1 p28.1 p38.1 p38.2.1 p38.2.2.1 p38.2.2.2.1) <| fun p39 =>
       dS p33.1 <| fun l40 =>
       qS (eY d3.2.1) <|
       qI d3.2.2.1 <|
       qI d3.2.2.2.1 <|
       qS (eY p28.2.1) <|
       qI p28.2.2.1 <|
       qI p22.1 <|
       qI p24.1 <|
       qI p26.1 <|
       qI p28.1 <|
       qI n_2 <|
       qI n_3 <|
       qN (vnum (eS p33.1)) <|
       qI p12.1 <|
       leftK (l40, ((notB p39.1), ())))
       (dS p33.1 <| fun l41 =>
       qS (eY d3.2.1) <|
       qI d3.2.2.1 <|
       qI d3.2.2.2.1 <|
       qS (eY p28.2.1) <|
       qI p28.2.2.1 <|
       qI p22.1 <|
       qI p24.1 <|
       qI p26.1 <|
       qI p28.1 <|
       qI n_2 <|
       qI n_3 <|
       qN (vnum (eS p33.1)) <|
       qI p12.1 <|
       leftK (l41, (false, ()))))
     <| fun p42 =>
     cnd p42.2.1
      (dY p28.2.1 <| fun l43 =>
      bnd (S_ref02_Fail l43 p28.2.2.1 14) <| fun p44 =>
      rightK <| decL tS [] <| fun l45 =>
      dY p44.1 <| fun l46 =>
      some (l45, (l46, (p44.2.1, ()))))
      (dS p42.1 <| fun l47 =>
      qS (eY p28.2.1) <|
      qI p28.2.2.1 <|
      qI d3.2.2.2.1 <|
      qS (eY p28.2.1) <|
      qI p28.2.2.1 <|
      qI p22.1 <|
      qI p24.1 <|
      qI p26.1 <|
      qI p28.1 <|
      qI n_2 <|
      qI n_3 <|
      qN (vnum (eS p42.1)) <|
      qI p12.1 <|
      iter (fun (d48 : (LS × (Int × Unit))) again49 =>
       joinK (δ := (LS × Unit)) (cnd (ltI d48.2.1 p12.1)
         (cnd (eqI p28.2.2.1 0)
          (dS d48.1 <| fun l50 =>
          qS (eY p28.2.1) <|
          qI p28.2.2.1 <|
          qI d3.2.2.2.1 <|
          qS (eY p28.2.1) <|
          qI p28.2.2.1 <|
          qI p22.1 <|
          qI p24.1 <|
          qI p26.1 <|
          qI p28.1 <|
          qI n_2 <|
          qI n_3 <|
          qN (vnum (eS d48.1)) <|
          qI p12.1 <|
          qI d48.2.1 <|
          leftK (l50, ()))
          (rightK <| dS d48.1 <| fun l51 =>
          dY p28.2.1 <| fun l52 =>
          qI n_2 <|
          qI n_3 <|
          qN (vnum (eS d48.1)) <|
          again4 (l51, (l52, (p28.2.2.1, (d3.2.2.2.1, ()))))))
         (rightK <| dS d48.1 <| fun l53 =>
         dY p28.2.1 <| fun l54 =>
         qI n_2 <|
         qI n_3 <|
         qN (vnum (eS d48.1)) <|
         again4 (l53, (l54, (p28.2.2.1, (d3.2.2.2.1, ()))))))
       <| fun p55 =>
       qN (vnum (eS p55.1)) <|
       chk (room (vnum (eS p55.1)) (vnum (vcut [[(C.v (Go.Value.int .u64 p22.1)), (C.v (Go.Value.int .u64 p24.1)), (C.v (Go.Value.int .u64 p26.1)), (C.v (Go.Value.int .u64 p28.1))]] 0 1)) 32) <|
       decL tS (vapp (eS p55.1) (vcut [[(C.v (Go.Value.int .u64 p22.1)), (C.v (Go.Value.int .u64 p24.1)), (C.v (Go.Value.int .u64 p26.1)), (C.v (Go.Value.int .u64 p28.1))]] 0 1)) <| fun l56 =>
       qS (eY p28.2.1) <|
       qI p28.2.2.1 <|
       qI d3.2.2.2.1 <|
       qS (eY p28.2.1) <|
       qI p28.2.2.1 <|
       qI p22.1 <|
       qI p24.1 <|
       qI p26.1 <|
       qI p28.1 <|
       qI n_2 <|
       qI n_3 <|
       chk (eqN (addN (vnum (eS p55.1)) (vnum (vcut [[(C.v (Go.Value.int .u64 p22.1)), (C.v (Go.Value.int .u64 p24.1)), (C.v (Go.Value.int .u64 p26.1)), (C.v (Go.Value.int .u64 p28.1))]] 0 1))) (vnum (vapp (eS p55.1) (vcut [[(C.v (Go.Value.int .u64 p22.1)), (C.v (Go.Value.int .u64 p24.1)), (C.v (Go.Value.int .u64 p26.1)), (C.v (Go.Value.int .u64 p28.1))]] 0 1)))) <|
       qI p12.1 <|
       again49 (l56, ((wrp .u64 (addI d48.2.1 1)), ()))) N (l47, (0, ())))))) N (l1, (l2, (n_1, (0, ())))))
 <| fun p57 =>
 cnd (notB (eqI p57.2.2.1 0))
  (decL tS [] <| fun l58 =>
  dY p57.2.1 <| fun l59 =>
  some (l58, (l59, (p57.2.2.1, ()))))
  (chk (leN (addN 0 (vnum (eS p57.1))) (vnum (eS p57.1))) <|
  decL tS (vcut (eS p57.1) 0 (vnum (eS p57.1))) <| fun l60 =>
  dY p57.2.1 <| fun l61 =>
  some (l60, (l61, (p57.2.2.1, ()))))
noncomputable def q_ref14_Take : Lift := ⟨tyX, look2 .todo (α := LoopAs) (.n 44 [(2, (.as ⟨[.mu 118 4 tS], [[.hole (.sl 1 tY), .hole tI], [.stat (.c (.v (.slice none 0 0))), .hole tI]], (.one, [.junk]) :: (.one, [.fix]) :: (.one, [.fix]) :: (.one, [.stat (.ptr 0 0)]) :: (.one, [.junk]) :: (.one, [.junk]) :: (.one, [.junk]) :: (.one, [.stat (.ptr 1 0)]) :: (.one, [.own 0]) :: rp 101 (.one, [.junk]) ([])⟩)), (8, (.times 5)), (17, (.as ⟨[.mu 118 4 tS], [[.fix, .fix], [.stat (.c (.v (.slice none 0 0))), .fix], [.fix, .fix], [.fix, .fix, .fix, .fix]], (.one, [.junk]) :: (.one, [.fix]) :: (.one, [.fix]) :: (.one, [.stat (.ptr 0 0)]) :: (.one, [.junk]) :: (.one, [.junk]) :: (.one, [.junk]) :: (.one, [.stat (.ptr 1 0)]) :: (.one, [.own 0]) :: (.one, [.fix]) :: (.one, [.stat (.ptr 2 0)]) :: (.one, [.stat (.ptr 3 0)]) :: (.one, [.junk]) :: (.one, [.hole tW]) :: rp 96 (.one, [.junk]) ([])⟩)), (1012292, (.as ⟨[.mu 118 4 tS], [[.fix, .fix], [.stat (.c (.v (.slice none 0 0))), .fix]], (.one, [.junk]) :: (.one, [.fix]) :: (.one, [.fix]) :: (.one, [.stat (.ptr 0 0)]) :: (.one, [.junk]) :: (.one, [.junk]) :: (.one, [.junk]) :: (.one, [.stat (.ptr 1 0)]) :: (.one, [.own 0]) :: rp 101 (.one, [.junk]) ([])⟩)), (1020486, (.as ⟨[.mu 118 4 tS], [[.fix, .fix], [.stat (.c (.v (.slice none 0 0))), .fix], [.fix, .fix]], (.one, [.junk]) :: (.one, [.fix]) :: (.one, [.fix]) :: (.one, [.stat (.ptr 0 0)]) :: (.one, [.junk]) :: (.one, [.junk]) :: (.one, [.junk]) :: (.one, [.stat (.ptr 1 0)]) :: (.one, [.own 0]) :: (.one, [.fix]) :: (.one, [.stat (.ptr 2 0)]) :: rp 32 (.one, [.junk]) ((.one, [.hole .bool]) :: rp 66 (.one, [.junk]) ([]))⟩)), (1049165, (.as ⟨[.mu 118 4 tS], [[.fix, .fix], [.stat (.c (.v (.slice none 0 0))), .fix], [.fix, .fix], [.fix, .fix, .fix, .fix]], (.one, [.junk]) :: (.one, [.fix]) :: (.one, [.fix]) :: (.one, [.stat (.ptr 0 0)]) :: (.one, [.junk]) :: (.one, [.junk]) :: (.one, [.junk]) :: (.one, [.stat (.ptr 1 0)]) :: (.one, [.own 0]) :: (.one, [.fix]) :: (.one, [.stat (.ptr 2 0)]) :: (.one, [.stat (.ptr 3 0)]) :: rp 62 (.one, [.junk]) ((.one, [.hole .bool]) :: rp 35 (.one, [.junk]) ([]))⟩)), (1057359, (.as ⟨[.mu 118 4 tS], [[.fix, .fix], [.stat (.c (.v (.slice none 0 0))), .fix], [.fix, .fix], [.fix, .fix, .fix, .fix]], (.one, [.junk]) :: (.one, [.fix]) :: (.one, [.fix]) :: (.one, [.stat (.ptr 0 0)]) :: (.one, [.junk]) :: (.one, [.junk]) :: (.one, [.junk]) :: (.one, [.stat (.ptr 1 0)]) :: (.one, [.own 0]) :: (.one, [.fix]) :: (.one, [.stat (.ptr 2 0)]) :: (.one, [.stat (.ptr 3 0)]) :: rp 74 (.one, [.junk]) ((.one, [.hole .bool]) :: rp 23 (.one, [.junk]) ([]))⟩)), (1073748, (.as ⟨[.mu 118 4 tS], [[.fix, .fix], [.stat (.c (.v (.slice none 0 0))), .fix], [.fix, .fix], [.fix, .fix, .fix, .fix]], (.one, [.junk]) :: (.one, [.fix]) :: (.one, [.fix]) :: (.one, [.stat (.ptr 0 0)]) :: (.one, [.junk]) :: (.one, [.junk]) :: (.one, [.junk]) :: (.one, [.stat (.ptr 1 0)]) :: (.one, [.own 0]) :: (.one, [.fix]) :: (.one, [.stat (.ptr 2 0)]) :: (.one, [.stat (.ptr 3 0)]) :: (.one, [.junk]) :: (.one, [.fix]) :: rp 96 (.one, [.junk]) ([])⟩)), (1077845, (.as ⟨[.mu 118 4 tS], [[.hole (.sl 1 tY), .hole tI], [.stat (.c (.v (.slice none 0 0))), .hole tI]], (.one, [.junk]) :: (.one, [.junk]) :: (.one, [.junk]) :: (.one, [.stat (.ptr 0 0)]) :: (.one, [.junk]) :: (.one, [.junk]) :: (.one, [.junk]) :: (.one, [.stat (.ptr 1 0)]) :: (.one, [.own 0]) :: rp 101 (.one, [.junk]) ([])⟩))] .o .o), [c_ref02_Bits, c_ref02_Fail, c_ref03_Range, c_ref03_Inside], bsX⟩
theorem u_ref14_Take {N : Nat} {a0 : LB} {a1 : Int} {a2 : Int} {a3 : Int} {q : (LS × (LB × (Int × Unit)))} (h : M_ref14_Take N a0 a1 a2 a3 = some q) : S_ref14_Take a0 a1 a2 a3 = some q :=
 Sof_of (Q := q_ref14_Take) (N := N) (n := 3) (f := 44) (tin := i_ref14_Take) (tout := o_ref14_Take) (d := (a0, (a1, (a2, (a3, ()))))) (all1 k_ref02_Bits (all1 k_ref02_Fail (all1 k_ref03_Range (all1 k_ref03_Inside all0)))) bs_ok (by kernel_rfl) (by kernel_rfl) (by kernel_rfl) (Eq.trans (b := M_ref14_Take N a0 a1 a2 a3) (by kernel_rfl) h)

end Go.Proofs.YtkdnbnkbnegckaaGreat
