/- Functions, lifted: what the program comes to by them. -/
import Derived.Test.YtkdnbnkbnegckaaGreatLwA
namespace Go.Proofs.YtkdnbnkbnegckaaGreat
open Go.RowKit
set_option maxRecDepth 100000
set_option linter.unusedVariables false
noncomputable def M_sig_Take (N : Nat) (l_0 : LB) (b_1 : Bool) (n_2 : Int) (n_3 : Int) : Option (LB × (Bool × (Int × (LI × Unit)))) :=
 dY l_0 <| fun l1 =>
 bnd (S_cursor_Cursor_Num l1 b_1 n_2 n_3) <| fun p2 =>
 decL tI [] <| fun l3 =>
 dY p2.1 <| fun l4 =>
 qI p2.2.2.2.1 <|
 iter (fun (d5 : (LI × (LB × (Bool × (Int × (Int × Unit)))))) again6 =>
  cnd (ltI d5.2.2.2.2.1 p2.2.2.2.1)
   (dY d5.2.1 <| fun l7 =>
   bnd (S_cursor_Cursor_Byte l7 d5.2.2.1 d5.2.2.2.1) <| fun p8 =>
   joinK (δ := (LI × (LB × (Bool × (Int × Unit))))) (joinK (δ := (LI × (LB × (Bool × (Int × (Bool × Unit)))))) (dY p8.1 <| fun l9 =>
     bnd (S_cursor_Cursor_Err l9 p8.2.1 p8.2.2.1) <| fun p10 =>
     cnd (eqI p10.2.2.2.1 0)
      (bnd (S_sig_May (wrp .i64 (u8I p8.2.2.2.1))) <| fun p11 =>
      dI d5.1 <| fun l12 =>
      dY p10.1 <| fun l13 =>
      qN (vnum (eI d5.1)) <|
      qI (wrp .i64 (u8I p8.2.2.2.1)) <|
      qI p2.2.2.2.1 <|
      qI d5.2.2.2.2.1 <|
      leftK (l12, (l13, (p10.2.1, (p10.2.2.1, ((notB p11.1), ()))))))
      (dI d5.1 <| fun l14 =>
      dY p10.1 <| fun l15 =>
      qN (vnum (eI d5.1)) <|
      qI (wrp .i64 (u8I p8.2.2.2.1)) <|
      qI p2.2.2.2.1 <|
      qI d5.2.2.2.2.1 <|
      leftK (l14, (l15, (p10.2.1, (p10.2.2.1, (false, ())))))))
    <| fun p16 =>
    cnd p16.2.2.2.2.1
     (dY p16.2.1 <| fun l17 =>
     bnd (S_cursor_Cursor_Fail l17 p16.2.2.1 p16.2.2.2.1 9) <| fun p18 =>
     dI p16.1 <| fun l19 =>
     dY p18.1 <| fun l20 =>
     qN (vnum (eI p16.1)) <|
     qI (wrp .i64 (u8I p8.2.2.2.1)) <|
     qI p2.2.2.2.1 <|
     qI d5.2.2.2.2.1 <|
     leftK (l19, (l20, (p18.2.1, (p18.2.2.1, ())))))
     (dI p16.1 <| fun l21 =>
     dY p16.2.1 <| fun l22 =>
     qN (vnum (eI p16.1)) <|
     qI (wrp .i64 (u8I p8.2.2.2.1)) <|
     qI p2.2.2.2.1 <|
     qI d5.2.2.2.2.1 <|
     leftK (l21, (l22, (p16.2.2.1, (p16.2.2.2.1, ()))))))
   <| fun p23 =>
   dY p23.2.1 <| fun l24 =>
   bnd (S_cursor_Cursor_Err l24 p23.2.2.1 p23.2.2.2.1) <| fun p25 =>
   cnd (notB (eqI p25.2.2.2.1 0))
    (dY p25.1 <| fun l26 =>
    decL tI [] <| fun l27 =>
    some (l26, (p25.2.1, (p25.2.2.1, (l27, ())))))
    (qN (vnum (eI p23.1)) <|
    chk (room (vnum (eI p23.1)) (vnum (vcut [[(C.v (Go.Value.int .i64 (wrp .i64 (u8I p8.2.2.2.1))))]] 0 1)) 8) <|
    decL tI (vapp (eI p23.1) (vcut [[(C.v (Go.Value.int .i64 (wrp .i64 (u8I p8.2.2.2.1))))]] 0 1)) <| fun l28 =>
    dY p25.1 <| fun l29 =>
    chk (eqN (addN (vnum (eI p23.1)) (vnum (vcut [[(C.v (Go.Value.int .i64 (wrp .i64 (u8I p8.2.2.2.1))))]] 0 1))) (vnum (vapp (eI p23.1) (vcut [[(C.v (Go.Value.int .i64 (wrp .i64 (u8I p8.2.2.2.1))))]] 0 1)))) <|
    qI p2.2.2.2.1 <|
    again6 (l28, (l29, (p25.2.1, (p25.2.2.1, ((wrp .i64 (addI d5.2.2.2.2.1 1)), ())))))))
   (chk (leN (addN 0 (vnum (eI d5.1))) (vnum (eI d5.1))) <|
   dY d5.2.1 <| fun l30 =>
   decL tI (vcut (eI d5.1) 0 (vnum (eI d5.1))) <| fun l31 =>
   some (l30, (d5.2.2.1, (d5.2.2.2.1, (l31, ())))))) N (l3, (l4, (p2.2.1, (p2.2.2.1, (0, ())))))
noncomputable def q_sig_Take : Lift := ⟨tyX, look2 .todo (α := LoopAs) (.n 94 [(3, (.as ⟨[.mu 110 1 tI], [[.hole (.sl 1 tY), .hole .bool, .hole tI]], (.one, [.stat (.ptr 0 0)]) :: rp 4 (.one, [.junk]) ((.one, [.own 0]) :: (.one, [.junk]) :: (.one, [.junk]) :: (.one, [.junk]) :: (.one, [.fix]) :: (.one, [.hole tI]) :: rp 23 (.one, [.junk]) ([]))⟩)), (1024583, (.as ⟨[.mu 110 1 tI], [[.hole (.sl 1 tY), .hole .bool, .hole tI]], (.one, [.stat (.ptr 0 0)]) :: rp 4 (.one, [.junk]) ((.one, [.own 0]) :: (.one, [.fix]) :: (.one, [.junk]) :: (.one, [.junk]) :: (.one, [.fix]) :: (.one, [.fix]) :: rp 11 (.one, [.junk]) ((.one, [.hole .bool]) :: rp 11 (.one, [.junk]) ([])))⟩)), (1028680, (.as ⟨[.mu 110 1 tI], [[.hole (.sl 1 tY), .hole .bool, .hole tI]], (.one, [.stat (.ptr 0 0)]) :: rp 4 (.one, [.junk]) ((.one, [.own 0]) :: (.one, [.fix]) :: (.one, [.junk]) :: (.one, [.junk]) :: (.one, [.fix]) :: (.one, [.fix]) :: rp 23 (.one, [.junk]) ([]))⟩))] .o .o), [c_cursor_Cursor_Err, c_cursor_Cursor_Fail, c_cursor_Cursor_Num, c_cursor_Cursor_Byte, c_sig_May], bsX⟩
theorem u_sig_Take {N : Nat} {a0 : LB} {a1 : Bool} {a2 : Int} {a3 : Int} {q : (LB × (Bool × (Int × (LI × Unit))))} (h : M_sig_Take N a0 a1 a2 a3 = some q) : S_sig_Take a0 a1 a2 a3 = some q :=
 Sof_of (Q := q_sig_Take) (N := N) (n := 3) (f := 94) (tin := i_sig_Take) (tout := o_sig_Take) (d := (a0, (a1, (a2, (a3, ()))))) (all1 k_cursor_Cursor_Err (all1 k_cursor_Cursor_Fail (all1 k_cursor_Cursor_Num (all1 k_cursor_Cursor_Byte (all1 k_sig_May all0))))) bs_ok (by kernel_rfl) (by kernel_rfl) (by kernel_rfl) (Eq.trans (b := M_sig_Take N a0 a1 a2 a3) (by kernel_rfl) h)

noncomputable def M_fnc_many (N : Nat) (l_0 : LB) (b_1 : Bool) (l_2 : LI) (l_3 : LI) (l_4 : LI) (l_5 : LI) (l_6 : LC) (l_7 : LI) (l_8 : LN) (l_9 : LI) (l_10 : LS) : Option (Int × Unit) :=
 some ((wrp .i64 (addI (wrp .i64 (addI (vlen (eI l_3)) (vlen (eI l_4)))) (vlen (eI l_5)))), ())
noncomputable def q_fnc_many : Lift := ⟨tyX, look2 .todo (α := LoopAs) (.o), [], bsX⟩
theorem u_fnc_many {N : Nat} {a0 : LB} {a1 : Bool} {a2 : LI} {a3 : LI} {a4 : LI} {a5 : LI} {a6 : LC} {a7 : LI} {a8 : LN} {a9 : LI} {a10 : LS} {q : (Int × Unit)} (h : M_fnc_many N a0 a1 a2 a3 a4 a5 a6 a7 a8 a9 a10 = some q) : S_fnc_many a0 a1 a2 a3 a4 a5 a6 a7 a8 a9 a10 = some q :=
 Sof_of (Q := q_fnc_many) (N := N) (n := 3) (f := 95) (tin := i_fnc_many) (tout := o_fnc_many) (d := (a0, (a1, (a2, (a3, (a4, (a5, (a6, (a7, (a8, (a9, (a10, ())))))))))))) all0 bs_ok (by kernel_rfl) (by kernel_rfl) (by kernel_rfl) (Eq.trans (b := M_fnc_many N a0 a1 a2 a3 a4 a5 a6 a7 a8 a9 a10) (by kernel_rfl) h)

noncomputable def M_fnc_reader_head (N : Nat) (l_0 : LB) (b_1 : Bool) (l_2 : LI) (l_3 : LI) (l_4 : LI) (l_5 : LI) (l_6 : LI) (l_7 : LN) (l_8 : LI) (l_9 : LS) (x_10 : UInt8) (n_11 : Int) (l_12 : LB) (b_13 : Bool) (n_14 : Int) : Option (LB × (Bool × (LI × (LI × (LI × (LI × (LI × (LN × (LI × (LS × (UInt8 × (Int × (LB × (Bool × (Int × Unit))))))))))))))) :=
 dY l_12 <| fun l1 =>
 bnd (S_cursor_Cursor_Text l1 b_13 n_14 12) <| fun p2 =>
 bnd (S_names_May p2.2.2.2.1) <| fun p3 =>
 dI l_2 <| fun l4 =>
 dI l_3 <| fun l5 =>
 dI l_4 <| fun l6 =>
 dI l_5 <| fun l7 =>
 dI l_6 <| fun l8 =>
 dN l_7 <| fun l9 =>
 dI l_8 <| fun l10 =>
 dS l_9 <| fun l11 =>
 chk (inU8 (u8I x_10)) <|
 dY p2.1 <| fun l12 =>
 bnd (S_fnc_reader_ask p2.2.2.2.1 b_1 l4 l5 l6 l7 l8 l9 l10 l11 (toU8 (u8I x_10)) n_11 l12 p2.2.1 p2.2.2.1 p3.1 7) <| fun p13 =>
 dY p13.2.2.2.2.2.2.2.2.2.2.2.2.1 <| fun l14 =>
 bnd (S_cursor_Cursor_Byte l14 p13.2.2.2.2.2.2.2.2.2.2.2.2.2.1 p13.2.2.2.2.2.2.2.2.2.2.2.2.2.2.1) <| fun p15 =>
 dI p13.2.2.1 <| fun l16 =>
 dI p13.2.2.2.1 <| fun l17 =>
 dI p13.2.2.2.2.1 <| fun l18 =>
 dI p13.2.2.2.2.2.1 <| fun l19 =>
 dI p13.2.2.2.2.2.2.1 <| fun l20 =>
 dN p13.2.2.2.2.2.2.2.1 <| fun l21 =>
 dI p13.2.2.2.2.2.2.2.2.1 <| fun l22 =>
 dS p13.2.2.2.2.2.2.2.2.2.1 <| fun l23 =>
 chk (inU8 (u8I p15.2.2.2.1)) <|
 dY p15.1 <| fun l24 =>
 bnd (S_fnc_reader_ask p13.1 p13.2.1 l16 l17 l18 l19 l20 l21 l22 l23 (toU8 (u8I p15.2.2.2.1)) p13.2.2.2.2.2.2.2.2.2.2.2.1 l24 p15.2.1 p15.2.2.1 (leI (u8I p15.2.2.2.1) 3) 5) <| fun p25 =>
 joinK (δ := (LB × (Bool × (LI × (LI × (LI × (LI × (LI × (LN × (LI × (LS × (UInt8 × (Int × (LB × (Bool × (Int × Unit)))))))))))))))) (cnd (notB (eqI (bitI .and .u8 (u8I p25.2.2.2.2.2.2.2.2.2.2.1) 1) 0))
   (dY p25.2.2.2.2.2.2.2.2.2.2.2.2.1 <| fun l26 =>
   bnd (S_sig_Take l26 p25.2.2.2.2.2.2.2.2.2.2.2.2.2.1 p25.2.2.2.2.2.2.2.2.2.2.2.2.2.2.1 4) <| fun p27 =>
   dI p27.2.2.2.1 <| fun l28 =>
   dI p25.2.2.2.1 <| fun l29 =>
   dI p25.2.2.2.2.1 <| fun l30 =>
   dI p25.2.2.2.2.2.1 <| fun l31 =>
   dI p25.2.2.2.2.2.2.1 <| fun l32 =>
   dN p25.2.2.2.2.2.2.2.1 <| fun l33 =>
   dI p25.2.2.2.2.2.2.2.2.1 <| fun l34 =>
   dS p25.2.2.2.2.2.2.2.2.2.1 <| fun l35 =>
   chk (inU8 (u8I p25.2.2.2.2.2.2.2.2.2.2.1)) <|
   dY p27.1 <| fun l36 =>
   leftK (p25.1, ((notB (eqI (bitI .and .u8 (u8I p25.2.2.2.2.2.2.2.2.2.2.1) 1) 0)), (l28, (l29, (l30, (l31, (l32, (l33, (l34, (l35, ((toU8 (u8I p25.2.2.2.2.2.2.2.2.2.2.1)), (p25.2.2.2.2.2.2.2.2.2.2.2.1, (l36, (p27.2.1, (p27.2.2.1, ()))))))))))))))))
   (dI p25.2.2.1 <| fun l37 =>
   dI p25.2.2.2.1 <| fun l38 =>
   dI p25.2.2.2.2.1 <| fun l39 =>
   dI p25.2.2.2.2.2.1 <| fun l40 =>
   dI p25.2.2.2.2.2.2.1 <| fun l41 =>
   dN p25.2.2.2.2.2.2.2.1 <| fun l42 =>
   dI p25.2.2.2.2.2.2.2.2.1 <| fun l43 =>
   dS p25.2.2.2.2.2.2.2.2.2.1 <| fun l44 =>
   chk (inU8 (u8I p25.2.2.2.2.2.2.2.2.2.2.1)) <|
   dY p25.2.2.2.2.2.2.2.2.2.2.2.2.1 <| fun l45 =>
   leftK (p25.1, ((notB (eqI (bitI .and .u8 (u8I p25.2.2.2.2.2.2.2.2.2.2.1) 1) 0)), (l37, (l38, (l39, (l40, (l41, (l42, (l43, (l44, ((toU8 (u8I p25.2.2.2.2.2.2.2.2.2.2.1)), (p25.2.2.2.2.2.2.2.2.2.2.2.1, (l45, (p25.2.2.2.2.2.2.2.2.2.2.2.2.2.1, (p25.2.2.2.2.2.2.2.2.2.2.2.2.2.2.1, ())))))))))))))))))
 <| fun p46 =>
 dY p46.2.2.2.2.2.2.2.2.2.2.2.2.1 <| fun l47 =>
 bnd (S_sig_Take l47 p46.2.2.2.2.2.2.2.2.2.2.2.2.2.1 p46.2.2.2.2.2.2.2.2.2.2.2.2.2.2.1 8) <| fun p48 =>
 dY p48.1 <| fun l49 =>
 bnd (S_sig_Take l49 p48.2.1 p48.2.2.1 4) <| fun p50 =>
 dY p50.1 <| fun l51 =>
 bnd (S_sig_Take l51 p50.2.1 p50.2.2.1 256) <| fun p52 =>
 dI p46.2.2.1 <| fun l53 =>
 dI p48.2.2.2.1 <| fun l54 =>
 dI p50.2.2.2.1 <| fun l55 =>
 dI p52.2.2.2.1 <| fun l56 =>
 decL tC [] <| fun l57 =>
 dI p46.2.2.2.2.2.2.1 <| fun l58 =>
 dN p46.2.2.2.2.2.2.2.1 <| fun l59 =>
 dI p46.2.2.2.2.2.2.2.2.1 <| fun l60 =>
 dS p46.2.2.2.2.2.2.2.2.2.1 <| fun l61 =>
 bnd (S_fnc_many p46.1 p46.2.1 l53 l54 l55 l56 l57 l58 l59 l60 l61) <| fun p62 =>
 dI p46.2.2.1 <| fun l63 =>
 dI p48.2.2.2.1 <| fun l64 =>
 dI p50.2.2.2.1 <| fun l65 =>
 dI p52.2.2.2.1 <| fun l66 =>
 dI p46.2.2.2.2.2.2.1 <| fun l67 =>
 dN p46.2.2.2.2.2.2.2.1 <| fun l68 =>
 dI p46.2.2.2.2.2.2.2.2.1 <| fun l69 =>
 dS p46.2.2.2.2.2.2.2.2.2.1 <| fun l70 =>
 chk (inU8 (u8I p46.2.2.2.2.2.2.2.2.2.2.1)) <|
 dY p52.1 <| fun l71 =>
 bnd (S_fnc_reader_ask p46.1 p46.2.1 l63 l64 l65 l66 l67 l68 l69 l70 (toU8 (u8I p46.2.2.2.2.2.2.2.2.2.2.1)) p46.2.2.2.2.2.2.2.2.2.2.2.1 l71 p52.2.1 p52.2.2.1 (leI p62.1 256) 6) <| fun p72 =>
 dI p72.2.2.1 <| fun l73 =>
 dI p72.2.2.2.1 <| fun l74 =>
 dI p72.2.2.2.2.1 <| fun l75 =>
 dI p72.2.2.2.2.2.1 <| fun l76 =>
 dI p72.2.2.2.2.2.2.1 <| fun l77 =>
 dN p72.2.2.2.2.2.2.2.1 <| fun l78 =>
 dI p72.2.2.2.2.2.2.2.2.1 <| fun l79 =>
 dS p72.2.2.2.2.2.2.2.2.2.1 <| fun l80 =>
 chk (inU8 (u8I p72.2.2.2.2.2.2.2.2.2.2.1)) <|
 dY p72.2.2.2.2.2.2.2.2.2.2.2.2.1 <| fun l81 =>
 some (p72.1, (p72.2.1, (l73, (l74, (l75, (l76, (l77, (l78, (l79, (l80, ((toU8 (u8I p72.2.2.2.2.2.2.2.2.2.2.1)), (p72.2.2.2.2.2.2.2.2.2.2.2.1, (l81, (p72.2.2.2.2.2.2.2.2.2.2.2.2.2.1, (p72.2.2.2.2.2.2.2.2.2.2.2.2.2.2.1, ())))))))))))))))
noncomputable def q_fnc_reader_head : Lift := ⟨tyX, look2 .todo (α := LoopAs) (.n 50 [(1032777, (.as ⟨[], [[.stat (.ptr 1 0), .hole .str, .hole .bool, .hole (.sl 1 tI), .hole (.sl 1 tI), .hole (.sl 1 tI), .hole (.sl 1 tI), .stat (.c (.v (.slice none 0 0))), .hole (.sl 1 tI), .hole (.sl 7 tN), .hole (.sl 1 tI), .hole (.sl 4 tS), .hole tY, .hole tI], [.hole (.sl 1 tY), .hole .bool, .hole tI]], (.one, [.stat (.ptr 0 0)]) :: (.one, [.junk]) :: (.one, [.stat (.ptr 1 0)]) :: rp 77 (.one, [.junk]) ([])⟩))] .o .o), [c_cursor_Cursor_Text, c_names_May, c_fnc_reader_ask, c_cursor_Cursor_Byte, c_sig_Take, c_fnc_many], bsX⟩
theorem u_fnc_reader_head {N : Nat} {a0 : LB} {a1 : Bool} {a2 : LI} {a3 : LI} {a4 : LI} {a5 : LI} {a6 : LI} {a7 : LN} {a8 : LI} {a9 : LS} {a10 : UInt8} {a11 : Int} {a12 : LB} {a13 : Bool} {a14 : Int} {q : (LB × (Bool × (LI × (LI × (LI × (LI × (LI × (LN × (LI × (LS × (UInt8 × (Int × (LB × (Bool × (Int × Unit)))))))))))))))} (h : M_fnc_reader_head N a0 a1 a2 a3 a4 a5 a6 a7 a8 a9 a10 a11 a12 a13 a14 = some q) : S_fnc_reader_head a0 a1 a2 a3 a4 a5 a6 a7 a8 a9 a10 a11 a12 a13 a14 = some q :=
 Sof_of (Q := q_fnc_reader_head) (N := N) (n := 3) (f := 50) (tin := i_fnc_reader_head) (tout := o_fnc_reader_head) (d := (a0, (a1, (a2, (a3, (a4, (a5, (a6, (a7, (a8, (a9, (a10, (a11, (a12, (a13, (a14, ())))))))))))))))) (all1 k_cursor_Cursor_Text (all1 k_names_May (all1 k_fnc_reader_ask (all1 k_cursor_Cursor_Byte (all1 k_sig_Take (all1 k_fnc_many all0)))))) bs_ok (by kernel_rfl) (by kernel_rfl) (by kernel_rfl) (Eq.trans (b := M_fnc_reader_head N a0 a1 a2 a3 a4 a5 a6 a7 a8 a9 a10 a11 a12 a13 a14) (by kernel_rfl) h)

noncomputable def M_ops_is (N : Nat) (n_0 : Int) : Option (Bool × Unit) :=
 cnd (leI 0 n_0)
  (some ((ltI n_0 35), ()))
  (some (false, ()))
noncomputable def q_ops_is : Lift := ⟨tyX, look2 .todo (α := LoopAs) (.o), [], bsX⟩
theorem u_ops_is {N : Nat} {a0 : Int} {q : (Bool × Unit)} (h : M_ops_is N a0 = some q) : S_ops_is a0 = some q :=
 Sof_of (Q := q_ops_is) (N := N) (n := 3) (f := 168) (tin := i_ops_is) (tout := o_ops_is) (d := (a0, ())) all0 bs_ok (by kernel_rfl) (by kernel_rfl) (by kernel_rfl) (Eq.trans (b := M_ops_is N a0) (by kernel_rfl) h)

noncomputable def M_ops_Operand (N : Nat) (n_0 : Int) : Option (Int × Unit) :=
 bnd (S_ops_is n_0) <| fun p1 =>
 cnd (notB p1.1)
  (some (0, ()))
  (cnd (eqI n_0 34)
   (some (6, ()))
   (cnd (eqI n_0 33)
    (some (6, ()))
    (cnd (eqI n_0 32)
     (some (0, ()))
     (cnd (eqI n_0 31)
      (some (0, ()))
      (cnd (eqI n_0 30)
       (some (0, ()))
       (cnd (eqI n_0 29)
        (some (5, ()))
        (cnd (eqI n_0 28)
         (some (5, ()))
         (cnd (eqI n_0 27)
          (some (0, ()))
          (cnd (eqI n_0 26)
           (some (0, ()))
           (cnd (eqI n_0 25)
            (some (0, ()))
            (cnd (eqI n_0 24)
             (some (4, ()))
             (cnd (eqI n_0 23)
              (some (4, ()))
              (cnd (eqI n_0 22)
               (some (3, ()))
               (cnd (eqI n_0 21)
                (some (3, ()))
                (cnd (eqI n_0 20)
                 (some (0, ()))
                 (cnd (eqI n_0 19)
                  (some (0, ()))
                  (cnd (eqI n_0 18)
                   (some (0, ()))
                   (cnd (eqI n_0 17)
                    (some (0, ()))
                    (cnd (eqI n_0 16)
                     (some (0, ()))
                     (cnd (eqI n_0 15)
                      (some (0, ()))
                      (cnd (eqI n_0 14)
                       (some (0, ()))
                       (cnd (eqI n_0 13)
                        (some (0, ()))
                        (cnd (eqI n_0 12)
                         (some (0, ()))
                         (cnd (eqI n_0 11)
                          (some (0, ()))
                          (cnd (eqI n_0 10)
                           (some (0, ()))
                           (cnd (eqI n_0 9)
                            (some (0, ()))
                            (cnd (eqI n_0 8)
                             (some (0, ()))
                             (cnd (eqI n_0 7)
                              (some (0, ()))
                              (cnd (eqI n_0 6)
                               (some (0, ()))
                               (cnd (eqI n_0 5)
                                (some (0, ()))
                                (cnd (eqI n_0 4)
                                 (some (0, ()))
                                 (cnd (eqI n_0 3)
                                  (some (2, ()))
                                  (cnd (eqI n_0 2)
                                   (some (2, ()))
                                   (cnd (eqI n_0 1)
                                    (some (1, ()))
                                    (cnd (eqI n_0 0)
                                     (some (0, ()))
                                     (none))))))))))))))))))))))))))))))))))))
noncomputable def q_ops_Operand : Lift := ⟨tyX, look2 .todo (α := LoopAs) (.o), [c_ops_is], bsX⟩
theorem u_ops_Operand {N : Nat} {a0 : Int} {q : (Int × Unit)} (h : M_ops_Operand N a0 = some q) : S_ops_Operand a0 = some q :=
 Sof_of (Q := q_ops_Operand) (N := N) (n := 3) (f := 149) (tin := i_ops_Operand) (tout := o_ops_Operand) (d := (a0, ())) (all1 k_ops_is all0) bs_ok (by kernel_rfl) (by kernel_rfl) (by kernel_rfl) (Eq.trans (b := M_ops_Operand N a0) (by kernel_rfl) h)

noncomputable def M_instr_has (N : Nat) (n_0 : Int) : Option (Bool × Unit) :=
 bnd (S_ops_Operand n_0) <| fun p1 =>
 some ((notB (eqI p1.1 0)), ())
noncomputable def q_instr_has : Lift := ⟨tyX, look2 .todo (α := LoopAs) (.o), [c_ops_Operand], bsX⟩
theorem u_instr_has {N : Nat} {a0 : Int} {q : (Bool × Unit)} (h : M_instr_has N a0 = some q) : S_instr_has a0 = some q :=
 Sof_of (Q := q_instr_has) (N := N) (n := 3) (f := 118) (tin := i_instr_has) (tout := o_instr_has) (d := (a0, ())) (all1 k_ops_Operand all0) bs_ok (by kernel_rfl) (by kernel_rfl) (by kernel_rfl) (Eq.trans (b := M_instr_has N a0) (by kernel_rfl) h)

noncomputable def M_uvar_Unfold (N : Nat) (n_0 : Int) : Option (Int × Unit) :=
 some ((bitI .xor .i64 (wrp .i64 (shrI .u64 n_0 1)) (wrp .i64 (negI (wrp .i64 (bitI .and .u64 n_0 1))))), ())
noncomputable def q_uvar_Unfold : Lift := ⟨tyX, look2 .todo (α := LoopAs) (.o), [], bsX⟩
theorem u_uvar_Unfold {N : Nat} {a0 : Int} {q : (Int × Unit)} (h : M_uvar_Unfold N a0 = some q) : S_uvar_Unfold a0 = some q :=
 Sof_of (Q := q_uvar_Unfold) (N := N) (n := 3) (f := 163) (tin := i_uvar_Unfold) (tout := o_uvar_Unfold) (d := (a0, ())) all0 bs_ok (by kernel_rfl) (by kernel_rfl) (by kernel_rfl) (Eq.trans (b := M_uvar_Unfold N a0) (by kernel_rfl) h)

noncomputable def M_cursor_Cursor_Int (N : Nat) (l_0 : LB) (b_1 : Bool) (n_2 : Int) : Option (LB × (Bool × (Int × (Int × Unit)))) :=
 dY l_0 <| fun l1 =>
 bnd (S_cursor_Cursor_Bits l1 b_1 n_2) <| fun p2 =>
 bnd (S_uvar_Unfold p2.2.2.2.1) <| fun p3 =>
 dY p2.1 <| fun l4 =>
 some (l4, (p2.2.1, (p2.2.2.1, (p3.1, ()))))
noncomputable def q_cursor_Cursor_Int : Lift := ⟨tyX, look2 .todo (α := LoopAs) (.o), [c_cursor_Cursor_Bits, c_uvar_Unfold], bsX⟩
theorem u_cursor_Cursor_Int {N : Nat} {a0 : LB} {a1 : Bool} {a2 : Int} {q : (LB × (Bool × (Int × (Int × Unit))))} (h : M_cursor_Cursor_Int N a0 a1 a2 = some q) : S_cursor_Cursor_Int a0 a1 a2 = some q :=
 Sof_of (Q := q_cursor_Cursor_Int) (N := N) (n := 3) (f := 143) (tin := i_cursor_Cursor_Int) (tout := o_cursor_Cursor_Int) (d := (a0, (a1, (a2, ())))) (all1 k_cursor_Cursor_Bits (all1 k_uvar_Unfold all0)) bs_ok (by kernel_rfl) (by kernel_rfl) (by kernel_rfl) (Eq.trans (b := M_cursor_Cursor_Int N a0 a1 a2) (by kernel_rfl) h)

noncomputable def M__instr_operand_most (N : Nat) (n_0 : Int) : Option (Int × Unit) :=
 cnd (eqI n_0 2)
  (some (255, ()))
  (cnd (eqI n_0 3)
   (some (1999, ()))
   (cnd (eqI n_0 4)
    (some (39, ()))
    (cnd (eqI n_0 5)
     (some (3, ()))
     (cnd (eqI n_0 6)
      (some (119, ()))
      (some (0, ()))))))
noncomputable def q__instr_operand_most : Lift := ⟨tyX, look2 .todo (α := LoopAs) (.o), [], bsX⟩
theorem u__instr_operand_most {N : Nat} {a0 : Int} {q : (Int × Unit)} (h : M__instr_operand_most N a0 = some q) : S__instr_operand_most a0 = some q :=
 Sof_of (Q := q__instr_operand_most) (N := N) (n := 3) (f := 167) (tin := i__instr_operand_most) (tout := o__instr_operand_most) (d := (a0, ())) all0 bs_ok (by kernel_rfl) (by kernel_rfl) (by kernel_rfl) (Eq.trans (b := M__instr_operand_most N a0) (by kernel_rfl) h)

noncomputable def M__instr_operand_may (N : Nat) (n_0 : Int) (n_1 : Int) : Option (Bool × Unit) :=
 cnd (eqI n_0 1)
  (some (true, ()))
  (cnd (leI 0 n_1)
   (bnd (S__instr_operand_most n_0) <| fun p1 =>
   some ((leI n_1 p1.1), ()))
   (some (false, ())))
noncomputable def q__instr_operand_may : Lift := ⟨tyX, look2 .todo (α := LoopAs) (.o), [c__instr_operand_most], bsX⟩
theorem u__instr_operand_may {N : Nat} {a0 : Int} {a1 : Int} {q : (Bool × Unit)} (h : M__instr_operand_may N a0 a1 = some q) : S__instr_operand_may a0 a1 = some q :=
 Sof_of (Q := q__instr_operand_may) (N := N) (n := 3) (f := 148) (tin := i__instr_operand_may) (tout := o__instr_operand_may) (d := (a0, (a1, ()))) (all1 k__instr_operand_most all0) bs_ok (by kernel_rfl) (by kernel_rfl) (by kernel_rfl) (Eq.trans (b := M__instr_operand_may N a0 a1) (by kernel_rfl) h)

noncomputable def M_instr_Right (N : Nat) (n_0 : Int) (n_1 : Int) : Option (Bool × Unit) :=
 cnd (leI 0 n_0)
  (cnd (ltI n_0 35)
   (bnd (S_ops_Operand n_0) <| fun p1 =>
   bnd (S__instr_operand_may p1.1 n_1) <| fun p2 =>
   some (p2.1, ()))
   (some (false, ())))
  (some (false, ()))
noncomputable def q_instr_Right : Lift := ⟨tyX, look2 .todo (α := LoopAs) (.o), [c_ops_Operand, c__instr_operand_may], bsX⟩
theorem u_instr_Right {N : Nat} {a0 : Int} {a1 : Int} {q : (Bool × Unit)} (h : M_instr_Right N a0 a1 = some q) : S_instr_Right a0 a1 = some q :=
 Sof_of (Q := q_instr_Right) (N := N) (n := 3) (f := 103) (tin := i_instr_Right) (tout := o_instr_Right) (d := (a0, (a1, ()))) (all1 k_ops_Operand (all1 k__instr_operand_may all0)) bs_ok (by kernel_rfl) (by kernel_rfl) (by kernel_rfl) (Eq.trans (b := M_instr_Right N a0 a1) (by kernel_rfl) h)
end Go.Proofs.YtkdnbnkbnegckaaGreat
