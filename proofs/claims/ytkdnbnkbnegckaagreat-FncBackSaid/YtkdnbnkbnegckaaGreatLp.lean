/- Functions, lifted: what the program comes to by them. All lifted functions. -/
import Derived.Test.YtkdnbnkbnegckaaGreatLpA
import Derived.Test.YtkdnbnkbnegckaaGreatLp1
import Derived.Test.YtkdnbnkbnegckaaGreatLp2
namespace Go.Proofs.YtkdnbnkbnegckaaGreat
open Go.RowKit
set_option maxRecDepth 100000
set_option linter.unusedVariables false
noncomputable def M_fnc_Put (N : Nat) (l_0 : LB) (l_1 : LB) (b_2 : Bool) (l_3 : LI) (l_4 : LI) (l_5 : LI) (l_6 : LI) (l_7 : LC) (l_8 : LI) (l_9 : LN) (l_10 : LI) (l_11 : LS) : Option (LB × Unit) :=
 dI l_3 <| fun l1 =>
 dI l_4 <| fun l2 =>
 dI l_5 <| fun l3 =>
 dI l_6 <| fun l4 =>
 dC l_7 <| fun l5 =>
 dI l_8 <| fun l6 =>
 dN l_9 <| fun l7 =>
 dI l_10 <| fun l8 =>
 dS l_11 <| fun l9 =>
 bnd (S_fnc_Can l_1 b_2 l1 l2 l3 l4 l5 l6 l7 l8 l9) <| fun p10 =>
 cnd (notB (eqI p10.1 0))
  (dY l_0 <| fun l11 =>
  qN (vnum (eY l_0)) <|
  some (l11, ()))
  (dY l_0 <| fun l12 =>
  qN (vnum (eY l_0)) <|
  bnd (S_uvar_Put l12 (wrp .u64 (slen (ByteArray.mk (Array.mk l_1))))) <| fun p13 =>
  qN (vnum (eY p13.1)) <|
  chk (room (vnum (eY p13.1)) (vnum (encS (ByteArray.mk (Array.mk l_1)))) 1) <|
  dI l_3 <| fun l14 =>
  dI l_4 <| fun l15 =>
  dI l_5 <| fun l16 =>
  dI l_6 <| fun l17 =>
  dC l_7 <| fun l18 =>
  dI l_8 <| fun l19 =>
  dN l_9 <| fun l20 =>
  dI l_10 <| fun l21 =>
  dS l_11 <| fun l22 =>
  bnd (S_fnc_flag l_1 b_2 l14 l15 l16 l17 l18 l19 l20 l21 l22) <| fun p23 =>
  chk (eqN (addN (vnum (eY p13.1)) (vnum (encS (ByteArray.mk (Array.mk l_1))))) (vnum (vapp (eY p13.1) (encS (ByteArray.mk (Array.mk l_1)))))) <|
  chk (room (vnum (vapp (eY p13.1) (encS (ByteArray.mk (Array.mk l_1))))) (vnum (vcut [[(C.v (Go.Value.int .u8 (u8I p23.1)))]] 0 1)) 1) <|
  joinK (δ := (LB × Unit)) (cnd b_2
    (decL tY (vapp (vapp (eY p13.1) (encS (ByteArray.mk (Array.mk l_1)))) (vcut [[(C.v (Go.Value.int .u8 (u8I p23.1)))]] 0 1)) <| fun l24 =>
    chk (eqN (addN (vnum (vapp (eY p13.1) (encS (ByteArray.mk (Array.mk l_1))))) (vnum (vcut [[(C.v (Go.Value.int .u8 (u8I p23.1)))]] 0 1))) (vnum (vapp (vapp (eY p13.1) (encS (ByteArray.mk (Array.mk l_1)))) (vcut [[(C.v (Go.Value.int .u8 (u8I p23.1)))]] 0 1)))) <|
    dI l_3 <| fun l25 =>
    bnd (S_sig_Put l24 l25) <| fun p26 =>
    dY p26.1 <| fun l27 =>
    qB (ByteArray.mk (Array.mk l_1)) <|
    qO b_2 <|
    qS (eI l_3) <|
    qS (eI l_4) <|
    qS (eI l_5) <|
    qS (eI l_6) <|
    qS (eC l_7) <|
    qS (eI l_8) <|
    qS (eN l_9) <|
    qS (eI l_10) <|
    qS (eS l_11) <|
    qN (vnum (eY p26.1)) <|
    leftK (l27, ()))
    (decL tY (vapp (vapp (eY p13.1) (encS (ByteArray.mk (Array.mk l_1)))) (vcut [[(C.v (Go.Value.int .u8 (u8I p23.1)))]] 0 1)) <| fun l28 =>
    qB (ByteArray.mk (Array.mk l_1)) <|
    qO b_2 <|
    qS (eI l_3) <|
    qS (eI l_4) <|
    qS (eI l_5) <|
    qS (eI l_6) <|
    qS (eC l_7) <|
    qS (eI l_8) <|
    qS (eN l_9) <|
    qS (eI l_10) <|
    qS (eS l_11) <|
    chk (eqN (addN (vnum (vapp (eY p13.1) (encS (ByteArray.mk (Array.mk l_1))))) (vnum (vcut [[(C.v (Go.Value.int .u8 (u8I p23.1)))]] 0 1))) (vnum (vapp (vapp (eY p13.1) (encS (ByteArray.mk (Array.mk l_1)))) (vcut [[(C.v (Go.Value.int .u8 (u8I p23.1)))]] 0 1)))) <|
    leftK (l28, ())))
  <| fun p29 =>
  dY p29.1 <| fun l30 =>
  qN (vnum (eY p29.1)) <|
  dI l_4 <| fun l31 =>
  bnd (S_sig_Put l30 l31) <| fun p32 =>
  dY p32.1 <| fun l33 =>
  qN (vnum (eY p32.1)) <|
  dI l_5 <| fun l34 =>
  bnd (S_sig_Put l33 l34) <| fun p35 =>
  dY p35.1 <| fun l36 =>
  qN (vnum (eY p35.1)) <|
  dI l_6 <| fun l37 =>
  bnd (S_sig_Put l36 l37) <| fun p38 =>
  dY p38.1 <| fun l39 =>
  qN (vnum (eY p38.1)) <|
  bnd (S_uvar_Put l39 (wrp .u64 (vlen (eC l_7)))) <| fun p40 =>
  dY p40.1 <| fun l41 =>
  dI l_3 <| fun l42 =>
  dI l_4 <| fun l43 =>
  dI l_5 <| fun l44 =>
  dI l_6 <| fun l45 =>
  dC l_7 <| fun l46 =>
  dI l_8 <| fun l47 =>
  dN l_9 <| fun l48 =>
  dI l_10 <| fun l49 =>
  dS l_11 <| fun l50 =>
  qN (vnum (eY p40.1)) <|
  qS (eC l_7) <|
  qI (vlen (eC l_7)) <|
  iter (fun (d51 : (LB × (LB × (Bool × (LI × (LI × (LI × (LI × (LC × (LI × (LN × (LI × (LS × (Int × Unit)))))))))))))) again52 =>
   cnd (ltI d51.2.2.2.2.2.2.2.2.2.2.2.2.1 (vlen (eC l_7)))
    (chk (leI 0 d51.2.2.2.2.2.2.2.2.2.2.2.2.1) <|
    getE tC (eC l_7) (natI d51.2.2.2.2.2.2.2.2.2.2.2.2.1) <| fun p53 =>
    dY d51.1 <| fun l54 =>
    qN (vnum (eY d51.1)) <|
    bnd (S_instr_Put l54 p53.1 p53.2) <| fun p55 =>
    dY p55.1 <| fun l56 =>
    dI d51.2.2.2.1 <| fun l57 =>
    dI d51.2.2.2.2.1 <| fun l58 =>
    dI d51.2.2.2.2.2.1 <| fun l59 =>
    dI d51.2.2.2.2.2.2.1 <| fun l60 =>
    dC d51.2.2.2.2.2.2.2.1 <| fun l61 =>
    dI d51.2.2.2.2.2.2.2.2.1 <| fun l62 =>
    dN d51.2.2.2.2.2.2.2.2.2.1 <| fun l63 =>
    dI d51.2.2.2.2.2.2.2.2.2.2.1 <| fun l64 =>
    dS d51.2.2.2.2.2.2.2.2.2.2.2.1 <| fun l65 =>
    qN (vnum (eY p55.1)) <|
    qS (eC l_7) <|
    qI (vlen (eC l_7)) <|
    again52 (l56, (d51.2.1, (d51.2.2.1, (l57, (l58, (l59, (l60, (l61, (l62, (l63, (l64, (l65, ((wrp .i64 (addI d51.2.2.2.2.2.2.2.2.2.2.2.2.1 1)), ()))))))))))))))
    (dY d51.1 <| fun l66 =>
    qN (vnum (eY d51.1)) <|
    dI d51.2.2.2.2.2.2.2.2.1 <| fun l67 =>
    bnd (S_lines_Put l66 l67) <| fun p68 =>
    dI d51.2.2.2.1 <| fun l69 =>
    dI d51.2.2.2.2.1 <| fun l70 =>
    dI d51.2.2.2.2.2.1 <| fun l71 =>
    dI d51.2.2.2.2.2.2.1 <| fun l72 =>
    dC d51.2.2.2.2.2.2.2.1 <| fun l73 =>
    dI d51.2.2.2.2.2.2.2.2.1 <| fun l74 =>
    dN d51.2.2.2.2.2.2.2.2.2.1 <| fun l75 =>
    dI d51.2.2.2.2.2.2.2.2.2.2.1 <| fun l76 =>
    dS d51.2.2.2.2.2.2.2.2.2.2.2.1 <| fun l77 =>
    bnd (S_fnc_Bare d51.2.1 d51.2.2.1 l69 l70 l71 l72 l73 l74 l75 l76 l77) <| fun p78 =>
    cnd (notB p78.1)
     (dY p68.1 <| fun l79 =>
     qN (vnum (eY p68.1)) <|
     dN d51.2.2.2.2.2.2.2.2.2.1 <| fun l80 =>
     bnd (S_tree_Put l79 l80) <| fun p81 =>
     dY p81.1 <| fun l82 =>
     qN (vnum (eY p81.1)) <|
     dI d51.2.2.2.2.2.2.2.2.2.2.1 <| fun l83 =>
     bnd (S_runs_Put l82 l83) <| fun p84 =>
     dY p84.1 <| fun l85 =>
     qN (vnum (eY p84.1)) <|
     dS d51.2.2.2.2.2.2.2.2.2.2.2.1 <| fun l86 =>
     bnd (S_maps_Put l85 l86) <| fun p87 =>
     dY p87.1 <| fun l88 =>
     qN (vnum (eY p87.1)) <|
     some (l88, ()))
     (dY p68.1 <| fun l89 =>
     qN (vnum (eY p68.1)) <|
     some (l89, ())))) N (l41, (l_1, (b_2, (l42, (l43, (l44, (l45, (l46, (l47, (l48, (l49, (l50, (0, ()))))))))))))))
noncomputable def q_fnc_Put : Lift := ⟨tyX, look2 .todo (α := LoopAs) (.n 20 [(10, (.as ⟨[.dead, .mu 5 1 tY], [[.hole .str, .hole .bool, .hole (.sl 1 tI), .hole (.sl 1 tI), .hole (.sl 1 tI), .hole (.sl 1 tI), .hole (.sl 2 tC), .hole (.sl 1 tI), .hole (.sl 7 tN), .hole (.sl 1 tI), .hole (.sl 4 tS)]], (.one, [.own 1]) :: (.one, [.junk]) :: (.one, [.junk]) :: (.one, [.stat (.ptr 0 0)]) :: rp 44 (.one, [.junk]) ((.one, [.fix]) :: (.one, [.fix]) :: (.one, [.hole tI]) :: rp 25 (.one, [.junk]) ([]))⟩)), (1012288, (.times 0)), (1028680, (.as ⟨[.dead, .mu 5 1 tY], [[.fix, .fix, .fix, .fix, .fix, .fix, .fix, .fix, .fix, .fix, .fix]], (.one, [.own 1]) :: (.one, [.junk]) :: (.one, [.junk]) :: (.one, [.stat (.ptr 0 0)]) :: rp 72 (.one, [.junk]) ([])⟩)), (1073728, (.times 0))] .o .o), [c_fnc_Bare, c_fnc_Can, c_uvar_Put, c_fnc_flag, c_sig_Put, c_instr_Put, c_runs_Put, c_lines_Put, c_tree_Put, c_maps_Put], bsX⟩
theorem u_fnc_Put {N : Nat} {a0 : LB} {a1 : LB} {a2 : Bool} {a3 : LI} {a4 : LI} {a5 : LI} {a6 : LI} {a7 : LC} {a8 : LI} {a9 : LN} {a10 : LI} {a11 : LS} {q : (LB × Unit)} (h : M_fnc_Put N a0 a1 a2 a3 a4 a5 a6 a7 a8 a9 a10 a11 = some q) : S_fnc_Put a0 a1 a2 a3 a4 a5 a6 a7 a8 a9 a10 a11 = some q :=
 Sof_of (Q := q_fnc_Put) (N := N) (n := 3) (f := 20) (tin := i_fnc_Put) (tout := o_fnc_Put) (d := (a0, (a1, (a2, (a3, (a4, (a5, (a6, (a7, (a8, (a9, (a10, (a11, ()))))))))))))) (all1 k_fnc_Bare (all1 k_fnc_Can (all1 k_uvar_Put (all1 k_fnc_flag (all1 k_sig_Put (all1 k_instr_Put (all1 k_runs_Put (all1 k_lines_Put (all1 k_tree_Put (all1 k_maps_Put all0)))))))))) bs_ok (by kernel_rfl) (by kernel_rfl) (by kernel_rfl) (Eq.trans (b := M_fnc_Put N a0 a1 a2 a3 a4 a5 a6 a7 a8 a9 a10 a11) (by kernel_rfl) h)

noncomputable def M_fnc_Copy (N : Nat) (l_0 : LB) (b_1 : Bool) (l_2 : LI) (l_3 : LI) (l_4 : LI) (l_5 : LI) (l_6 : LC) (l_7 : LI) (l_8 : LN) (l_9 : LI) (l_10 : LS) : Option (LB × (Bool × (LI × (LI × (LI × (LI × (LC × (LI × (LN × (LI × (LS × Unit))))))))))) :=
 dI l_2 <| fun l1 =>
 bnd (S_slices_Clone_api_Type_api_Type l1) <| fun p2 =>
 dI l_3 <| fun l3 =>
 bnd (S_slices_Clone_api_Type_api_Type l3) <| fun p4 =>
 dI l_4 <| fun l5 =>
 bnd (S_slices_Clone_api_Type_api_Type l5) <| fun p6 =>
 dI l_5 <| fun l7 =>
 bnd (S_slices_Clone_api_Type_api_Type l7) <| fun p8 =>
 dC l_6 <| fun l9 =>
 bnd (S_slices_Clone_api_Instr_api_Instr l9) <| fun p10 =>
 dI l_7 <| fun l11 =>
 bnd (S_slices_Clone_int_int l11) <| fun p12 =>
 dN l_8 <| fun l13 =>
 bnd (S_slices_Clone_api_Node_api_Node l13) <| fun p14 =>
 dI l_9 <| fun l15 =>
 bnd (S_slices_Clone_int_int l15) <| fun p16 =>
 dS l_10 <| fun l17 =>
 bnd (S_slices_Clone_api_Set_api_Set l17) <| fun p18 =>
 dI p2.1 <| fun l19 =>
 dI p4.1 <| fun l20 =>
 dI p6.1 <| fun l21 =>
 dI p8.1 <| fun l22 =>
 dC p10.1 <| fun l23 =>
 dI p12.1 <| fun l24 =>
 dN p14.1 <| fun l25 =>
 dI p16.1 <| fun l26 =>
 dS p18.1 <| fun l27 =>
 some (l_0, (b_1, (l19, (l20, (l21, (l22, (l23, (l24, (l25, (l26, (l27, ())))))))))))
noncomputable def q_fnc_Copy : Lift := ⟨tyX, look2 .todo (α := LoopAs) (.o), [c_slices_Clone_api_Type_api_Type, c_slices_Clone_api_Instr_api_Instr, c_slices_Clone_int_int, c_slices_Clone_api_Node_api_Node, c_slices_Clone_api_Set_api_Set], bsX⟩
theorem u_fnc_Copy {N : Nat} {a0 : LB} {a1 : Bool} {a2 : LI} {a3 : LI} {a4 : LI} {a5 : LI} {a6 : LC} {a7 : LI} {a8 : LN} {a9 : LI} {a10 : LS} {q : (LB × (Bool × (LI × (LI × (LI × (LI × (LC × (LI × (LN × (LI × (LS × Unit)))))))))))} (h : M_fnc_Copy N a0 a1 a2 a3 a4 a5 a6 a7 a8 a9 a10 = some q) : S_fnc_Copy a0 a1 a2 a3 a4 a5 a6 a7 a8 a9 a10 = some q :=
 Sof_of (Q := q_fnc_Copy) (N := N) (n := 3) (f := 21) (tin := i_fnc_Copy) (tout := o_fnc_Copy) (d := (a0, (a1, (a2, (a3, (a4, (a5, (a6, (a7, (a8, (a9, (a10, ())))))))))))) (all1 k_slices_Clone_api_Type_api_Type (all1 k_slices_Clone_api_Instr_api_Instr (all1 k_slices_Clone_int_int (all1 k_slices_Clone_api_Node_api_Node (all1 k_slices_Clone_api_Set_api_Set all0))))) bs_ok (by kernel_rfl) (by kernel_rfl) (by kernel_rfl) (Eq.trans (b := M_fnc_Copy N a0 a1 a2 a3 a4 a5 a6 a7 a8 a9 a10) (by kernel_rfl) h)

noncomputable def M_law15_FncBack (N : Nat) (l_0 : LB) (b_1 : Bool) (l_2 : LI) (l_3 : LI) (l_4 : LI) (l_5 : LI) (l_6 : LC) (l_7 : LI) (l_8 : LN) (l_9 : LI) (l_10 : LS) (l_11 : LB) : Option (Bool × Unit) :=
 joinK (δ := (Bool × Unit)) (dI l_2 <| fun l1 =>
  dI l_3 <| fun l2 =>
  dI l_4 <| fun l3 =>
  dI l_5 <| fun l4 =>
  dC l_6 <| fun l5 =>
  dI l_7 <| fun l6 =>
  dN l_8 <| fun l7 =>
  dI l_9 <| fun l8 =>
  dS l_10 <| fun l9 =>
  bnd (S_law15_Small l_0 b_1 l1 l2 l3 l4 l5 l6 l7 l8 l9) <| fun p10 =>
  cnd (notB p10.1)
   (qB (ByteArray.mk (Array.mk l_0)) <|
   qO b_1 <|
   qS (eI l_2) <|
   qS (eI l_3) <|
   qS (eI l_4) <|
   qS (eI l_5) <|
   qS (eC l_6) <|
   qS (eI l_7) <|
   qS (eN l_8) <|
   qS (eI l_9) <|
   qS (eS l_10) <|
   qS (eY l_11) <|
   leftK (true, ()))
   (cnd (ltI 50 (vlen (eY l_11)))
    (qB (ByteArray.mk (Array.mk l_0)) <|
    qO b_1 <|
    qS (eI l_2) <|
    qS (eI l_3) <|
    qS (eI l_4) <|
    qS (eI l_5) <|
    qS (eC l_6) <|
    qS (eI l_7) <|
    qS (eN l_8) <|
    qS (eI l_9) <|
    qS (eS l_10) <|
    qS (eY l_11) <|
    leftK (true, ()))
    (dI l_2 <| fun l11 =>
    dI l_3 <| fun l12 =>
    dI l_4 <| fun l13 =>
    dI l_5 <| fun l14 =>
    dC l_6 <| fun l15 =>
    dI l_7 <| fun l16 =>
    dN l_8 <| fun l17 =>
    dI l_9 <| fun l18 =>
    dS l_10 <| fun l19 =>
    bnd (S_ref15_Can l_0 b_1 l11 l12 l13 l14 l15 l16 l17 l18 l19) <| fun p20 =>
    qB (ByteArray.mk (Array.mk l_0)) <|
    qO b_1 <|
    qS (eI l_2) <|
    qS (eI l_3) <|
    qS (eI l_4) <|
    qS (eI l_5) <|
    qS (eC l_6) <|
    qS (eI l_7) <|
    qS (eN l_8) <|
    qS (eI l_9) <|
    qS (eS l_10) <|
    qS (eY l_11) <|
    leftK ((notB (eqI p20.1 0)), ()))))
 <| fun p21 =>
 cnd p21.1
  (bnd (S_law15_lives) <| fun p22 =>
  some (p22.1, ()))
  (decL tY [] <| fun l23 =>
  dI l_2 <| fun l24 =>
  dI l_3 <| fun l25 =>
  dI l_4 <| fun l26 =>
  dI l_5 <| fun l27 =>
  dC l_6 <| fun l28 =>
  dI l_7 <| fun l29 =>
  dN l_8 <| fun l30 =>
  dI l_9 <| fun l31 =>
  dS l_10 <| fun l32 =>
  bnd (S_fnc_Put l23 l_0 b_1 l24 l25 l26 l27 l28 l29 l30 l31 l32) <| fun p33 =>
  qN (vnum (eY p33.1)) <|
  chk (room (vnum (eY p33.1)) (vnum (eY l_11)) 1) <|
  chk (leN (addN 0 (addN (vnum (eY p33.1)) (vnum (eY l_11)))) (vnum (vapp (eY p33.1) (eY l_11)))) <|
  decL tY (vcut (vapp (eY p33.1) (eY l_11)) 0 (addN (vnum (eY p33.1)) (vnum (eY l_11)))) <| fun l34 =>
  bnd (S_cursor_New l34) <| fun p35 =>
  dY p35.1 <| fun l36 =>
  bnd (S_fnc_Take l36 p35.2.1 p35.2.2.1) <| fun p37 =>
  dI p37.2.2.2.2.2.1 <| fun l38 =>
  dI p37.2.2.2.2.2.2.1 <| fun l39 =>
  dI p37.2.2.2.2.2.2.2.1 <| fun l40 =>
  dI p37.2.2.2.2.2.2.2.2.1 <| fun l41 =>
  dC p37.2.2.2.2.2.2.2.2.2.1 <| fun l42 =>
  dI p37.2.2.2.2.2.2.2.2.2.2.1 <| fun l43 =>
  dN p37.2.2.2.2.2.2.2.2.2.2.2.1 <| fun l44 =>
  dI p37.2.2.2.2.2.2.2.2.2.2.2.2.1 <| fun l45 =>
  dS p37.2.2.2.2.2.2.2.2.2.2.2.2.2.1 <| fun l46 =>
  dI l_2 <| fun l47 =>
  dI l_3 <| fun l48 =>
  dI l_4 <| fun l49 =>
  dI l_5 <| fun l50 =>
  dC l_6 <| fun l51 =>
  dI l_7 <| fun l52 =>
  dN l_8 <| fun l53 =>
  dI l_9 <| fun l54 =>
  dS l_10 <| fun l55 =>
  bnd (S_ref15_Same p37.2.2.2.1 p37.2.2.2.2.1 l38 l39 l40 l41 l42 l43 l44 l45 l46 l_0 b_1 l47 l48 l49 l50 l51 l52 l53 l54 l55) <| fun p56 =>
  cnd p56.1
   (dY p37.1 <| fun l57 =>
   bnd (S_cursor_Cursor_Err l57 p37.2.1 p37.2.2.1) <| fun p58 =>
   cnd (eqI p58.2.2.2.1 0)
    (dY p58.1 <| fun l59 =>
    bnd (S_cursor_Cursor_Left l59 p58.2.1 p58.2.2.1) <| fun p60 =>
    cnd (eqI p60.2.2.2.1 (vlen (eY l_11)))
     (dI l_2 <| fun l61 =>
     dI l_3 <| fun l62 =>
     dI l_4 <| fun l63 =>
     dI l_5 <| fun l64 =>
     dC l_6 <| fun l65 =>
     dI l_7 <| fun l66 =>
     dN l_8 <| fun l67 =>
     dI l_9 <| fun l68 =>
     dS l_10 <| fun l69 =>
     bnd (S_fnc_Copy l_0 b_1 l61 l62 l63 l64 l65 l66 l67 l68 l69) <| fun p70 =>
     dI p70.2.2.1 <| fun l71 =>
     dI p70.2.2.2.1 <| fun l72 =>
     dI p70.2.2.2.2.1 <| fun l73 =>
     dI p70.2.2.2.2.2.1 <| fun l74 =>
     dC p70.2.2.2.2.2.2.1 <| fun l75 =>
     dI p70.2.2.2.2.2.2.2.1 <| fun l76 =>
     dN p70.2.2.2.2.2.2.2.2.1 <| fun l77 =>
     dI p70.2.2.2.2.2.2.2.2.2.1 <| fun l78 =>
     dS p70.2.2.2.2.2.2.2.2.2.2.1 <| fun l79 =>
     dI l_2 <| fun l80 =>
     dI l_3 <| fun l81 =>
     dI l_4 <| fun l82 =>
     dI l_5 <| fun l83 =>
     dC l_6 <| fun l84 =>
     dI l_7 <| fun l85 =>
     dN l_8 <| fun l86 =>
     dI l_9 <| fun l87 =>
     dS l_10 <| fun l88 =>
     bnd (S_ref15_Same p70.1 p70.2.1 l71 l72 l73 l74 l75 l76 l77 l78 l79 l_0 b_1 l80 l81 l82 l83 l84 l85 l86 l87 l88) <| fun p89 =>
     cnd p89.1
      (bnd (S_law15_lives) <| fun p90 =>
      some (p90.1, ()))
      (some (false, ())))
     (some (false, ())))
    (some (false, ())))
   (some (false, ())))
noncomputable def q_law15_FncBack : Lift := ⟨tyX, look2 .todo (α := LoopAs) (.n 4 [(1008195, (.as ⟨[], [[.fix, .fix, .fix, .fix, .fix, .fix, .fix, .fix, .fix, .fix, .fix]], (.one, [.junk]) :: (.one, [.fix]) :: (.one, [.stat (.ptr 0 0)]) :: rp 16 (.one, [.junk]) ((.one, [.hole .bool]) :: rp 34 (.one, [.junk]) ([]))⟩))] .o .o), [c_law15_Small, c_ref15_Can, c_law15_lives, c_fnc_Put, c_cursor_New, c_cursor_Cursor_Err, c_fnc_Take, c_ref15_Same, c_cursor_Cursor_Left, c_fnc_Copy], bsX⟩
theorem u_law15_FncBack {N : Nat} {a0 : LB} {a1 : Bool} {a2 : LI} {a3 : LI} {a4 : LI} {a5 : LI} {a6 : LC} {a7 : LI} {a8 : LN} {a9 : LI} {a10 : LS} {a11 : LB} {q : (Bool × Unit)} (h : M_law15_FncBack N a0 a1 a2 a3 a4 a5 a6 a7 a8 a9 a10 a11 = some q) : S_law15_FncBack a0 a1 a2 a3 a4 a5 a6 a7 a8 a9 a10 a11 = some q :=
 Sof_of (Q := q_law15_FncBack) (N := N) (n := 3) (f := 4) (tin := i_law15_FncBack) (tout := o_law15_FncBack) (d := (a0, (a1, (a2, (a3, (a4, (a5, (a6, (a7, (a8, (a9, (a10, (a11, ()))))))))))))) (all1 k_law15_Small (all1 k_ref15_Can (all1 k_law15_lives (all1 k_fnc_Put (all1 k_cursor_New (all1 k_cursor_Cursor_Err (all1 k_fnc_Take (all1 k_ref15_Same (all1 k_cursor_Cursor_Left (all1 k_fnc_Copy all0)))))))))) bs_ok (by kernel_rfl) (by kernel_rfl) (by kernel_rfl) (Eq.trans (b := M_law15_FncBack N a0 a1 a2 a3 a4 a5 a6 a7 a8 a9 a10 a11) (by kernel_rfl) h)

end Go.Proofs.YtkdnbnkbnegckaaGreat

