/- Functions, lifted: what the program comes to by them. All lifted functions. The number that bytes begin with: what the lifted functions come to. -/
import Derived.Test.YtkdnbnkbnegckaaGreatLwA
import Derived.Test.YtkdnbnkbnegckaaGreatLw1
import Derived.Test.YtkdnbnkbnegckaaGreatLw2
import Derived.Test.YtkdnbnkbnegckaaGreatLw4
import Derived.Test.YtkdnbnkbnegckaaGreatLw5
import Derived.Test.YtkdnbnkbnegckaaGreatLw6
import Derived.Test.YtkdnbnkbnegckaaGreatLw7
import Derived.Test.YtkdnbnkbnegckaaGreatLw8
import Derived.Test.YtkdnbnkbnegckaaGreatLw9
import Derived.Test.YtkdnbnkbnegckaaGreatLw10
import Derived.Test.YtkdnbnkbnegckaaGreatLw11
import Derived.Test.YtkdnbnkbnegckaaGreatLw12
import Derived.Test.YtkdnbnkbnegckaaGreatClo
namespace Go.Proofs.YtkdnbnkbnegckaaGreat
open Go.RowKit
set_option maxRecDepth 100000
set_option linter.unusedVariables false
noncomputable def M_fnc_Same (N : Nat) (l_0 : LB) (b_1 : Bool) (l_2 : LI) (l_3 : LI) (l_4 : LI) (l_5 : LI) (l_6 : LC) (l_7 : LI) (l_8 : LN) (l_9 : LI) (l_10 : LS) (l_11 : LB) (b_12 : Bool) (l_13 : LI) (l_14 : LI) (l_15 : LI) (l_16 : LI) (l_17 : LC) (l_18 : LI) (l_19 : LN) (l_20 : LI) (l_21 : LS) : Option (Bool × Unit) :=
 joinK (δ := (Bool × Unit)) (cnd (seq2 (ByteArray.mk (Array.mk l_0)) (ByteArray.mk (Array.mk l_11)))
   (cnd (eqB b_1 b_12)
    (dI l_2 <| fun l1 =>
    dI l_13 <| fun l2 =>
    bnd (S_sig_Same l1 l2) <| fun p3 =>
    qB (ByteArray.mk (Array.mk l_0)) <|
    qO b_1 <|
    qS (eI l_2) <|
    qS (eI l_3) <|
    qS (eI l_4) <|
    qS (eI l_5) <|
    qS (eC l_6) <|
    qS (eI l_7) <|
    qS (eN l_8) <|
    qS (eI l_9) <|
    qS (eS l_10) <|
    qB (ByteArray.mk (Array.mk l_11)) <|
    qO b_12 <|
    qS (eI l_13) <|
    qS (eI l_14) <|
    qS (eI l_15) <|
    qS (eI l_16) <|
    qS (eC l_17) <|
    qS (eI l_18) <|
    qS (eN l_19) <|
    qS (eI l_20) <|
    qS (eS l_21) <|
    leftK (p3.1, ()))
    (qB (ByteArray.mk (Array.mk l_0)) <|
    qO b_1 <|
    qS (eI l_2) <|
    qS (eI l_3) <|
    qS (eI l_4) <|
    qS (eI l_5) <|
    qS (eC l_6) <|
    qS (eI l_7) <|
    qS (eN l_8) <|
    qS (eI l_9) <|
    qS (eS l_10) <|
    qB (ByteArray.mk (Array.mk l_11)) <|
    qO b_12 <|
    qS (eI l_13) <|
    qS (eI l_14) <|
    qS (eI l_15) <|
    qS (eI l_16) <|
    qS (eC l_17) <|
    qS (eI l_18) <|
    qS (eN l_19) <|
    qS (eI l_20) <|
    qS (eS l_21) <|
    leftK (false, ())))
   (qB (ByteArray.mk (Array.mk l_0)) <|
   qO b_1 <|
   qS (eI l_2) <|
   qS (eI l_3) <|
   qS (eI l_4) <|
   qS (eI l_5) <|
   qS (eC l_6) <|
   qS (eI l_7) <|
   qS (eN l_8) <|
   qS (eI l_9) <|
   qS (eS l_10) <|
   qB (ByteArray.mk (Array.mk l_11)) <|
   qO b_12 <|
   qS (eI l_13) <|
   qS (eI l_14) <|
   qS (eI l_15) <|
   qS (eI l_16) <|
   qS (eC l_17) <|
   qS (eI l_18) <|
   qS (eN l_19) <|
   qS (eI l_20) <|
   qS (eS l_21) <|
   leftK (false, ())))
 <| fun p4 =>
 joinK (δ := (Bool × Unit)) (dI l_3 <| fun l5 =>
  dI l_14 <| fun l6 =>
  bnd (S_sig_Same l5 l6) <| fun p7 =>
  cnd p7.1
   (dI l_4 <| fun l8 =>
   dI l_15 <| fun l9 =>
   bnd (S_sig_Same l8 l9) <| fun p10 =>
   cnd p10.1
    (dI l_5 <| fun l11 =>
    dI l_16 <| fun l12 =>
    bnd (S_sig_Same l11 l12) <| fun p13 =>
    qB (ByteArray.mk (Array.mk l_0)) <|
    qO b_1 <|
    qS (eI l_2) <|
    qS (eI l_3) <|
    qS (eI l_4) <|
    qS (eI l_5) <|
    qS (eC l_6) <|
    qS (eI l_7) <|
    qS (eN l_8) <|
    qS (eI l_9) <|
    qS (eS l_10) <|
    qB (ByteArray.mk (Array.mk l_11)) <|
    qO b_12 <|
    qS (eI l_13) <|
    qS (eI l_14) <|
    qS (eI l_15) <|
    qS (eI l_16) <|
    qS (eC l_17) <|
    qS (eI l_18) <|
    qS (eN l_19) <|
    qS (eI l_20) <|
    qS (eS l_21) <|
    qO p4.1 <|
    leftK (p13.1, ()))
    (qB (ByteArray.mk (Array.mk l_0)) <|
    qO b_1 <|
    qS (eI l_2) <|
    qS (eI l_3) <|
    qS (eI l_4) <|
    qS (eI l_5) <|
    qS (eC l_6) <|
    qS (eI l_7) <|
    qS (eN l_8) <|
    qS (eI l_9) <|
    qS (eS l_10) <|
    qB (ByteArray.mk (Array.mk l_11)) <|
    qO b_12 <|
    qS (eI l_13) <|
    qS (eI l_14) <|
    qS (eI l_15) <|
    qS (eI l_16) <|
    qS (eC l_17) <|
    qS (eI l_18) <|
    qS (eN l_19) <|
    qS (eI l_20) <|
    qS (eS l_21) <|
    qO p4.1 <|
    leftK (false, ())))
   (qB (ByteArray.mk (Array.mk l_0)) <|
   qO b_1 <|
   qS (eI l_2) <|
   qS (eI l_3) <|
   qS (eI l_4) <|
   qS (eI l_5) <|
   qS (eC l_6) <|
   qS (eI l_7) <|
   qS (eN l_8) <|
   qS (eI l_9) <|
   qS (eS l_10) <|
   qB (ByteArray.mk (Array.mk l_11)) <|
   qO b_12 <|
   qS (eI l_13) <|
   qS (eI l_14) <|
   qS (eI l_15) <|
   qS (eI l_16) <|
   qS (eC l_17) <|
   qS (eI l_18) <|
   qS (eN l_19) <|
   qS (eI l_20) <|
   qS (eS l_21) <|
   qO p4.1 <|
   leftK (false, ())))
 <| fun p14 =>
 joinK (δ := (Bool × Unit)) (dC l_6 <| fun l15 =>
  dC l_17 <| fun l16 =>
  bnd (S_slices_Equal_api_Instr_api_Instr l15 l16) <| fun p17 =>
  cnd p17.1
   (dI l_7 <| fun l18 =>
   dI l_18 <| fun l19 =>
   bnd (S_slices_Equal_int_int l18 l19) <| fun p20 =>
   qB (ByteArray.mk (Array.mk l_0)) <|
   qO b_1 <|
   qS (eI l_2) <|
   qS (eI l_3) <|
   qS (eI l_4) <|
   qS (eI l_5) <|
   qS (eC l_6) <|
   qS (eI l_7) <|
   qS (eN l_8) <|
   qS (eI l_9) <|
   qS (eS l_10) <|
   qB (ByteArray.mk (Array.mk l_11)) <|
   qO b_12 <|
   qS (eI l_13) <|
   qS (eI l_14) <|
   qS (eI l_15) <|
   qS (eI l_16) <|
   qS (eC l_17) <|
   qS (eI l_18) <|
   qS (eN l_19) <|
   qS (eI l_20) <|
   qS (eS l_21) <|
   qO p4.1 <|
   qO p14.1 <|
   leftK (p20.1, ()))
   (qB (ByteArray.mk (Array.mk l_0)) <|
   qO b_1 <|
   qS (eI l_2) <|
   qS (eI l_3) <|
   qS (eI l_4) <|
   qS (eI l_5) <|
   qS (eC l_6) <|
   qS (eI l_7) <|
   qS (eN l_8) <|
   qS (eI l_9) <|
   qS (eS l_10) <|
   qB (ByteArray.mk (Array.mk l_11)) <|
   qO b_12 <|
   qS (eI l_13) <|
   qS (eI l_14) <|
   qS (eI l_15) <|
   qS (eI l_16) <|
   qS (eC l_17) <|
   qS (eI l_18) <|
   qS (eN l_19) <|
   qS (eI l_20) <|
   qS (eS l_21) <|
   qO p4.1 <|
   qO p14.1 <|
   leftK (false, ())))
 <| fun p21 =>
 cnd p4.1
  (cnd p14.1
   (cnd p21.1
    (dN l_8 <| fun l22 =>
    dN l_19 <| fun l23 =>
    bnd (S_slices_Equal_api_Node_api_Node l22 l23) <| fun p24 =>
    cnd p24.1
     (dI l_9 <| fun l25 =>
     dI l_20 <| fun l26 =>
     bnd (S_slices_Equal_int_int l25 l26) <| fun p27 =>
     cnd p27.1
      (dS l_10 <| fun l28 =>
      dS l_21 <| fun l29 =>
      bnd (S_slices_Equal_api_Set_api_Set l28 l29) <| fun p30 =>
      some (p30.1, ()))
      (some (false, ())))
     (some (false, ())))
    (some (false, ())))
   (some (false, ())))
  (some (false, ()))
noncomputable def q_fnc_Same : Lift := ⟨tyX, look2 .todo (α := LoopAs) (.n 55 [(1008195, (.as ⟨[], [[.fix, .fix, .fix, .fix, .fix, .fix, .fix, .fix, .fix, .fix, .fix], [.fix, .fix, .fix, .fix, .fix, .fix, .fix, .fix, .fix, .fix, .fix]], (.one, [.junk]) :: (.one, [.junk]) :: (.one, [.stat (.ptr 0 0)]) :: (.one, [.stat (.ptr 1 0)]) :: (.one, [.junk]) :: (.one, [.hole .bool]) :: rp 80 (.one, [.junk]) ([])⟩)), (1012292, (.as ⟨[], [[.fix, .fix, .fix, .fix, .fix, .fix, .fix, .fix, .fix, .fix, .fix], [.fix, .fix, .fix, .fix, .fix, .fix, .fix, .fix, .fix, .fix, .fix]], (.one, [.junk]) :: (.one, [.junk]) :: (.one, [.stat (.ptr 0 0)]) :: (.one, [.stat (.ptr 1 0)]) :: (.one, [.junk]) :: (.one, [.fix]) :: (.one, [.hole .bool]) :: rp 79 (.one, [.junk]) ([])⟩)), (1016389, (.as ⟨[], [[.fix, .fix, .fix, .fix, .fix, .fix, .fix, .fix, .fix, .fix, .fix], [.fix, .fix, .fix, .fix, .fix, .fix, .fix, .fix, .fix, .fix, .fix]], (.one, [.junk]) :: (.one, [.junk]) :: (.one, [.stat (.ptr 0 0)]) :: (.one, [.stat (.ptr 1 0)]) :: (.one, [.junk]) :: (.one, [.fix]) :: (.one, [.fix]) :: (.one, [.hole .bool]) :: rp 78 (.one, [.junk]) ([])⟩))] .o .o), [c_sig_Same, c_slices_Equal_api_Instr_api_Instr, c_slices_Equal_int_int, c_slices_Equal_api_Node_api_Node, c_slices_Equal_api_Set_api_Set], bsX⟩
theorem u_fnc_Same {N : Nat} {a0 : LB} {a1 : Bool} {a2 : LI} {a3 : LI} {a4 : LI} {a5 : LI} {a6 : LC} {a7 : LI} {a8 : LN} {a9 : LI} {a10 : LS} {a11 : LB} {a12 : Bool} {a13 : LI} {a14 : LI} {a15 : LI} {a16 : LI} {a17 : LC} {a18 : LI} {a19 : LN} {a20 : LI} {a21 : LS} {q : (Bool × Unit)} (h : M_fnc_Same N a0 a1 a2 a3 a4 a5 a6 a7 a8 a9 a10 a11 a12 a13 a14 a15 a16 a17 a18 a19 a20 a21 = some q) : S_fnc_Same a0 a1 a2 a3 a4 a5 a6 a7 a8 a9 a10 a11 a12 a13 a14 a15 a16 a17 a18 a19 a20 a21 = some q :=
 Sof_of (Q := q_fnc_Same) (N := N) (n := 3) (f := 55) (tin := i_fnc_Same) (tout := o_fnc_Same) (d := (a0, (a1, (a2, (a3, (a4, (a5, (a6, (a7, (a8, (a9, (a10, (a11, (a12, (a13, (a14, (a15, (a16, (a17, (a18, (a19, (a20, (a21, ()))))))))))))))))))))))) (all1 k_sig_Same (all1 k_slices_Equal_api_Instr_api_Instr (all1 k_slices_Equal_int_int (all1 k_slices_Equal_api_Node_api_Node (all1 k_slices_Equal_api_Set_api_Set all0))))) bs_ok (by kernel_rfl) (by kernel_rfl) (by kernel_rfl) (Eq.trans (b := M_fnc_Same N a0 a1 a2 a3 a4 a5 a6 a7 a8 a9 a10 a11 a12 a13 a14 a15 a16 a17 a18 a19 a20 a21) (by kernel_rfl) h)

noncomputable def M_law15_lives (N : Nat) : Option (Bool × Unit) :=
 decL tI [] <| fun l1 =>
 decL tI [] <| fun l2 =>
 decL tI [] <| fun l3 =>
 decL tI [] <| fun l4 =>
 decL tC (vcut [[(C.v (Go.Value.int .i64 25)), (C.v (Go.Value.int .i64 0))]] 0 1) <| fun l5 =>
 decL tI (vcut [[(C.v (Go.Value.int .i64 1))]] 0 1) <| fun l6 =>
 decL tN [] <| fun l7 =>
 decL tI [] <| fun l8 =>
 decL tS [] <| fun l9 =>
 bnd (S_fnc_Can [(UInt8.ofNat 102)] false l1 l2 l3 l4 l5 l6 l7 l8 l9) <| fun p10 =>
 cnd (eqI p10.1 0)
  (decL tI [] <| fun l11 =>
  decL tI [] <| fun l12 =>
  decL tI [] <| fun l13 =>
  decL tI [] <| fun l14 =>
  decL tC [] <| fun l15 =>
  decL tI [] <| fun l16 =>
  decL tN [] <| fun l17 =>
  decL tI [] <| fun l18 =>
  decL tS [] <| fun l19 =>
  bnd (S_fnc_Can [] false l11 l12 l13 l14 l15 l16 l17 l18 l19) <| fun p20 =>
  cnd (eqI p20.1 7)
   (decL tI [] <| fun l21 =>
   decL tI [] <| fun l22 =>
   decL tI [] <| fun l23 =>
   decL tI [] <| fun l24 =>
   decL tC (vcut [[(C.v (Go.Value.int .i64 25)), (C.v (Go.Value.int .i64 0))]] 0 1) <| fun l25 =>
   decL tI (vcut [[(C.v (Go.Value.int .i64 1))]] 0 1) <| fun l26 =>
   decL tN [] <| fun l27 =>
   decL tI [] <| fun l28 =>
   decL tS [] <| fun l29 =>
   bnd (S_fnc_Bare [(UInt8.ofNat 102)] false l21 l22 l23 l24 l25 l26 l27 l28 l29) <| fun p30 =>
   cnd p30.1
    (decL tI [] <| fun l31 =>
    decL tI [] <| fun l32 =>
    decL tI [] <| fun l33 =>
    decL tI [] <| fun l34 =>
    decL tC (vcut [[(C.v (Go.Value.int .i64 25)), (C.v (Go.Value.int .i64 0))]] 0 1) <| fun l35 =>
    decL tI (vcut [[(C.v (Go.Value.int .i64 1))]] 0 1) <| fun l36 =>
    decL tN [] <| fun l37 =>
    decL tI [] <| fun l38 =>
    decL tS [] <| fun l39 =>
    decL tI [] <| fun l40 =>
    decL tI [] <| fun l41 =>
    decL tI [] <| fun l42 =>
    decL tI [] <| fun l43 =>
    decL tC (vcut [[(C.v (Go.Value.int .i64 25)), (C.v (Go.Value.int .i64 0))]] 0 1) <| fun l44 =>
    decL tI (vcut [[(C.v (Go.Value.int .i64 1))]] 0 1) <| fun l45 =>
    decL tN [] <| fun l46 =>
    decL tI [] <| fun l47 =>
    decL tS [] <| fun l48 =>
    bnd (S_fnc_Same [(UInt8.ofNat 102)] false l31 l32 l33 l34 l35 l36 l37 l38 l39 [(UInt8.ofNat 102)] false l40 l41 l42 l43 l44 l45 l46 l47 l48) <| fun p49 =>
    cnd p49.1
     (decL tI [] <| fun l50 =>
     decL tI [] <| fun l51 =>
     decL tI [] <| fun l52 =>
     decL tI [] <| fun l53 =>
     decL tC (vcut [[(C.v (Go.Value.int .i64 25)), (C.v (Go.Value.int .i64 0))]] 0 1) <| fun l54 =>
     decL tI (vcut [[(C.v (Go.Value.int .i64 1))]] 0 1) <| fun l55 =>
     decL tN [] <| fun l56 =>
     decL tI [] <| fun l57 =>
     decL tS [] <| fun l58 =>
     decL tI [] <| fun l59 =>
     decL tI [] <| fun l60 =>
     decL tI [] <| fun l61 =>
     decL tI [] <| fun l62 =>
     decL tC [] <| fun l63 =>
     decL tI [] <| fun l64 =>
     decL tN [] <| fun l65 =>
     decL tI [] <| fun l66 =>
     decL tS [] <| fun l67 =>
     bnd (S_fnc_Same [(UInt8.ofNat 102)] false l50 l51 l52 l53 l54 l55 l56 l57 l58 [] false l59 l60 l61 l62 l63 l64 l65 l66 l67) <| fun p68 =>
     some ((notB p68.1), ()))
     (some (false, ())))
    (some (false, ())))
   (some (false, ())))
  (some (false, ()))
noncomputable def q_law15_lives : Lift := ⟨tyX, look2 .todo (α := LoopAs) (.o), [c_fnc_Bare, c_fnc_Can, c_fnc_Same], bsX⟩
theorem u_law15_lives {N : Nat}  {q : (Bool × Unit)} (h : M_law15_lives N  = some q) : S_law15_lives  = some q :=
 Sof_of (Q := q_law15_lives) (N := N) (n := 3) (f := 17) (tin := i_law15_lives) (tout := o_law15_lives) (d := ()) (all1 k_fnc_Bare (all1 k_fnc_Can (all1 k_fnc_Same all0))) bs_ok (by kernel_rfl) (by kernel_rfl) (by kernel_rfl) (Eq.trans (b := M_law15_lives N ) (by kernel_rfl) h)

noncomputable def M_law15_FncTakes (N : Nat) (l_0 : LB) : Option (Bool × Unit) :=
 dY l_0 <| fun l1 =>
 bnd (S_cursor_New l1) <| fun p2 =>
 dY l_0 <| fun l3 =>
 bnd (S_ref15_Take l3 0) <| fun p4 =>
 dY p2.1 <| fun l5 =>
 bnd (S_fnc_Take l5 p2.2.1 p2.2.2.1) <| fun p6 =>
 dI p6.2.2.2.2.2.1 <| fun l7 =>
 dI p6.2.2.2.2.2.2.1 <| fun l8 =>
 dI p6.2.2.2.2.2.2.2.1 <| fun l9 =>
 dI p6.2.2.2.2.2.2.2.2.1 <| fun l10 =>
 dC p6.2.2.2.2.2.2.2.2.2.1 <| fun l11 =>
 dI p6.2.2.2.2.2.2.2.2.2.2.1 <| fun l12 =>
 dN p6.2.2.2.2.2.2.2.2.2.2.2.1 <| fun l13 =>
 dI p6.2.2.2.2.2.2.2.2.2.2.2.2.1 <| fun l14 =>
 dS p6.2.2.2.2.2.2.2.2.2.2.2.2.2.1 <| fun l15 =>
 dI p4.2.2.1 <| fun l16 =>
 dI p4.2.2.2.1 <| fun l17 =>
 dI p4.2.2.2.2.1 <| fun l18 =>
 dI p4.2.2.2.2.2.1 <| fun l19 =>
 dC p4.2.2.2.2.2.2.1 <| fun l20 =>
 dI p4.2.2.2.2.2.2.2.1 <| fun l21 =>
 dN p4.2.2.2.2.2.2.2.2.1 <| fun l22 =>
 dI p4.2.2.2.2.2.2.2.2.2.1 <| fun l23 =>
 dS p4.2.2.2.2.2.2.2.2.2.2.1 <| fun l24 =>
 bnd (S_ref15_Same p6.2.2.2.1 p6.2.2.2.2.1 l7 l8 l9 l10 l11 l12 l13 l14 l15 p4.1 p4.2.1 l16 l17 l18 l19 l20 l21 l22 l23 l24) <| fun p25 =>
 cnd p25.1
  (dY p6.1 <| fun l26 =>
  bnd (S_cursor_Cursor_Err l26 p6.2.1 p6.2.2.1) <| fun p27 =>
  cnd (eqI p27.2.2.2.1 p4.2.2.2.2.2.2.2.2.2.2.2.2.1)
   (dY p27.1 <| fun l28 =>
   bnd (S_cursor_Cursor_Left l28 p27.2.1 p27.2.2.1) <| fun p29 =>
   dY p4.2.2.2.2.2.2.2.2.2.2.2.1 <| fun l30 =>
   bnd (S_ref02_Left l30 p4.2.2.2.2.2.2.2.2.2.2.2.2.1) <| fun p31 =>
   cnd (eqI p29.2.2.2.1 p31.1)
    (bnd (S_law15_lives) <| fun p32 =>
    some (p32.1, ()))
    (some (false, ())))
   (some (false, ())))
  (some (false, ()))
noncomputable def q_law15_FncTakes : Lift := ⟨tyX, look2 .todo (α := LoopAs) (.o), [c_cursor_New, c_ref15_Take, c_cursor_Cursor_Err, c_fnc_Take, c_ref15_Same, c_cursor_Cursor_Left, c_ref02_Left, c_law15_lives], bsX⟩
theorem u_law15_FncTakes {N : Nat} {a0 : LB} {q : (Bool × Unit)} (h : M_law15_FncTakes N a0 = some q) : S_law15_FncTakes a0 = some q :=
 Sof_of (Q := q_law15_FncTakes) (N := N) (n := 3) (f := 3) (tin := i_law15_FncTakes) (tout := o_law15_FncTakes) (d := (a0, ())) (all1 k_cursor_New (all1 k_ref15_Take (all1 k_cursor_Cursor_Err (all1 k_fnc_Take (all1 k_ref15_Same (all1 k_cursor_Cursor_Left (all1 k_ref02_Left (all1 k_law15_lives all0)))))))) bs_ok (by kernel_rfl) (by kernel_rfl) (by kernel_rfl) (Eq.trans (b := M_law15_FncTakes N a0) (by kernel_rfl) h)

end Go.Proofs.YtkdnbnkbnegckaaGreat

namespace Go.Proofs.YtkdnbnkbnegckaaGreat
open Go.RowKit

theorem pow7 (i : Nat) : 2 ^ (7 * (i + 1)) = 2 ^ (7 * i) * 128 := by rw [Nat.mul_add, Nat.pow_add]
theorem sp_ref01_Get {l : List UInt8} (hl : l.length ≤ 140737488351232) : S_ref01_Get l = some (((getB l).1 : Int), (((getB l).2.1 : Int), ((getB l).2.2, ()))) := by
  refine u_ref01_Get (N := l.length + 1) ?_
  unfold M_ref01_Get
  simp
  refine iter_to (fun d => l.length - d.2.2.1.toNat) (fun d => ∃ k n : Nat, d = ((n : Int), (((2 ^ (7 * k) : Nat) : Int), ((k : Int), ()))) ∧ k ≤ l.length ∧ k ≤ 9 ∧ n < 2 ^ (7 * k) ∧ getB l = getG k n (l.drop k)) ?_ _ _ ⟨0, 0, rfl, Nat.zero_le _, by decide, by decide, rfl⟩ (by simp)
  rintro _ again ⟨k, n, rfl, h1, h2, h3, h4⟩ ih
  by_cases hlt : k < l.length
  · have hs := getB_step hlt h4
    have hc := l[k].toNat_lt
    have hg : l[k]? = some l[k] := List.getElem?_eq_getElem hlt
    have hp := pow7 k
    have hp9 : 2 ^ (7 * k) ≤ 9223372036854775808 := Nat.le_trans (Nat.pow_le_pow_right (by decide) (show 7 * k ≤ 63 by omega)) (by decide)
    have hp8 : k ≠ 9 → 2 ^ (7 * k) ≤ 72057594037927936 := fun h => Nat.le_trans (Nat.pow_le_pow_right (by decide) (show 7 * k ≤ 56 by omega)) (by decide)
    obtain ⟨c, hu, hcn⟩ : ∃ c : Nat, u8I l[k] = c ∧ l[k].toNat = c := ⟨_, rfl, rfl⟩
    rw [hcn] at hs hc
    generalize hP : 2 ^ (7 * k) = P at *
    by_cases hA : k = 9 ∧ 1 < c
    · obtain ⟨rfl, hA⟩ := hA
      simp [hg, hu, hs.1 rfl hA, show (1 : Int) < c by omega, show (9 : Int) < l.length by omega]
    · have hA' : k = 9 → c ≤ 1 := by omega
      have hA2 : ¬((k : Int) = 9 ∧ (1 : Int) < c) := by omega
      have ht : (c : Int).tmod 128 = ((c % 128 : Nat) : Int) := by rw [Int.tmod_eq_emod_of_nonneg (by omega)]; omega
      simp [hg, hu, hlt, hA2, ht]
      by_cases hB : 128 ≤ c
      · have hk9 : k ≠ 9 := by omega
        have h8 := hp8 hk9
        have hle : (c - 128) * P ≤ 127 * P := Nat.mul_le_mul_right _ (by omega)
        rw [if_neg (show ¬(c : Int) < 128 by omega)]
        have e1 : c % 128 = c - 128 := by omega
        have e2 : (((c : Int) % 128) * P) = (((c - 128) * P : Nat) : Int) := by rw [show (c : Int) % 128 = ((c - 128 : Nat) : Int) by omega, Int.natCast_mul]
        simp (disch := omega) only [e2, wu64, wi64]
        refine ih _ ⟨k + 1, n + (c - 128) * P, ?_, by omega, by omega, by rw [hp]; omega, hs.2.1 hA' hB⟩ (by simp; omega)
        simp [hp]
      · rw [if_pos (show (c : Int) < 128 by omega)]
        by_cases hC : c = 0 ∧ 0 < k
        · rw [if_pos hC, hs.2.2.1 hA' (by omega) hC.1 hC.2]; rfl
        · rw [if_neg hC, hs.2.2.2 hA' (by omega) (by omega)]
          have hle : c * P < 18446744073709551616 - n := by
            by_cases h9 : k = 9
            · have : c * P ≤ 1 * P := Nat.mul_le_mul_right _ (hA' h9)
              omega
            · have := hp8 h9
              have : c * P ≤ 127 * P := Nat.mul_le_mul_right _ (by omega)
              omega
          have e2 : (((c : Int) % 128) * P) = ((c * P : Nat) : Int) := by rw [show (c : Int) % 128 = (c : Int) by omega, Int.natCast_mul]
          simp (disch := omega) only [e2, wu64, wi64]
          simp
  · have e : k = l.length := by omega
    subst e
    rw [h4]
    simp [getG]
theorem sp_uvar_Get {l : List UInt8} (hl : l.length ≤ 140737488351232) : S_uvar_Get l = some (((getB l).1 : Int), (((getB l).2.1 : Int), ((getB l).2.2, ()))) := by
  refine u_uvar_Get (N := l.length + 1) ?_
  unfold M_uvar_Get
  simp
  refine iter_join (fun d => l.length - d.2.2.2.1.toNat) (fun d => ∃ k n : Nat, d = ((n : Int), (3, (0, ((k : Int), ())))) ∧ k ≤ l.length ∧ k ≤ 9 ∧ n < 2 ^ (7 * k) ∧ getB l = getG k n (l.drop k)) ?_ _ _ ⟨0, 0, rfl, Nat.zero_le _, by decide, by decide, rfl⟩ (by simp)
  rintro _ again ⟨k, n, rfl, h1, h2, h3, h4⟩ ih
  by_cases hlt : k < l.length
  · have hs := getB_step hlt h4
    have hc := l[k].toNat_lt
    have hg : l[k]? = some l[k] := List.getElem?_eq_getElem hlt
    have hp := pow7 k
    have hp9 : 2 ^ (7 * k) ≤ 9223372036854775808 := Nat.le_trans (Nat.pow_le_pow_right (by decide) (show 7 * k ≤ 63 by omega)) (by decide)
    have hp8 : k ≠ 9 → 2 ^ (7 * k) ≤ 72057594037927936 := fun h => Nat.le_trans (Nat.pow_le_pow_right (by decide) (show 7 * k ≤ 56 by omega)) (by decide)
    obtain ⟨c, hu, hcn⟩ : ∃ c : Nat, u8I l[k] = c ∧ l[k].toNat = c := ⟨_, rfl, rfl⟩
    rw [hcn] at hs hc
    by_cases hA : k = 9 ∧ 1 < c
    · obtain ⟨rfl, hA⟩ := hA
      simp [hg, hu, hs.1 rfl hA, show (1 : Int) < c by omega, show (9 : Int) < l.length by omega]
    · have hA' : k = 9 → c ≤ 1 := by omega
      have hA2 : ¬((k : Int) = 9 ∧ (1 : Int) < c) := by omega
      simp [hg, hu, hlt, hA2]
      have s7 : ∀ a : Int, shlI .u64 a (7 * (k : Int)) = a * 2 ^ (7 * k) := fun a => by
        have e : min (7 * (k : Int)).toNat 64 = 7 * k := by omega
        simp only [shlI, IntKind.bits, e]
      by_cases hB : 128 ≤ c
      · have hk9 : k ≠ 9 := by omega
        have h8 := hp8 hk9
        have hle : (c - 128) * 2 ^ (7 * k) ≤ 127 * 2 ^ (7 * k) := Nat.mul_le_mul_right _ (by omega)
        have hO : bitI .or .u64 (n : Int) (wrp .u64 (wrp .u64 (bitI .andNot .u8 (c : Int) 128) * 2 ^ (7 * k))) = ((n + (c - 128) * 2 ^ (7 * k) : Nat) : Int) := by
          rw [show wrp .u64 (bitI .andNot .u8 (c : Int) 128) = ((c - 128 : Nat) : Int) from andNot128 hB hc]
          exact getOr h3 (by omega)
        rw [if_pos (show (128 : Int) ≤ c by omega)]
        simp (disch := omega) only [wi64, s7, hO]
        rw [if_pos (by omega)]
        exact ih _ ⟨k + 1, n + (c - 128) * 2 ^ (7 * k), rfl, by omega, by omega, by rw [hp]; omega, hs.2.1 hA' hB⟩ (by simp; omega)
      · rw [if_neg (show ¬(128 : Int) ≤ c by omega)]
        by_cases hC : c = 0 ∧ 0 < k
        · rw [if_pos hC, hs.2.2.1 hA' (by omega) hC.1 hC.2]; rfl
        · rw [if_neg hC, hs.2.2.2 hA' (by omega) (by omega)]
          have hle : n + c * 2 ^ (7 * k) < 18446744073709551616 := by
            by_cases h9 : k = 9
            · have : c * 2 ^ (7 * k) ≤ 1 * 2 ^ (7 * k) := Nat.mul_le_mul_right _ (hA' h9)
              omega
            · have := hp8 h9
              have : c * 2 ^ (7 * k) ≤ 127 * 2 ^ (7 * k) := Nat.mul_le_mul_right _ (by omega)
              omega
          have hO : bitI .or .u64 (n : Int) (wrp .u64 ((c : Int) * 2 ^ (7 * k))) = ((n + c * 2 ^ (7 * k) : Nat) : Int) := getOr h3 hle
          simp (disch := omega) only [wi64, wu64, s7, hO]
          rw [if_pos (by omega)]
          simp
  · have e : k = l.length := by omega
    subst e
    rw [h4]
    simp [getG]
end Go.Proofs.YtkdnbnkbnegckaaGreat
