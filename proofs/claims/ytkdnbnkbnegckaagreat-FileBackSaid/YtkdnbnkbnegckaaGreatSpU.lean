/- Functions, lifted: what the program comes to by them. Functions, lifted: what the program comes to by them. All lifted functions. The number that bytes begin with: what the lifted functions come to. -/
import Derived.Test.YtkdnbnkbnegckaaGreatLwA
import Derived.Test.YtkdnbnkbnegckaaGreatLw5
import Derived.Test.YtkdnbnkbnegckaaGreatLw6
import Derived.Test.YtkdnbnkbnegckaaGreatLw7
import Derived.Test.YtkdnbnkbnegckaaGreatLw8
import Derived.Test.YtkdnbnkbnegckaaGreatLw9
import Derived.Test.YtkdnbnkbnegckaaGreatLw10
import Derived.Test.YtkdnbnkbnegckaaGreatLw11
import Derived.Test.YtkdnbnkbnegckaaGreatEvQ
namespace Go.Proofs.YtkdnbnkbnegckaaGreat
open Go.RowKit
set_option maxRecDepth 100000
set_option linter.unusedVariables false
noncomputable def M_fnc_tables_1 (N : Nat) (l_0 : LB) (b_1 : Bool) (l_2 : LI) (l_3 : LI) (l_4 : LI) (l_5 : LI) (l_6 : LC) (l_7 : LI) (l_8 : LN) (l_9 : LI) (l_10 : LS) (n_11 : Int) : Option (LB × (Bool × (LI × (LI × (LI × (LI × (LC × (LI × (LN × (LI × (LS × (Bool × Unit)))))))))))) :=
 cnd (ltI n_11 0)
  (dI l_2 <| fun l1 =>
  dI l_3 <| fun l2 =>
  dI l_4 <| fun l3 =>
  dI l_5 <| fun l4 =>
  dC l_6 <| fun l5 =>
  dI l_7 <| fun l6 =>
  dN l_8 <| fun l7 =>
  dI l_9 <| fun l8 =>
  dS l_10 <| fun l9 =>
  some (l_0, (b_1, (l1, (l2, (l3, (l4, (l5, (l6, (l7, (l8, (l9, (true, ())))))))))))))
  (dI l_2 <| fun l10 =>
  dI l_3 <| fun l11 =>
  dI l_4 <| fun l12 =>
  dI l_5 <| fun l13 =>
  dC l_6 <| fun l14 =>
  dI l_7 <| fun l15 =>
  dN l_8 <| fun l16 =>
  dI l_9 <| fun l17 =>
  dS l_10 <| fun l18 =>
  some (l_0, (b_1, (l10, (l11, (l12, (l13, (l14, (l15, (l16, (l17, (l18, ((leI (vlen (eN l_8)) n_11), ())))))))))))))
noncomputable def q_fnc_tables_1 : Lift := ⟨tyX, look2 .todo (α := LoopAs) (.o), [], bsX⟩
theorem u_fnc_tables_1 {N : Nat} {a0 : LB} {a1 : Bool} {a2 : LI} {a3 : LI} {a4 : LI} {a5 : LI} {a6 : LC} {a7 : LI} {a8 : LN} {a9 : LI} {a10 : LS} {a11 : Int} {q : (LB × (Bool × (LI × (LI × (LI × (LI × (LC × (LI × (LN × (LI × (LS × (Bool × Unit))))))))))))} (h : M_fnc_tables_1 N a0 a1 a2 a3 a4 a5 a6 a7 a8 a9 a10 a11 = some q) : S_fnc_tables_1 a0 a1 a2 a3 a4 a5 a6 a7 a8 a9 a10 a11 = some q :=
 Sof_of (Q := q_fnc_tables_1) (N := N) (n := 3) (f := 153) (tin := i_fnc_tables_1) (tout := o_fnc_tables_1) (d := (a0, (a1, (a2, (a3, (a4, (a5, (a6, (a7, (a8, (a9, (a10, (a11, ()))))))))))))) all0 bs_ok (by kernel_rfl) (by kernel_rfl) (by kernel_rfl) (Eq.trans (b := M_fnc_tables_1 N a0 a1 a2 a3 a4 a5 a6 a7 a8 a9 a10 a11) (by kernel_rfl) h)

noncomputable def M_maps_Right (N : Nat) (l_0 : LS) (n_1 : Int) : Option (Bool × Unit) :=
 qS (eS l_0) <|
 qI n_1 <|
 qS (eS l_0) <|
 qI (vlen (eS l_0)) <|
 iter (fun (d1 : (Int × Unit)) again2 =>
  cnd (ltI d1.1 (vlen (eS l_0)))
   (chk (leI 0 d1.1) <|
   getE tS (eS l_0) (natI d1.1) <| fun p3 =>
   bnd (S_slots_Below p3.1 p3.2.1 p3.2.2.1 p3.2.2.2 n_1) <| fun p4 =>
   cnd (notB p4.1)
    (some (false, ()))
    (qS (eS l_0) <|
    qI n_1 <|
    qS (eS l_0) <|
    qI (vlen (eS l_0)) <|
    again2 ((wrp .i64 (addI d1.1 1)), ())))
   (some ((leI (vlen (eS l_0)) 2000), ()))) N (0, ())
noncomputable def q_maps_Right : Lift := ⟨tyX, look2 .todo (α := LoopAs) (.n 154 [(2, (.as ⟨[], [], (.one, [.fix]) :: (.one, [.fix]) :: rp 5 (.one, [.junk]) ((.one, [.fix]) :: (.one, [.fix]) :: (.one, [.hole tI]) :: rp 11 (.one, [.junk]) ([]))⟩))] .o .o), [c_slots_Below], bsX⟩
theorem u_maps_Right {N : Nat} {a0 : LS} {a1 : Int} {q : (Bool × Unit)} (h : M_maps_Right N a0 a1 = some q) : S_maps_Right a0 a1 = some q :=
 Sof_of (Q := q_maps_Right) (N := N) (n := 3) (f := 154) (tin := i_maps_Right) (tout := o_maps_Right) (d := (a0, (a1, ()))) (all1 k_slots_Below all0) bs_ok (by kernel_rfl) (by kernel_rfl) (by kernel_rfl) (Eq.trans (b := M_maps_Right N a0 a1) (by kernel_rfl) h)

noncomputable def M_fnc_tables (N : Nat) (l_0 : LB) (b_1 : Bool) (l_2 : LI) (l_3 : LI) (l_4 : LI) (l_5 : LI) (l_6 : LC) (l_7 : LI) (l_8 : LN) (l_9 : LI) (l_10 : LS) : Option (Bool × Unit) :=
 dI l_2 <| fun l1 =>
 dI l_3 <| fun l2 =>
 dI l_4 <| fun l3 =>
 dI l_5 <| fun l4 =>
 dC l_6 <| fun l5 =>
 dI l_7 <| fun l6 =>
 dN l_8 <| fun l7 =>
 dI l_9 <| fun l8 =>
 dS l_10 <| fun l9 =>
 bnd (S_fnc_Bare l_0 b_1 l1 l2 l3 l4 l5 l6 l7 l8 l9) <| fun p10 =>
 cnd p10.1
  (some (true, ()))
  (dN l_8 <| fun l11 =>
  bnd (S_tree_Right l11) <| fun p12 =>
  cnd p12.1
   (cnd (eqI (vlen (eI l_9)) (vlen (eC l_6)))
    (cnd (eqI (vlen (eS l_10)) (vlen (eC l_6)))
     (dI l_2 <| fun l13 =>
     dI l_3 <| fun l14 =>
     dI l_4 <| fun l15 =>
     dI l_5 <| fun l16 =>
     dC l_6 <| fun l17 =>
     dI l_7 <| fun l18 =>
     dN l_8 <| fun l19 =>
     dI l_9 <| fun l20 =>
     dS l_10 <| fun l21 =>
     dI l_9 <| fun l22 =>
     bnd (S_slices_ContainsFunc_int_int_t l_0 b_1 l13 l14 l15 l16 l17 l18 l19 l20 l21 l22) <| fun p23 =>
     cnd (notB p23.2.2.2.2.2.2.2.2.2.2.2.1)
      (dI p23.2.2.1 <| fun l24 =>
      dI p23.2.2.2.1 <| fun l25 =>
      dI p23.2.2.2.2.1 <| fun l26 =>
      dI p23.2.2.2.2.2.1 <| fun l27 =>
      dC p23.2.2.2.2.2.2.1 <| fun l28 =>
      dI p23.2.2.2.2.2.2.2.1 <| fun l29 =>
      dN p23.2.2.2.2.2.2.2.2.1 <| fun l30 =>
      dI p23.2.2.2.2.2.2.2.2.2.1 <| fun l31 =>
      dS p23.2.2.2.2.2.2.2.2.2.2.1 <| fun l32 =>
      bnd (S_fnc_many p23.1 p23.2.1 l24 l25 l26 l27 l28 l29 l30 l31 l32) <| fun p33 =>
      dS p23.2.2.2.2.2.2.2.2.2.2.1 <| fun l34 =>
      bnd (S_maps_Right l34 p33.1) <| fun p35 =>
      some (p35.1, ()))
      (some (false, ())))
     (some (false, ())))
    (some (false, ())))
   (some (false, ())))
noncomputable def q_fnc_tables : Lift := ⟨tyX, look2 .todo (α := LoopAs) (.n 169 [(2, (.as ⟨[], [], (.one, [.fix]) :: (.one, [.stat (.clo false 151 [])]) :: rp 5 (.one, [.junk]) ((.one, [.fix]) :: (.one, [.hole tI]) :: rp 10 (.one, [.junk]) ([]))⟩))] .o .o), [c_fnc_many, c_tree_Right, c_slices_ContainsFunc_int_int_t, c_fnc_Bare, c_maps_Right], bsX⟩
theorem u_fnc_tables {N : Nat} {a0 : LB} {a1 : Bool} {a2 : LI} {a3 : LI} {a4 : LI} {a5 : LI} {a6 : LC} {a7 : LI} {a8 : LN} {a9 : LI} {a10 : LS} {q : (Bool × Unit)} (h : M_fnc_tables N a0 a1 a2 a3 a4 a5 a6 a7 a8 a9 a10 = some q) : S_fnc_tables a0 a1 a2 a3 a4 a5 a6 a7 a8 a9 a10 = some q :=
 Sof_of (Q := q_fnc_tables) (N := N) (n := 3) (f := 107) (tin := i_fnc_tables) (tout := o_fnc_tables) (d := (a0, (a1, (a2, (a3, (a4, (a5, (a6, (a7, (a8, (a9, (a10, ())))))))))))) (all1 k_fnc_many (all1 k_tree_Right (all1 k_slices_ContainsFunc_int_int_t (all1 k_fnc_Bare (all1 k_maps_Right all0))))) bs_ok (by kernel_rfl) (by kernel_rfl) (by kernel_rfl) (Eq.trans (b := M_fnc_tables N a0 a1 a2 a3 a4 a5 a6 a7 a8 a9 a10) (by kernel_rfl) h)

noncomputable def M_fnc_Can (N : Nat) (l_0 : LB) (b_1 : Bool) (l_2 : LI) (l_3 : LI) (l_4 : LI) (l_5 : LI) (l_6 : LC) (l_7 : LI) (l_8 : LN) (l_9 : LI) (l_10 : LS) : Option (Int × Unit) :=
 bnd (S_names_May l_0) <| fun p1 =>
 cnd (notB p1.1)
  (some (7, ()))
  (dI l_2 <| fun l2 =>
  dI l_3 <| fun l3 =>
  dI l_4 <| fun l4 =>
  dI l_5 <| fun l5 =>
  dC l_6 <| fun l6 =>
  dI l_7 <| fun l7 =>
  dN l_8 <| fun l8 =>
  dI l_9 <| fun l9 =>
  dS l_10 <| fun l10 =>
  bnd (S_fnc_types l_0 b_1 l2 l3 l4 l5 l6 l7 l8 l9 l10) <| fun p11 =>
  cnd (notB p11.1)
   (some (9, ()))
   (joinK (δ := (Bool × Unit)) (dI l_2 <| fun l12 =>
    dI l_3 <| fun l13 =>
    dI l_4 <| fun l14 =>
    dI l_5 <| fun l15 =>
    dC l_6 <| fun l16 =>
    dI l_7 <| fun l17 =>
    dN l_8 <| fun l18 =>
    dI l_9 <| fun l19 =>
    dS l_10 <| fun l20 =>
    bnd (S_fnc_many l_0 b_1 l12 l13 l14 l15 l16 l17 l18 l19 l20) <| fun p21 =>
    cnd (ltI 256 p21.1)
     (qB (ByteArray.mk (Array.mk l_0)) <|
     qO b_1 <|
     qS (eI l_2) <|
     qS (eI l_3) <|
     qS (eI l_4) <|
     qS (eI l_5) <|
     qS (eC l_6) <|
     qS (eI l_7) <|
     qS (eN l_8) <|
     qS (eI l_9) <|
     qS (eS l_10) <|
     qI (vlen (eC l_6)) <|
     leftK (true, ()))
     (cnd (ltI (vlen (eC l_6)) 1)
      (qB (ByteArray.mk (Array.mk l_0)) <|
      qO b_1 <|
      qS (eI l_2) <|
      qS (eI l_3) <|
      qS (eI l_4) <|
      qS (eI l_5) <|
      qS (eC l_6) <|
      qS (eI l_7) <|
      qS (eN l_8) <|
      qS (eI l_9) <|
      qS (eS l_10) <|
      qI (vlen (eC l_6)) <|
      leftK (true, ()))
      (qB (ByteArray.mk (Array.mk l_0)) <|
      qO b_1 <|
      qS (eI l_2) <|
      qS (eI l_3) <|
      qS (eI l_4) <|
      qS (eI l_5) <|
      qS (eC l_6) <|
      qS (eI l_7) <|
      qS (eN l_8) <|
      qS (eI l_9) <|
      qS (eS l_10) <|
      qI (vlen (eC l_6)) <|
      leftK ((ltI 2000 (vlen (eC l_6))), ()))))
   <| fun p22 =>
   cnd p22.1
    (some (6, ()))
    (qS (eC l_6) <|
    qI (vlen (eC l_6)) <|
    iter (fun (d23 : (Int × Unit)) again24 =>
     cnd (ltI d23.1 (vlen (eC l_6)))
      (chk (leI 0 d23.1) <|
      getE tC (eC l_6) (natI d23.1) <| fun p25 =>
      bnd (S_fnc_Can_1 p25.1 p25.2) <| fun p26 =>
      cnd p26.1
       (cnd (leI 0 d23.1)
        (some (8, ()))
        (joinK (δ := (Bool × Unit)) (cnd (notB (eqI (vlen (eI l_7)) (vlen (eC l_6))))
          (qB (ByteArray.mk (Array.mk l_0)) <|
          qO b_1 <|
          qS (eI l_2) <|
          qS (eI l_3) <|
          qS (eI l_4) <|
          qS (eI l_5) <|
          qS (eC l_6) <|
          qS (eI l_7) <|
          qS (eN l_8) <|
          qS (eI l_9) <|
          qS (eS l_10) <|
          leftK (true, ()))
          (dI l_7 <| fun l27 =>
          bnd (S_lines_Right l27) <| fun p28 =>
          qB (ByteArray.mk (Array.mk l_0)) <|
          qO b_1 <|
          qS (eI l_2) <|
          qS (eI l_3) <|
          qS (eI l_4) <|
          qS (eI l_5) <|
          qS (eC l_6) <|
          qS (eI l_7) <|
          qS (eN l_8) <|
          qS (eI l_9) <|
          qS (eS l_10) <|
          leftK ((notB p28.1), ())))
        <| fun p29 =>
        cnd p29.1
         (some (19, ()))
         (dI l_2 <| fun l30 =>
         dI l_3 <| fun l31 =>
         dI l_4 <| fun l32 =>
         dI l_5 <| fun l33 =>
         dC l_6 <| fun l34 =>
         dI l_7 <| fun l35 =>
         dN l_8 <| fun l36 =>
         dI l_9 <| fun l37 =>
         dS l_10 <| fun l38 =>
         bnd (S_fnc_tables l_0 b_1 l30 l31 l32 l33 l34 l35 l36 l37 l38) <| fun p39 =>
         cnd (notB p39.1)
          (some (14, ()))
          (some (0, ())))))
       (qS (eC l_6) <|
       qI (vlen (eC l_6)) <|
       again24 ((wrp .i64 (addI d23.1 1)), ())))
      (joinK (δ := (Bool × Unit)) (cnd (notB (eqI (vlen (eI l_7)) (vlen (eC l_6))))
        (qB (ByteArray.mk (Array.mk l_0)) <|
        qO b_1 <|
        qS (eI l_2) <|
        qS (eI l_3) <|
        qS (eI l_4) <|
        qS (eI l_5) <|
        qS (eC l_6) <|
        qS (eI l_7) <|
        qS (eN l_8) <|
        qS (eI l_9) <|
        qS (eS l_10) <|
        leftK (true, ()))
        (dI l_7 <| fun l40 =>
        bnd (S_lines_Right l40) <| fun p41 =>
        qB (ByteArray.mk (Array.mk l_0)) <|
        qO b_1 <|
        qS (eI l_2) <|
        qS (eI l_3) <|
        qS (eI l_4) <|
        qS (eI l_5) <|
        qS (eC l_6) <|
        qS (eI l_7) <|
        qS (eN l_8) <|
        qS (eI l_9) <|
        qS (eS l_10) <|
        leftK ((notB p41.1), ())))
      <| fun p42 =>
      cnd p42.1
       (some (19, ()))
       (dI l_2 <| fun l43 =>
       dI l_3 <| fun l44 =>
       dI l_4 <| fun l45 =>
       dI l_5 <| fun l46 =>
       dC l_6 <| fun l47 =>
       dI l_7 <| fun l48 =>
       dN l_8 <| fun l49 =>
       dI l_9 <| fun l50 =>
       dS l_10 <| fun l51 =>
       bnd (S_fnc_tables l_0 b_1 l43 l44 l45 l46 l47 l48 l49 l50 l51) <| fun p52 =>
       cnd (notB p52.1)
        (some (14, ()))
        (some (0, ()))))) N (0, ()))))
noncomputable def q_fnc_Can : Lift := ⟨tyX, look2 .todo (α := LoopAs) (.n 150 [(2, (.as ⟨[], [], (.one, [.fix]) :: (.one, [.stat (.clo false 102 [])]) :: rp 5 (.one, [.junk]) ((.one, [.fix]) :: (.one, [.hole tI]) :: rp 10 (.one, [.junk]) ([]))⟩))] (.n 53 [(1032777, (.as ⟨[], [[.fix, .fix, .fix, .fix, .fix, .fix, .fix, .fix, .fix, .fix, .fix]], (.one, [.junk]) :: (.one, [.stat (.ptr 0 0)]) :: (.one, [.junk]) :: (.one, [.stat (.clo false 102 [])]) :: (.one, [.fix]) :: rp 12 (.one, [.junk]) ((.one, [.hole .bool]) :: rp 32 (.one, [.junk]) ([]))⟩)), (1049165, (.as ⟨[], [[.fix, .fix, .fix, .fix, .fix, .fix, .fix, .fix, .fix, .fix, .fix]], (.one, [.junk]) :: (.one, [.stat (.ptr 0 0)]) :: rp 32 (.one, [.junk]) ((.one, [.hole .bool]) :: rp 15 (.one, [.junk]) ([]))⟩))] .o .o) .o), [c_names_May, c_fnc_many, c_fnc_Can_1, c_fnc_types, c_lines_Right, c_fnc_tables], bsX⟩
theorem u_fnc_Can {N : Nat} {a0 : LB} {a1 : Bool} {a2 : LI} {a3 : LI} {a4 : LI} {a5 : LI} {a6 : LC} {a7 : LI} {a8 : LN} {a9 : LI} {a10 : LS} {q : (Int × Unit)} (h : M_fnc_Can N a0 a1 a2 a3 a4 a5 a6 a7 a8 a9 a10 = some q) : S_fnc_Can a0 a1 a2 a3 a4 a5 a6 a7 a8 a9 a10 = some q :=
 Sof_of (Q := q_fnc_Can) (N := N) (n := 3) (f := 53) (tin := i_fnc_Can) (tout := o_fnc_Can) (d := (a0, (a1, (a2, (a3, (a4, (a5, (a6, (a7, (a8, (a9, (a10, ())))))))))))) (all1 k_names_May (all1 k_fnc_many (all1 k_fnc_Can_1 (all1 k_fnc_types (all1 k_lines_Right (all1 k_fnc_tables all0)))))) bs_ok (by kernel_rfl) (by kernel_rfl) (by kernel_rfl) (Eq.trans (b := M_fnc_Can N a0 a1 a2 a3 a4 a5 a6 a7 a8 a9 a10) (by kernel_rfl) h)

noncomputable def M_slices_Equal_api_Type_api_Type (N : Nat) (l_0 : LI) (l_1 : LI) : Option (Bool × Unit) :=
 cnd (notB (eqI (vlen (eI l_0)) (vlen (eI l_1))))
  (some (false, ()))
  (qS (eI l_0) <|
  qS (eI l_1) <|
  qI (vlen (eI l_0)) <|
  iter (fun (d1 : (Int × Unit)) again2 =>
   cnd (ltI d1.1 (vlen (eI l_0)))
    (chk (leI 0 d1.1) <|
    getE tI (eI l_0) (natI d1.1) <| fun n3 =>
    chk (leI 0 d1.1) <|
    getE tI (eI l_1) (natI d1.1) <| fun n4 =>
    cnd (notB (eqI n3 n4))
     (some (false, ()))
     (qS (eI l_0) <|
     qS (eI l_1) <|
     qI (vlen (eI l_0)) <|
     again2 ((wrp .i64 (addI d1.1 1)), ())))
    (some (true, ()))) N (0, ()))
noncomputable def q_slices_Equal_api_Type_api_Type : Lift := ⟨tyX, look2 .todo (α := LoopAs) (.n 155 [(4, (.as ⟨[], [], (.one, [.fix]) :: (.one, [.fix]) :: rp 10 (.one, [.junk]) ((.one, [.fix]) :: (.one, [.hole tI]) :: rp 12 (.one, [.junk]) ([]))⟩))] .o .o), [], bsX⟩
theorem u_slices_Equal_api_Type_api_Type {N : Nat} {a0 : LI} {a1 : LI} {q : (Bool × Unit)} (h : M_slices_Equal_api_Type_api_Type N a0 a1 = some q) : S_slices_Equal_api_Type_api_Type a0 a1 = some q :=
 Sof_of (Q := q_slices_Equal_api_Type_api_Type) (N := N) (n := 3) (f := 155) (tin := i_slices_Equal_api_Type_api_Type) (tout := o_slices_Equal_api_Type_api_Type) (d := (a0, (a1, ()))) all0 bs_ok (by kernel_rfl) (by kernel_rfl) (by kernel_rfl) (Eq.trans (b := M_slices_Equal_api_Type_api_Type N a0 a1) (by kernel_rfl) h)

noncomputable def M_sig_Same (N : Nat) (l_0 : LI) (l_1 : LI) : Option (Bool × Unit) :=
 dI l_0 <| fun l1 =>
 dI l_1 <| fun l2 =>
 bnd (S_slices_Equal_api_Type_api_Type l1 l2) <| fun p3 =>
 some (p3.1, ())
noncomputable def q_sig_Same : Lift := ⟨tyX, look2 .todo (α := LoopAs) (.o), [c_slices_Equal_api_Type_api_Type], bsX⟩
theorem u_sig_Same {N : Nat} {a0 : LI} {a1 : LI} {q : (Bool × Unit)} (h : M_sig_Same N a0 a1 = some q) : S_sig_Same a0 a1 = some q :=
 Sof_of (Q := q_sig_Same) (N := N) (n := 3) (f := 108) (tin := i_sig_Same) (tout := o_sig_Same) (d := (a0, (a1, ()))) (all1 k_slices_Equal_api_Type_api_Type all0) bs_ok (by kernel_rfl) (by kernel_rfl) (by kernel_rfl) (Eq.trans (b := M_sig_Same N a0 a1) (by kernel_rfl) h)

noncomputable def M_slices_Equal_api_Instr_api_Instr (N : Nat) (l_0 : LC) (l_1 : LC) : Option (Bool × Unit) :=
 cnd (notB (eqI (vlen (eC l_0)) (vlen (eC l_1))))
  (some (false, ()))
  (qS (eC l_0) <|
  qS (eC l_1) <|
  qI (vlen (eC l_0)) <|
  iter (fun (d1 : (Int × Unit)) again2 =>
   cnd (ltI d1.1 (vlen (eC l_0)))
    (chk (leI 0 d1.1) <|
    getE tC (eC l_0) (natI d1.1) <| fun p3 =>
    chk (leI 0 d1.1) <|
    getE tC (eC l_1) (natI d1.1) <| fun p4 =>
    cnd (notB (eqL [p3.1, p3.2] [p4.1, p4.2]))
     (some (false, ()))
     (qS (eC l_0) <|
     qS (eC l_1) <|
     qI (vlen (eC l_0)) <|
     again2 ((wrp .i64 (addI d1.1 1)), ())))
    (some (true, ()))) N (0, ()))
noncomputable def q_slices_Equal_api_Instr_api_Instr : Lift := ⟨tyX, look2 .todo (α := LoopAs) (.n 109 [(4, (.as ⟨[], [], (.one, [.fix]) :: (.one, [.fix]) :: rp 10 (.one, [.junk]) ((.one, [.fix]) :: (.one, [.hole tI]) :: rp 12 (.one, [.junk]) ([]))⟩))] .o .o), [], bsX⟩
theorem u_slices_Equal_api_Instr_api_Instr {N : Nat} {a0 : LC} {a1 : LC} {q : (Bool × Unit)} (h : M_slices_Equal_api_Instr_api_Instr N a0 a1 = some q) : S_slices_Equal_api_Instr_api_Instr a0 a1 = some q :=
 Sof_of (Q := q_slices_Equal_api_Instr_api_Instr) (N := N) (n := 3) (f := 109) (tin := i_slices_Equal_api_Instr_api_Instr) (tout := o_slices_Equal_api_Instr_api_Instr) (d := (a0, (a1, ()))) all0 bs_ok (by kernel_rfl) (by kernel_rfl) (by kernel_rfl) (Eq.trans (b := M_slices_Equal_api_Instr_api_Instr N a0 a1) (by kernel_rfl) h)

noncomputable def M_slices_Equal_int_int (N : Nat) (l_0 : LI) (l_1 : LI) : Option (Bool × Unit) :=
 cnd (notB (eqI (vlen (eI l_0)) (vlen (eI l_1))))
  (some (false, ()))
  (qS (eI l_0) <|
  qS (eI l_1) <|
  qI (vlen (eI l_0)) <|
  iter (fun (d1 : (Int × Unit)) again2 =>
   cnd (ltI d1.1 (vlen (eI l_0)))
    (chk (leI 0 d1.1) <|
    getE tI (eI l_0) (natI d1.1) <| fun n3 =>
    chk (leI 0 d1.1) <|
    getE tI (eI l_1) (natI d1.1) <| fun n4 =>
    cnd (notB (eqI n3 n4))
     (some (false, ()))
     (qS (eI l_0) <|
     qS (eI l_1) <|
     qI (vlen (eI l_0)) <|
     again2 ((wrp .i64 (addI d1.1 1)), ())))
    (some (true, ()))) N (0, ()))
noncomputable def q_slices_Equal_int_int : Lift := ⟨tyX, look2 .todo (α := LoopAs) (.n 110 [(4, (.as ⟨[], [], (.one, [.fix]) :: (.one, [.fix]) :: rp 10 (.one, [.junk]) ((.one, [.fix]) :: (.one, [.hole tI]) :: rp 12 (.one, [.junk]) ([]))⟩))] .o .o), [], bsX⟩
theorem u_slices_Equal_int_int {N : Nat} {a0 : LI} {a1 : LI} {q : (Bool × Unit)} (h : M_slices_Equal_int_int N a0 a1 = some q) : S_slices_Equal_int_int a0 a1 = some q :=
 Sof_of (Q := q_slices_Equal_int_int) (N := N) (n := 3) (f := 110) (tin := i_slices_Equal_int_int) (tout := o_slices_Equal_int_int) (d := (a0, (a1, ()))) all0 bs_ok (by kernel_rfl) (by kernel_rfl) (by kernel_rfl) (Eq.trans (b := M_slices_Equal_int_int N a0 a1) (by kernel_rfl) h)

noncomputable def M_slices_Equal_api_Node_api_Node (N : Nat) (l_0 : LN) (l_1 : LN) : Option (Bool × Unit) :=
 cnd (notB (eqI (vlen (eN l_0)) (vlen (eN l_1))))
  (some (false, ()))
  (qS (eN l_0) <|
  qS (eN l_1) <|
  qI (vlen (eN l_0)) <|
  iter (fun (d1 : (Int × Unit)) again2 =>
   cnd (ltI d1.1 (vlen (eN l_0)))
    (chk (leI 0 d1.1) <|
    getE tN (eN l_0) (natI d1.1) <| fun p3 =>
    chk (leI 0 d1.1) <|
    getE tN (eN l_1) (natI d1.1) <| fun p4 =>
    cnd (notB (eqL [p3.1, p3.2.1, p3.2.2.1, p3.2.2.2.1, p3.2.2.2.2.1, p3.2.2.2.2.2.1, p3.2.2.2.2.2.2] [p4.1, p4.2.1, p4.2.2.1, p4.2.2.2.1, p4.2.2.2.2.1, p4.2.2.2.2.2.1, p4.2.2.2.2.2.2]))
     (some (false, ()))
     (qS (eN l_0) <|
     qS (eN l_1) <|
     qI (vlen (eN l_0)) <|
     again2 ((wrp .i64 (addI d1.1 1)), ())))
    (some (true, ()))) N (0, ()))
noncomputable def q_slices_Equal_api_Node_api_Node : Lift := ⟨tyX, look2 .todo (α := LoopAs) (.n 111 [(4, (.as ⟨[], [], (.one, [.fix]) :: (.one, [.fix]) :: rp 10 (.one, [.junk]) ((.one, [.fix]) :: (.one, [.hole tI]) :: rp 12 (.one, [.junk]) ([]))⟩))] .o .o), [], bsX⟩
theorem u_slices_Equal_api_Node_api_Node {N : Nat} {a0 : LN} {a1 : LN} {q : (Bool × Unit)} (h : M_slices_Equal_api_Node_api_Node N a0 a1 = some q) : S_slices_Equal_api_Node_api_Node a0 a1 = some q :=
 Sof_of (Q := q_slices_Equal_api_Node_api_Node) (N := N) (n := 3) (f := 111) (tin := i_slices_Equal_api_Node_api_Node) (tout := o_slices_Equal_api_Node_api_Node) (d := (a0, (a1, ()))) all0 bs_ok (by kernel_rfl) (by kernel_rfl) (by kernel_rfl) (Eq.trans (b := M_slices_Equal_api_Node_api_Node N a0 a1) (by kernel_rfl) h)

noncomputable def M_slices_Equal_api_Set_api_Set (N : Nat) (l_0 : LS) (l_1 : LS) : Option (Bool × Unit) :=
 cnd (notB (eqI (vlen (eS l_0)) (vlen (eS l_1))))
  (some (false, ()))
  (qS (eS l_0) <|
  qS (eS l_1) <|
  qI (vlen (eS l_0)) <|
  iter (fun (d1 : (Int × Unit)) again2 =>
   cnd (ltI d1.1 (vlen (eS l_0)))
    (chk (leI 0 d1.1) <|
    getE tS (eS l_0) (natI d1.1) <| fun p3 =>
    chk (leI 0 d1.1) <|
    getE tS (eS l_1) (natI d1.1) <| fun p4 =>
    cnd (notB (eqL [p3.1, p3.2.1, p3.2.2.1, p3.2.2.2] [p4.1, p4.2.1, p4.2.2.1, p4.2.2.2]))
     (some (false, ()))
     (qS (eS l_0) <|
     qS (eS l_1) <|
     qI (vlen (eS l_0)) <|
     again2 ((wrp .i64 (addI d1.1 1)), ())))
    (some (true, ()))) N (0, ()))
noncomputable def q_slices_Equal_api_Set_api_Set : Lift := ⟨tyX, look2 .todo (α := LoopAs) (.n 112 [(4, (.as ⟨[], [], (.one, [.fix]) :: (.one, [.fix]) :: rp 10 (.one, [.junk]) ((.one, [.fix]) :: (.one, [.hole tI]) :: rp 12 (.one, [.junk]) ([]))⟩))] .o .o), [], bsX⟩
theorem u_slices_Equal_api_Set_api_Set {N : Nat} {a0 : LS} {a1 : LS} {q : (Bool × Unit)} (h : M_slices_Equal_api_Set_api_Set N a0 a1 = some q) : S_slices_Equal_api_Set_api_Set a0 a1 = some q :=
 Sof_of (Q := q_slices_Equal_api_Set_api_Set) (N := N) (n := 3) (f := 112) (tin := i_slices_Equal_api_Set_api_Set) (tout := o_slices_Equal_api_Set_api_Set) (d := (a0, (a1, ()))) all0 bs_ok (by kernel_rfl) (by kernel_rfl) (by kernel_rfl) (Eq.trans (b := M_slices_Equal_api_Set_api_Set N a0 a1) (by kernel_rfl) h)
end Go.Proofs.YtkdnbnkbnegckaaGreat
namespace Go.Proofs.YtkdnbnkbnegckaaGreat
open Go.RowKit
set_option maxRecDepth 100000
set_option linter.unusedVariables false
noncomputable def M_fnc_Same (N : Nat) (l_0 : LB) (b_1 : Bool) (l_2 : LI) (l_3 : LI) (l_4 : LI) (l_5 : LI) (l_6 : LC) (l_7 : LI) (l_8 : LN) (l_9 : LI) (l_10 : LS) (l_11 : LB) (b_12 : Bool) (l_13 : LI) (l_14 : LI) (l_15 : LI) (l_16 : LI) (l_17 : LC) (l_18 : LI) (l_19 : LN) (l_20 : LI) (l_21 : LS) : Option (Bool × Unit) :=
 joinK (δ := (Bool × Unit)) (cnd (seq2 (ByteArray.mk (Array.mk l_0)) (ByteArray.mk (Array.mk l_11)))
   (cnd (eqB b_1 b_12)
    (dI l_2 <| fun l1 =>
    dI l_13 <| fun l2 =>
    bnd (S_sig_Same l1 l2) <| fun p3 =>
    qB (ByteArray.mk (Array.mk l_0)) <|
    qO b_1 <|
    qS (eI l_2) <|
    qS (eI l_3) <|
    qS (eI l_4) <|
    qS (eI l_5) <|
    qS (eC l_6) <|
    qS (eI l_7) <|
    qS (eN l_8) <|
    qS (eI l_9) <|
    qS (eS l_10) <|
    qB (ByteArray.mk (Array.mk l_11)) <|
    qO b_12 <|
    qS (eI l_13) <|
    qS (eI l_14) <|
    qS (eI l_15) <|
    qS (eI l_16) <|
    qS (eC l_17) <|
    qS (eI l_18) <|
    qS (eN l_19) <|
    qS (eI l_20) <|
    qS (eS l_21) <|
    leftK (p3.1, ()))
    (qB (ByteArray.mk (Array.mk l_0)) <|
    qO b_1 <|
    qS (eI l_2) <|
    qS (eI l_3) <|
    qS (eI l_4) <|
    qS (eI l_5) <|
    qS (eC l_6) <|
    qS (eI l_7) <|
    qS (eN l_8) <|
    qS (eI l_9) <|
    qS (eS l_10) <|
    qB (ByteArray.mk (Array.mk l_11)) <|
    qO b_12 <|
    qS (eI l_13) <|
    qS (eI l_14) <|
    qS (eI l_15) <|
    qS (eI l_16) <|
    qS (eC l_17) <|
    qS (eI l_18) <|
    qS (eN l_19) <|
    qS (eI l_20) <|
    qS (eS l_21) <|
    leftK (false, ())))
   (qB (ByteArray.mk (Array.mk l_0)) <|
   qO b_1 <|
   qS (eI l_2) <|
   qS (eI l_3) <|
   qS (eI l_4) <|
   qS (eI l_5) <|
   qS (eC l_6) <|
   qS (eI l_7) <|
   qS (eN l_8) <|
   qS (eI l_9) <|
   qS (eS l_10) <|
   qB (ByteArray.mk (Array.mk l_11)) <|
   qO b_12 <|
   qS (eI l_13) <|
   qS (eI l_14) <|
   qS (eI l_15) <|
   qS (eI l_16) <|
   qS (eC l_17) <|
   qS (eI l_18) <|
   qS (eN l_19) <|
   qS (eI l_20) <|
   qS (eS l_21) <|
   leftK (false, ())))
 <| fun p4 =>
 joinK (δ := (Bool × Unit)) (dI l_3 <| fun l5 =>
  dI l_14 <| fun l6 =>
  bnd (S_sig_Same l5 l6) <| fun p7 =>
  cnd p7.1
   (dI l_4 <| fun l8 =>
   dI l_15 <| fun l9 =>
   bnd (S_sig_Same l8 l9) <| fun p10 =>
   cnd p10.1
    (dI l_5 <| fun l11 =>
    dI l_16 <| fun l12 =>
    bnd (S_sig_Same l11 l12) <| fun p13 =>
    qB (ByteArray.mk (Array.mk l_0)) <|
    qO b_1 <|
    qS (eI l_2) <|
    qS (eI l_3) <|
    qS (eI l_4) <|
    qS (eI l_5) <|
    qS (eC l_6) <|
    qS (eI l_7) <|
    qS (eN l_8) <|
    qS (eI l_9) <|
    qS (eS l_10) <|
    qB (ByteArray.mk (Array.mk l_11)) <|
    qO b_12 <|
    qS (eI l_13) <|
    qS (eI l_14) <|
    qS (eI l_15) <|
    qS (eI l_16) <|
    qS (eC l_17) <|
    qS (eI l_18) <|
    qS (eN l_19) <|
    qS (eI l_20) <|
    qS (eS l_21) <|
    qO p4.1 <|
    leftK (p13.1, ()))
    (qB (ByteArray.mk (Array.mk l_0)) <|
    qO b_1 <|
    qS (eI l_2) <|
    qS (eI l_3) <|
    qS (eI l_4) <|
    qS (eI l_5) <|
    qS (eC l_6) <|
    qS (eI l_7) <|
    qS (eN l_8) <|
    qS (eI l_9) <|
    qS (eS l_10) <|
    qB (ByteArray.mk (Array.mk l_11)) <|
    qO b_12 <|
    qS (eI l_13) <|
    qS (eI l_14) <|
    qS (eI l_15) <|
    qS (eI l_16) <|
    qS (eC l_17) <|
    qS (eI l_18) <|
    qS (eN l_19) <|
    qS (eI l_20) <|
    qS (eS l_21) <|
    qO p4.1 <|
    leftK (false, ())))
   (qB (ByteArray.mk (Array.mk l_0)) <|
   qO b_1 <|
   qS (eI l_2) <|
   qS (eI l_3) <|
   qS (eI l_4) <|
   qS (eI l_5) <|
   qS (eC l_6) <|
   qS (eI l_7) <|
   qS (eN l_8) <|
   qS (eI l_9) <|
   qS (eS l_10) <|
   qB (ByteArray.mk (Array.mk l_11)) <|
   qO b_12 <|
   qS (eI l_13) <|
   qS (eI l_14) <|
   qS (eI l_15) <|
   qS (eI l_16) <|
   qS (eC l_17) <|
   qS (eI l_18) <|
   qS (eN l_19) <|
   qS (eI l_20) <|
   qS (eS l_21) <|
   qO p4.1 <|
   leftK (false, ())))
 <| fun p14 =>
 joinK (δ := (Bool × Unit)) (dC l_6 <| fun l15 =>
  dC l_17 <| fun l16 =>
  bnd (S_slices_Equal_api_Instr_api_Instr l15 l16) <| fun p17 =>
  cnd p17.1
   (dI l_7 <| fun l18 =>
   dI l_18 <| fun l19 =>
   bnd (S_slices_Equal_int_int l18 l19) <| fun p20 =>
   qB (ByteArray.mk (Array.mk l_0)) <|
   qO b_1 <|
   qS (eI l_2) <|
   qS (eI l_3) <|
   qS (eI l_4) <|
   qS (eI l_5) <|
   qS (eC l_6) <|
   qS (eI l_7) <|
   qS (eN l_8) <|
   qS (eI l_9) <|
   qS (eS l_10) <|
   qB (ByteArray.mk (Array.mk l_11)) <|
   qO b_12 <|
   qS (eI l_13) <|
   qS (eI l_14) <|
   qS (eI l_15) <|
   qS (eI l_16) <|
   qS (eC l_17) <|
   qS (eI l_18) <|
   qS (eN l_19) <|
   qS (eI l_20) <|
   qS (eS l_21) <|
   qO p4.1 <|
   qO p14.1 <|
   leftK (p20.1, ()))
   (qB (ByteArray.mk (Array.mk l_0)) <|
   qO b_1 <|
   qS (eI l_2) <|
   qS (eI l_3) <|
   qS (eI l_4) <|
   qS (eI l_5) <|
   qS (eC l_6) <|
   qS (eI l_7) <|
   qS (eN l_8) <|
   qS (eI l_9) <|
   qS (eS l_10) <|
   qB (ByteArray.mk (Array.mk l_11)) <|
   qO b_12 <|
   qS (eI l_13) <|
   qS (eI l_14) <|
   qS (eI l_15) <|
   qS (eI l_16) <|
   qS (eC l_17) <|
   qS (eI l_18) <|
   qS (eN l_19) <|
   qS (eI l_20) <|
   qS (eS l_21) <|
   qO p4.1 <|
   qO p14.1 <|
   leftK (false, ())))
 <| fun p21 =>
 cnd p4.1
  (cnd p14.1
   (cnd p21.1
    (dN l_8 <| fun l22 =>
    dN l_19 <| fun l23 =>
    bnd (S_slices_Equal_api_Node_api_Node l22 l23) <| fun p24 =>
    cnd p24.1
     (dI l_9 <| fun l25 =>
     dI l_20 <| fun l26 =>
     bnd (S_slices_Equal_int_int l25 l26) <| fun p27 =>
     cnd p27.1
      (dS l_10 <| fun l28 =>
      dS l_21 <| fun l29 =>
      bnd (S_slices_Equal_api_Set_api_Set l28 l29) <| fun p30 =>
      some (p30.1, ()))
      (some (false, ())))
     (some (false, ())))
    (some (false, ())))
   (some (false, ())))
  (some (false, ()))
noncomputable def q_fnc_Same : Lift := ⟨tyX, look2 .todo (α := LoopAs) (.n 55 [(1008195, (.as ⟨[], [[.fix, .fix, .fix, .fix, .fix, .fix, .fix, .fix, .fix, .fix, .fix], [.fix, .fix, .fix, .fix, .fix, .fix, .fix, .fix, .fix, .fix, .fix]], (.one, [.junk]) :: (.one, [.junk]) :: (.one, [.stat (.ptr 0 0)]) :: (.one, [.stat (.ptr 1 0)]) :: (.one, [.junk]) :: (.one, [.hole .bool]) :: rp 80 (.one, [.junk]) ([])⟩)), (1012292, (.as ⟨[], [[.fix, .fix, .fix, .fix, .fix, .fix, .fix, .fix, .fix, .fix, .fix], [.fix, .fix, .fix, .fix, .fix, .fix, .fix, .fix, .fix, .fix, .fix]], (.one, [.junk]) :: (.one, [.junk]) :: (.one, [.stat (.ptr 0 0)]) :: (.one, [.stat (.ptr 1 0)]) :: (.one, [.junk]) :: (.one, [.fix]) :: (.one, [.hole .bool]) :: rp 79 (.one, [.junk]) ([])⟩)), (1016389, (.as ⟨[], [[.fix, .fix, .fix, .fix, .fix, .fix, .fix, .fix, .fix, .fix, .fix], [.fix, .fix, .fix, .fix, .fix, .fix, .fix, .fix, .fix, .fix, .fix]], (.one, [.junk]) :: (.one, [.junk]) :: (.one, [.stat (.ptr 0 0)]) :: (.one, [.stat (.ptr 1 0)]) :: (.one, [.junk]) :: (.one, [.fix]) :: (.one, [.fix]) :: (.one, [.hole .bool]) :: rp 78 (.one, [.junk]) ([])⟩))] .o .o), [c_sig_Same, c_slices_Equal_api_Instr_api_Instr, c_slices_Equal_int_int, c_slices_Equal_api_Node_api_Node, c_slices_Equal_api_Set_api_Set], bsX⟩
theorem u_fnc_Same {N : Nat} {a0 : LB} {a1 : Bool} {a2 : LI} {a3 : LI} {a4 : LI} {a5 : LI} {a6 : LC} {a7 : LI} {a8 : LN} {a9 : LI} {a10 : LS} {a11 : LB} {a12 : Bool} {a13 : LI} {a14 : LI} {a15 : LI} {a16 : LI} {a17 : LC} {a18 : LI} {a19 : LN} {a20 : LI} {a21 : LS} {q : (Bool × Unit)} (h : M_fnc_Same N a0 a1 a2 a3 a4 a5 a6 a7 a8 a9 a10 a11 a12 a13 a14 a15 a16 a17 a18 a19 a20 a21 = some q) : S_fnc_Same a0 a1 a2 a3 a4 a5 a6 a7 a8 a9 a10 a11 a12 a13 a14 a15 a16 a17 a18 a19 a20 a21 = some q :=
 Sof_of (Q := q_fnc_Same) (N := N) (n := 3) (f := 55) (tin := i_fnc_Same) (tout := o_fnc_Same) (d := (a0, (a1, (a2, (a3, (a4, (a5, (a6, (a7, (a8, (a9, (a10, (a11, (a12, (a13, (a14, (a15, (a16, (a17, (a18, (a19, (a20, (a21, ()))))))))))))))))))))))) (all1 k_sig_Same (all1 k_slices_Equal_api_Instr_api_Instr (all1 k_slices_Equal_int_int (all1 k_slices_Equal_api_Node_api_Node (all1 k_slices_Equal_api_Set_api_Set all0))))) bs_ok (by kernel_rfl) (by kernel_rfl) (by kernel_rfl) (Eq.trans (b := M_fnc_Same N a0 a1 a2 a3 a4 a5 a6 a7 a8 a9 a10 a11 a12 a13 a14 a15 a16 a17 a18 a19 a20 a21) (by kernel_rfl) h)
end Go.Proofs.YtkdnbnkbnegckaaGreat

namespace Go.Proofs.YtkdnbnkbnegckaaGreat
open Go.RowKit

theorem pow7 (i : Nat) : 2 ^ (7 * (i + 1)) = 2 ^ (7 * i) * 128 := by rw [Nat.mul_add, Nat.pow_add]
theorem sp_uvar_Get {l : List UInt8} (hl : l.length ≤ 140737488351232) : S_uvar_Get l = some (((getB l).1 : Int), (((getB l).2.1 : Int), ((getB l).2.2, ()))) := by
  refine u_uvar_Get (N := l.length + 1) ?_
  unfold M_uvar_Get
  simp
  refine iter_join (fun d => l.length - d.2.2.2.1.toNat) (fun d => ∃ k n : Nat, d = ((n : Int), (3, (0, ((k : Int), ())))) ∧ k ≤ l.length ∧ k ≤ 9 ∧ n < 2 ^ (7 * k) ∧ getB l = getG k n (l.drop k)) ?_ _ _ ⟨0, 0, rfl, Nat.zero_le _, by decide, by decide, rfl⟩ (by simp)
  rintro _ again ⟨k, n, rfl, h1, h2, h3, h4⟩ ih
  by_cases hlt : k < l.length
  · have hs := getB_step hlt h4
    have hc := l[k].toNat_lt
    have hg : l[k]? = some l[k] := List.getElem?_eq_getElem hlt
    have hp := pow7 k
    have hp9 : 2 ^ (7 * k) ≤ 9223372036854775808 := Nat.le_trans (Nat.pow_le_pow_right (by decide) (show 7 * k ≤ 63 by omega)) (by decide)
    have hp8 : k ≠ 9 → 2 ^ (7 * k) ≤ 72057594037927936 := fun h => Nat.le_trans (Nat.pow_le_pow_right (by decide) (show 7 * k ≤ 56 by omega)) (by decide)
    obtain ⟨c, hu, hcn⟩ : ∃ c : Nat, u8I l[k] = c ∧ l[k].toNat = c := ⟨_, rfl, rfl⟩
    rw [hcn] at hs hc
    by_cases hA : k = 9 ∧ 1 < c
    · obtain ⟨rfl, hA⟩ := hA
      simp [hg, hu, hs.1 rfl hA, show (1 : Int) < c by omega, show (9 : Int) < l.length by omega]
    · have hA' : k = 9 → c ≤ 1 := by omega
      have hA2 : ¬((k : Int) = 9 ∧ (1 : Int) < c) := by omega
      simp [hg, hu, hlt, hA2]
      have s7 : ∀ a : Int, shlI .u64 a (7 * (k : Int)) = a * 2 ^ (7 * k) := fun a => by
        have e : min (7 * (k : Int)).toNat 64 = 7 * k := by omega
        simp only [shlI, IntKind.bits, e]
      by_cases hB : 128 ≤ c
      · have hk9 : k ≠ 9 := by omega
        have h8 := hp8 hk9
        have hle : (c - 128) * 2 ^ (7 * k) ≤ 127 * 2 ^ (7 * k) := Nat.mul_le_mul_right _ (by omega)
        have hO : bitI .or .u64 (n : Int) (wrp .u64 (wrp .u64 (bitI .andNot .u8 (c : Int) 128) * 2 ^ (7 * k))) = ((n + (c - 128) * 2 ^ (7 * k) : Nat) : Int) := by
          rw [show wrp .u64 (bitI .andNot .u8 (c : Int) 128) = ((c - 128 : Nat) : Int) from andNot128 hB hc]
          exact getOr h3 (by omega)
        rw [if_pos (show (128 : Int) ≤ c by omega)]
        simp (disch := omega) only [wi64, s7, hO]
        rw [if_pos (by omega)]
        exact ih _ ⟨k + 1, n + (c - 128) * 2 ^ (7 * k), rfl, by omega, by omega, by rw [hp]; omega, hs.2.1 hA' hB⟩ (by simp; omega)
      · rw [if_neg (show ¬(128 : Int) ≤ c by omega)]
        by_cases hC : c = 0 ∧ 0 < k
        · rw [if_pos hC, hs.2.2.1 hA' (by omega) hC.1 hC.2]; rfl
        · rw [if_neg hC, hs.2.2.2 hA' (by omega) (by omega)]
          have hle : n + c * 2 ^ (7 * k) < 18446744073709551616 := by
            by_cases h9 : k = 9
            · have : c * 2 ^ (7 * k) ≤ 1 * 2 ^ (7 * k) := Nat.mul_le_mul_right _ (hA' h9)
              omega
            · have := hp8 h9
              have : c * 2 ^ (7 * k) ≤ 127 * 2 ^ (7 * k) := Nat.mul_le_mul_right _ (by omega)
              omega
          have hO : bitI .or .u64 (n : Int) (wrp .u64 ((c : Int) * 2 ^ (7 * k))) = ((n + c * 2 ^ (7 * k) : Nat) : Int) := getOr h3 hle
          simp (disch := omega) only [wi64, wu64, s7, hO]
          rw [if_pos (by omega)]
          simp
  · have e : k = l.length := by omega
    subst e
    rw [h4]
    simp [getG]
end Go.Proofs.YtkdnbnkbnegckaaGreat
