/- Functions, lifted: what the program comes to by them. Functions, lifted: what the program comes to by them. -/
import Derived.Test.YtkdnbnkbnegckaaGreatDoorAbA
namespace Go.Proofs.YtkdnbnkbnegckaaGreatDoor
open Go.RowKit
set_option maxRecDepth 100000
set_option linter.unusedVariables false
noncomputable def M_fnc_many (N : Nat) (l_0 : LB) (b_1 : Bool) (l_2 : LI) (l_3 : LI) (l_4 : LI) (l_5 : LI) (l_6 : LC) (l_7 : LI) (l_8 : LN) (l_9 : LI) (l_10 : LS) : Option (Int × Unit) :=
 some ((wrp .i64 (addI (wrp .i64 (addI (vlen (eI l_3)) (vlen (eI l_4)))) (vlen (eI l_5)))), ())
noncomputable def q_fnc_many : Lift := ⟨tyX, look2 .todo (α := LoopAs) (.o), [], bsX⟩
theorem u_fnc_many {N : Nat} {a0 : LB} {a1 : Bool} {a2 : LI} {a3 : LI} {a4 : LI} {a5 : LI} {a6 : LC} {a7 : LI} {a8 : LN} {a9 : LI} {a10 : LS} {q : (Int × Unit)} (h : M_fnc_many N a0 a1 a2 a3 a4 a5 a6 a7 a8 a9 a10 = some q) : S_fnc_many a0 a1 a2 a3 a4 a5 a6 a7 a8 a9 a10 = some q :=
 Sof_of (Q := q_fnc_many) (N := N) (n := 3) (f := 92) (tin := i_fnc_many) (tout := o_fnc_many) (d := (a0, (a1, (a2, (a3, (a4, (a5, (a6, (a7, (a8, (a9, (a10, ())))))))))))) all0 bs_ok (by kernel_rfl) (by kernel_rfl) (by kernel_rfl) (Eq.trans (b := M_fnc_many N a0 a1 a2 a3 a4 a5 a6 a7 a8 a9 a10) (by kernel_rfl) h)

noncomputable def M_lines_Right_1 (N : Nat) (n_0 : Int) : Option (Bool × Unit) :=
 cnd (ltI n_0 0)
  (some (true, ()))
  (some ((ltI 65535 n_0), ()))
noncomputable def q_lines_Right_1 : Lift := ⟨tyX, look2 .todo (α := LoopAs) (.o), [], bsX⟩
theorem u_lines_Right_1 {N : Nat} {a0 : Int} {q : (Bool × Unit)} (h : M_lines_Right_1 N a0 = some q) : S_lines_Right_1 a0 = some q :=
 Sof_of (Q := q_lines_Right_1) (N := N) (n := 3) (f := 114) (tin := i_lines_Right_1) (tout := o_lines_Right_1) (d := (a0, ())) all0 bs_ok (by kernel_rfl) (by kernel_rfl) (by kernel_rfl) (Eq.trans (b := M_lines_Right_1 N a0) (by kernel_rfl) h)

noncomputable def M_lines_Right (N : Nat) (l_0 : LI) : Option (Bool × Unit) :=
 cnd (leI (vlen (eI l_0)) 2000)
  (qS (eI l_0) <|
  qI (vlen (eI l_0)) <|
  iter (fun (d1 : (Int × Unit)) again2 =>
   cnd (ltI d1.1 (vlen (eI l_0)))
    (chk (leI 0 d1.1) <|
    getE tI (eI l_0) (natI d1.1) <| fun n3 =>
    bnd (S_lines_Right_1 n3) <| fun p4 =>
    cnd p4.1
     (some ((notB (leI 0 d1.1)), ()))
     (qS (eI l_0) <|
     qI (vlen (eI l_0)) <|
     again2 ((wrp .i64 (addI d1.1 1)), ())))
    (some (true, ()))) N (0, ()))
  (some (false, ()))
noncomputable def q_lines_Right : Lift := ⟨tyX, look2 .todo (α := LoopAs) (.n 129 [(2, (.as ⟨[], [], (.one, [.fix]) :: (.one, [.stat (.clo false 114 [])]) :: rp 5 (.one, [.junk]) ((.one, [.fix]) :: (.one, [.hole tI]) :: rp 10 (.one, [.junk]) ([]))⟩))] .o .o), [c_lines_Right_1], bsX⟩
theorem u_lines_Right {N : Nat} {a0 : LI} {q : (Bool × Unit)} (h : M_lines_Right N a0 = some q) : S_lines_Right a0 = some q :=
 Sof_of (Q := q_lines_Right) (N := N) (n := 3) (f := 94) (tin := i_lines_Right) (tout := o_lines_Right) (d := (a0, ())) (all1 k_lines_Right_1 all0) bs_ok (by kernel_rfl) (by kernel_rfl) (by kernel_rfl) (Eq.trans (b := M_lines_Right N a0) (by kernel_rfl) h)

noncomputable def M_fnc_Bare (N : Nat) (l_0 : LB) (b_1 : Bool) (l_2 : LI) (l_3 : LI) (l_4 : LI) (l_5 : LI) (l_6 : LC) (l_7 : LI) (l_8 : LN) (l_9 : LI) (l_10 : LS) : Option (Bool × Unit) :=
 cnd (eqI (vlen (eN l_8)) 0)
  (cnd (eqI (vlen (eI l_9)) 0)
   (some ((eqI (vlen (eS l_10)) 0), ()))
   (some (false, ())))
  (some (false, ()))
noncomputable def q_fnc_Bare : Lift := ⟨tyX, look2 .todo (α := LoopAs) (.o), [], bsX⟩
theorem u_fnc_Bare {N : Nat} {a0 : LB} {a1 : Bool} {a2 : LI} {a3 : LI} {a4 : LI} {a5 : LI} {a6 : LC} {a7 : LI} {a8 : LN} {a9 : LI} {a10 : LS} {q : (Bool × Unit)} (h : M_fnc_Bare N a0 a1 a2 a3 a4 a5 a6 a7 a8 a9 a10 = some q) : S_fnc_Bare a0 a1 a2 a3 a4 a5 a6 a7 a8 a9 a10 = some q :=
 Sof_of (Q := q_fnc_Bare) (N := N) (n := 3) (f := 116) (tin := i_fnc_Bare) (tout := o_fnc_Bare) (d := (a0, (a1, (a2, (a3, (a4, (a5, (a6, (a7, (a8, (a9, (a10, ())))))))))))) all0 bs_ok (by kernel_rfl) (by kernel_rfl) (by kernel_rfl) (Eq.trans (b := M_fnc_Bare N a0 a1 a2 a3 a4 a5 a6 a7 a8 a9 a10) (by kernel_rfl) h)

noncomputable def M_fnc_tables_1 (N : Nat) (l_0 : LB) (b_1 : Bool) (l_2 : LI) (l_3 : LI) (l_4 : LI) (l_5 : LI) (l_6 : LC) (l_7 : LI) (l_8 : LN) (l_9 : LI) (l_10 : LS) (n_11 : Int) : Option (LB × (Bool × (LI × (LI × (LI × (LI × (LC × (LI × (LN × (LI × (LS × (Bool × Unit)))))))))))) :=
 cnd (ltI n_11 0)
  (dI l_2 <| fun l1 =>
  dI l_3 <| fun l2 =>
  dI l_4 <| fun l3 =>
  dI l_5 <| fun l4 =>
  dC l_6 <| fun l5 =>
  dI l_7 <| fun l6 =>
  dN l_8 <| fun l7 =>
  dI l_9 <| fun l8 =>
  dS l_10 <| fun l9 =>
  some (l_0, (b_1, (l1, (l2, (l3, (l4, (l5, (l6, (l7, (l8, (l9, (true, ())))))))))))))
  (dI l_2 <| fun l10 =>
  dI l_3 <| fun l11 =>
  dI l_4 <| fun l12 =>
  dI l_5 <| fun l13 =>
  dC l_6 <| fun l14 =>
  dI l_7 <| fun l15 =>
  dN l_8 <| fun l16 =>
  dI l_9 <| fun l17 =>
  dS l_10 <| fun l18 =>
  some (l_0, (b_1, (l10, (l11, (l12, (l13, (l14, (l15, (l16, (l17, (l18, ((leI (vlen (eN l_8)) n_11), ())))))))))))))
noncomputable def q_fnc_tables_1 : Lift := ⟨tyX, look2 .todo (α := LoopAs) (.o), [], bsX⟩
theorem u_fnc_tables_1 {N : Nat} {a0 : LB} {a1 : Bool} {a2 : LI} {a3 : LI} {a4 : LI} {a5 : LI} {a6 : LC} {a7 : LI} {a8 : LN} {a9 : LI} {a10 : LS} {a11 : Int} {q : (LB × (Bool × (LI × (LI × (LI × (LI × (LC × (LI × (LN × (LI × (LS × (Bool × Unit))))))))))))} (h : M_fnc_tables_1 N a0 a1 a2 a3 a4 a5 a6 a7 a8 a9 a10 a11 = some q) : S_fnc_tables_1 a0 a1 a2 a3 a4 a5 a6 a7 a8 a9 a10 a11 = some q :=
 Sof_of (Q := q_fnc_tables_1) (N := N) (n := 3) (f := 117) (tin := i_fnc_tables_1) (tout := o_fnc_tables_1) (d := (a0, (a1, (a2, (a3, (a4, (a5, (a6, (a7, (a8, (a9, (a10, (a11, ()))))))))))))) all0 bs_ok (by kernel_rfl) (by kernel_rfl) (by kernel_rfl) (Eq.trans (b := M_fnc_tables_1 N a0 a1 a2 a3 a4 a5 a6 a7 a8 a9 a10 a11) (by kernel_rfl) h)

noncomputable def M_tree_within (N : Nat) (n_0 : Int) (n_1 : Int) (n_2 : Int) : Option (Bool × Unit) :=
 cnd (leI n_1 n_0)
  (some ((leI n_0 n_2), ()))
  (some (false, ()))
noncomputable def q_tree_within : Lift := ⟨tyX, look2 .todo (α := LoopAs) (.o), [], bsX⟩
theorem u_tree_within {N : Nat} {a0 : Int} {a1 : Int} {a2 : Int} {q : (Bool × Unit)} (h : M_tree_within N a0 a1 a2 = some q) : S_tree_within a0 a1 a2 = some q :=
 Sof_of (Q := q_tree_within) (N := N) (n := 3) (f := 133) (tin := i_tree_within) (tout := o_tree_within) (d := (a0, (a1, (a2, ())))) all0 bs_ok (by kernel_rfl) (by kernel_rfl) (by kernel_rfl) (Eq.trans (b := M_tree_within N a0 a1 a2) (by kernel_rfl) h)

noncomputable def M_slots_Sub_1 (N : Nat) (n_0 : Int) (n_1 : Int) : Option (Int × Unit) :=
 some ((bitI .andNot .u64 n_0 n_1), ())
noncomputable def q_slots_Sub_1 : Lift := ⟨tyX, look2 .todo (α := LoopAs) (.o), [], bsX⟩
theorem u_slots_Sub_1 {N : Nat} {a0 : Int} {a1 : Int} {q : (Int × Unit)} (h : M_slots_Sub_1 N a0 a1 = some q) : S_slots_Sub_1 a0 a1 = some q :=
 Sof_of (Q := q_slots_Sub_1) (N := N) (n := 3) (f := 139) (tin := i_slots_Sub_1) (tout := o_slots_Sub_1) (d := (a0, (a1, ()))) all0 bs_ok (by kernel_rfl) (by kernel_rfl) (by kernel_rfl) (Eq.trans (b := M_slots_Sub_1 N a0 a1) (by kernel_rfl) h)

noncomputable def M_slots_Sub (N : Nat) (n_0 : Int) (n_1 : Int) (n_2 : Int) (n_3 : Int) (n_4 : Int) (n_5 : Int) (n_6 : Int) (n_7 : Int) : Option (Int × (Int × (Int × (Int × Unit)))) :=
 bnd (S_slots_Sub_1 n_0 n_4) <| fun p1 =>
 bnd (S_slots_Sub_1 n_1 n_5) <| fun p2 =>
 bnd (S_slots_Sub_1 n_2 n_6) <| fun p3 =>
 bnd (S_slots_Sub_1 n_3 n_7) <| fun p4 =>
 some (p1.1, (p2.1, (p3.1, (p4.1, ()))))
noncomputable def q_slots_Sub : Lift := ⟨tyX, look2 .todo (α := LoopAs) (.n 138 [(2, (.times 5))] .o .o), [c_slots_Sub_1], bsX⟩
theorem u_slots_Sub {N : Nat} {a0 : Int} {a1 : Int} {a2 : Int} {a3 : Int} {a4 : Int} {a5 : Int} {a6 : Int} {a7 : Int} {q : (Int × (Int × (Int × (Int × Unit))))} (h : M_slots_Sub N a0 a1 a2 a3 a4 a5 a6 a7 = some q) : S_slots_Sub a0 a1 a2 a3 a4 a5 a6 a7 = some q :=
 Sof_of (Q := q_slots_Sub) (N := N) (n := 3) (f := 136) (tin := i_slots_Sub) (tout := o_slots_Sub) (d := (a0, (a1, (a2, (a3, (a4, (a5, (a6, (a7, ()))))))))) (all1 k_slots_Sub_1 all0) bs_ok (by kernel_rfl) (by kernel_rfl) (by kernel_rfl) (Eq.trans (b := M_slots_Sub N a0 a1 a2 a3 a4 a5 a6 a7) (by kernel_rfl) h)

noncomputable def M_fnc_tables (N : Nat) (l_0 : LB) (b_1 : Bool) (l_2 : LI) (l_3 : LI) (l_4 : LI) (l_5 : LI) (l_6 : LC) (l_7 : LI) (l_8 : LN) (l_9 : LI) (l_10 : LS) : Option (Bool × Unit) :=
 dI l_2 <| fun l1 =>
 dI l_3 <| fun l2 =>
 dI l_4 <| fun l3 =>
 dI l_5 <| fun l4 =>
 dC l_6 <| fun l5 =>
 dI l_7 <| fun l6 =>
 dN l_8 <| fun l7 =>
 dI l_9 <| fun l8 =>
 dS l_10 <| fun l9 =>
 bnd (S_fnc_Bare l_0 b_1 l1 l2 l3 l4 l5 l6 l7 l8 l9) <| fun p10 =>
 cnd p10.1
  (some (true, ()))
  (dN l_8 <| fun l11 =>
  bnd (S_tree_Right l11) <| fun p12 =>
  cnd p12.1
   (cnd (eqI (vlen (eI l_9)) (vlen (eC l_6)))
    (cnd (eqI (vlen (eS l_10)) (vlen (eC l_6)))
     (none)
     (some (false, ())))
    (some (false, ())))
   (some (false, ())))
noncomputable def q_fnc_tables : Lift := ⟨tyX, look2 .todo (α := LoopAs) (.n 135 [(3, (.as ⟨[], [[.hole tW, .hole tW, .hole tW, .hole tW], [.hole tW, .hole tW, .hole tW, .hole tW]], (.one, [.junk]) :: (.one, [.fix]) :: (.one, [.junk]) :: (.one, [.junk]) :: (.one, [.stat (.ptr 0 0)]) :: (.one, [.stat (.ptr 1 0)]) :: (.one, [.hole tI]) :: rp 12 (.one, [.junk]) ([])⟩))] (.n 129 [(2, (.as ⟨[], [], (.one, [.fix]) :: (.one, [.stat (.clo false 114 [])]) :: rp 5 (.one, [.junk]) ((.one, [.fix]) :: (.one, [.hole tI]) :: rp 10 (.one, [.junk]) ([]))⟩))] (.n 119 [(2, (.as ⟨[], [], (.one, [.fix]) :: (.one, [.fix]) :: rp 5 (.one, [.junk]) ((.one, [.fix]) :: (.one, [.fix]) :: (.one, [.hole tI]) :: rp 11 (.one, [.junk]) ([]))⟩))] .o .o) .o) (.n 138 [(2, (.times 5))] .o .o)), [c_fnc_Bare, c_tree_Right], bsX⟩
theorem u_fnc_tables {N : Nat} {a0 : LB} {a1 : Bool} {a2 : LI} {a3 : LI} {a4 : LI} {a5 : LI} {a6 : LC} {a7 : LI} {a8 : LN} {a9 : LI} {a10 : LS} {q : (Bool × Unit)} (h : M_fnc_tables N a0 a1 a2 a3 a4 a5 a6 a7 a8 a9 a10 = some q) : S_fnc_tables a0 a1 a2 a3 a4 a5 a6 a7 a8 a9 a10 = some q :=
 Sof_of (Q := q_fnc_tables) (N := N) (n := 3) (f := 95) (tin := i_fnc_tables) (tout := o_fnc_tables) (d := (a0, (a1, (a2, (a3, (a4, (a5, (a6, (a7, (a8, (a9, (a10, ())))))))))))) (all1 k_fnc_Bare (all1 k_tree_Right all0)) bs_ok (by kernel_rfl) (by kernel_rfl) (by kernel_rfl) (Eq.trans (b := M_fnc_tables N a0 a1 a2 a3 a4 a5 a6 a7 a8 a9 a10) (by kernel_rfl) h)

end Go.Proofs.YtkdnbnkbnegckaaGreatDoor
namespace Go.Proofs.YtkdnbnkbnegckaaGreatDoor
open Go.RowKit
set_option maxRecDepth 100000
set_option linter.unusedVariables false
noncomputable def M_fnc_Can (N : Nat) (l_0 : LB) (b_1 : Bool) (l_2 : LI) (l_3 : LI) (l_4 : LI) (l_5 : LI) (l_6 : LC) (l_7 : LI) (l_8 : LN) (l_9 : LI) (l_10 : LS) : Option (Int × Unit) :=
 bnd (S_names_May l_0) <| fun p1 =>
 cnd (notB p1.1)
  (some (7, ()))
  (dI l_2 <| fun l2 =>
  dI l_3 <| fun l3 =>
  dI l_4 <| fun l4 =>
  dI l_5 <| fun l5 =>
  dC l_6 <| fun l6 =>
  dI l_7 <| fun l7 =>
  dN l_8 <| fun l8 =>
  dI l_9 <| fun l9 =>
  dS l_10 <| fun l10 =>
  bnd (S_fnc_types l_0 b_1 l2 l3 l4 l5 l6 l7 l8 l9 l10) <| fun p11 =>
  cnd (notB p11.1)
   (some (9, ()))
   (joinK (δ := (Bool × Unit)) (dI l_2 <| fun l12 =>
    dI l_3 <| fun l13 =>
    dI l_4 <| fun l14 =>
    dI l_5 <| fun l15 =>
    dC l_6 <| fun l16 =>
    dI l_7 <| fun l17 =>
    dN l_8 <| fun l18 =>
    dI l_9 <| fun l19 =>
    dS l_10 <| fun l20 =>
    bnd (S_fnc_many l_0 b_1 l12 l13 l14 l15 l16 l17 l18 l19 l20) <| fun p21 =>
    cnd (ltI 256 p21.1)
     (qB (ByteArray.mk (Array.mk l_0)) <|
     qO b_1 <|
     qS (eI l_2) <|
     qS (eI l_3) <|
     qS (eI l_4) <|
     qS (eI l_5) <|
     qS (eC l_6) <|
     qS (eI l_7) <|
     qS (eN l_8) <|
     qS (eI l_9) <|
     qS (eS l_10) <|
     qI (vlen (eC l_6)) <|
     leftK (true, ()))
     (cnd (ltI (vlen (eC l_6)) 1)
      (qB (ByteArray.mk (Array.mk l_0)) <|
      qO b_1 <|
      qS (eI l_2) <|
      qS (eI l_3) <|
      qS (eI l_4) <|
      qS (eI l_5) <|
      qS (eC l_6) <|
      qS (eI l_7) <|
      qS (eN l_8) <|
      qS (eI l_9) <|
      qS (eS l_10) <|
      qI (vlen (eC l_6)) <|
      leftK (true, ()))
      (qB (ByteArray.mk (Array.mk l_0)) <|
      qO b_1 <|
      qS (eI l_2) <|
      qS (eI l_3) <|
      qS (eI l_4) <|
      qS (eI l_5) <|
      qS (eC l_6) <|
      qS (eI l_7) <|
      qS (eN l_8) <|
      qS (eI l_9) <|
      qS (eS l_10) <|
      qI (vlen (eC l_6)) <|
      leftK ((ltI 2000 (vlen (eC l_6))), ()))))
   <| fun p22 =>
   cnd p22.1
    (some (6, ()))
    (qS (eC l_6) <|
    qI (vlen (eC l_6)) <|
    iter (fun (d23 : (Int × Unit)) again24 =>
     cnd (ltI d23.1 (vlen (eC l_6)))
      (chk (leI 0 d23.1) <|
      getE tC (eC l_6) (natI d23.1) <| fun p25 =>
      bnd (S_fnc_Can_1 p25.1 p25.2) <| fun p26 =>
      cnd p26.1
       (cnd (leI 0 d23.1)
        (some (8, ()))
        (joinK (δ := (Bool × Unit)) (cnd (notB (eqI (vlen (eI l_7)) (vlen (eC l_6))))
          (qB (ByteArray.mk (Array.mk l_0)) <|
          qO b_1 <|
          qS (eI l_2) <|
          qS (eI l_3) <|
          qS (eI l_4) <|
          qS (eI l_5) <|
          qS (eC l_6) <|
          qS (eI l_7) <|
          qS (eN l_8) <|
          qS (eI l_9) <|
          qS (eS l_10) <|
          leftK (true, ()))
          (dI l_7 <| fun l27 =>
          bnd (S_lines_Right l27) <| fun p28 =>
          qB (ByteArray.mk (Array.mk l_0)) <|
          qO b_1 <|
          qS (eI l_2) <|
          qS (eI l_3) <|
          qS (eI l_4) <|
          qS (eI l_5) <|
          qS (eC l_6) <|
          qS (eI l_7) <|
          qS (eN l_8) <|
          qS (eI l_9) <|
          qS (eS l_10) <|
          leftK ((notB p28.1), ())))
        <| fun p29 =>
        cnd p29.1
         (some (19, ()))
         (dI l_2 <| fun l30 =>
         dI l_3 <| fun l31 =>
         dI l_4 <| fun l32 =>
         dI l_5 <| fun l33 =>
         dC l_6 <| fun l34 =>
         dI l_7 <| fun l35 =>
         dN l_8 <| fun l36 =>
         dI l_9 <| fun l37 =>
         dS l_10 <| fun l38 =>
         bnd (S_fnc_tables l_0 b_1 l30 l31 l32 l33 l34 l35 l36 l37 l38) <| fun p39 =>
         cnd (notB p39.1)
          (some (14, ()))
          (some (0, ())))))
       (qS (eC l_6) <|
       qI (vlen (eC l_6)) <|
       again24 ((wrp .i64 (addI d23.1 1)), ())))
      (joinK (δ := (Bool × Unit)) (cnd (notB (eqI (vlen (eI l_7)) (vlen (eC l_6))))
        (qB (ByteArray.mk (Array.mk l_0)) <|
        qO b_1 <|
        qS (eI l_2) <|
        qS (eI l_3) <|
        qS (eI l_4) <|
        qS (eI l_5) <|
        qS (eC l_6) <|
        qS (eI l_7) <|
        qS (eN l_8) <|
        qS (eI l_9) <|
        qS (eS l_10) <|
        leftK (true, ()))
        (dI l_7 <| fun l40 =>
        bnd (S_lines_Right l40) <| fun p41 =>
        qB (ByteArray.mk (Array.mk l_0)) <|
        qO b_1 <|
        qS (eI l_2) <|
        qS (eI l_3) <|
        qS (eI l_4) <|
        qS (eI l_5) <|
        qS (eC l_6) <|
        qS (eI l_7) <|
        qS (eN l_8) <|
        qS (eI l_9) <|
        qS (eS l_10) <|
        leftK ((notB p41.1), ())))
      <| fun p42 =>
      cnd p42.1
       (some (19, ()))
       (dI l_2 <| fun l43 =>
       dI l_3 <| fun l44 =>
       dI l_4 <| fun l45 =>
       dI l_5 <| fun l46 =>
       dC l_6 <| fun l47 =>
       dI l_7 <| fun l48 =>
       dN l_8 <| fun l49 =>
       dI l_9 <| fun l50 =>
       dS l_10 <| fun l51 =>
       bnd (S_fnc_tables l_0 b_1 l43 l44 l45 l46 l47 l48 l49 l50 l51) <| fun p52 =>
       cnd (notB p52.1)
        (some (14, ()))
        (some (0, ()))))) N (0, ()))))
noncomputable def q_fnc_Can : Lift := ⟨tyX, look2 .todo (α := LoopAs) (.n 113 [(2, (.as ⟨[], [], (.one, [.fix]) :: (.one, [.stat (.clo false 90 [])]) :: rp 5 (.one, [.junk]) ((.one, [.fix]) :: (.one, [.hole tI]) :: rp 10 (.one, [.junk]) ([]))⟩))] (.n 67 [(1032777, (.as ⟨[], [[.fix, .fix, .fix, .fix, .fix, .fix, .fix, .fix, .fix, .fix, .fix]], (.one, [.junk]) :: (.one, [.stat (.ptr 0 0)]) :: (.one, [.junk]) :: (.one, [.stat (.clo false 90 [])]) :: (.one, [.fix]) :: rp 12 (.one, [.junk]) ((.one, [.hole .bool]) :: rp 32 (.one, [.junk]) ([]))⟩)), (1049165, (.as ⟨[], [[.fix, .fix, .fix, .fix, .fix, .fix, .fix, .fix, .fix, .fix, .fix]], (.one, [.junk]) :: (.one, [.stat (.ptr 0 0)]) :: rp 32 (.one, [.junk]) ((.one, [.hole .bool]) :: rp 15 (.one, [.junk]) ([]))⟩))] .o .o) .o), [c_fnc_Can_1, c_names_May, c_fnc_types, c_fnc_many, c_lines_Right, c_fnc_tables], bsX⟩
theorem u_fnc_Can {N : Nat} {a0 : LB} {a1 : Bool} {a2 : LI} {a3 : LI} {a4 : LI} {a5 : LI} {a6 : LC} {a7 : LI} {a8 : LN} {a9 : LI} {a10 : LS} {q : (Int × Unit)} (h : M_fnc_Can N a0 a1 a2 a3 a4 a5 a6 a7 a8 a9 a10 = some q) : S_fnc_Can a0 a1 a2 a3 a4 a5 a6 a7 a8 a9 a10 = some q :=
 Sof_of (Q := q_fnc_Can) (N := N) (n := 3) (f := 67) (tin := i_fnc_Can) (tout := o_fnc_Can) (d := (a0, (a1, (a2, (a3, (a4, (a5, (a6, (a7, (a8, (a9, (a10, ())))))))))))) (all1 k_fnc_Can_1 (all1 k_names_May (all1 k_fnc_types (all1 k_fnc_many (all1 k_lines_Right (all1 k_fnc_tables all0)))))) bs_ok (by kernel_rfl) (by kernel_rfl) (by kernel_rfl) (Eq.trans (b := M_fnc_Can N a0 a1 a2 a3 a4 a5 a6 a7 a8 a9 a10) (by kernel_rfl) h)

noncomputable def M_file_called (N : Nat) (l_0 : LF) : Option ((List LB) × Unit) :=
 decL .str [] <| fun l1 =>
 dF l_0 <| fun l2 =>
 qS (eF l_0) <|
 qI (vlen (eF l_0)) <|
 iter (fun (d3 : ((List LB) × (LF × (Int × Unit)))) again4 =>
  cnd (ltI d3.2.2.1 (vlen (eF l_0)))
   (chk (leI 0 d3.2.2.1) <|
   getE tF (eF l_0) (natI d3.2.2.1) <| fun p5 =>
   qN (vnum (encL .str d3.1)) <|
   chk (room (vnum (encL .str d3.1)) (vnum (vcut [[(C.v (Go.Value.string (ByteArray.mk (Array.mk p5.1))))]] 0 1)) 16) <|
   decL .str (vapp (encL .str d3.1) (vcut [[(C.v (Go.Value.string (ByteArray.mk (Array.mk p5.1))))]] 0 1)) <| fun l6 =>
   dF d3.2.1 <| fun l7 =>
   chk (eqN (addN (vnum (encL .str d3.1)) (vnum (vcut [[(C.v (Go.Value.string (ByteArray.mk (Array.mk p5.1))))]] 0 1))) (vnum (vapp (encL .str d3.1) (vcut [[(C.v (Go.Value.string (ByteArray.mk (Array.mk p5.1))))]] 0 1)))) <|
   qS (eF l_0) <|
   qI (vlen (eF l_0)) <|
   again4 (l6, (l7, ((wrp .i64 (addI d3.2.2.1 1)), ()))))
   (chk (leN (addN 0 (vnum (encL .str d3.1))) (vnum (encL .str d3.1))) <|
   decL .str (vcut (encL .str d3.1) 0 (vnum (encL .str d3.1))) <| fun l8 =>
   some (l8, ()))) N (l1, (l2, (0, ())))
noncomputable def q_file_called : Lift := ⟨tyX, look2 .todo (α := LoopAs) (.n 69 [(3, (.as ⟨[.mu 9 1 .str], [[.hole (.sl 11 tF)]], (.one, [.junk]) :: (.one, [.junk]) :: (.one, [.junk]) :: (.one, [.own 0]) :: (.one, [.junk]) :: (.one, [.junk]) :: (.one, [.junk]) :: (.one, [.fix]) :: (.one, [.fix]) :: (.one, [.hole tI]) :: rp 10 (.one, [.junk]) ([])⟩))] .o .o), [], bsX⟩
theorem u_file_called {N : Nat} {a0 : LF} {q : ((List LB) × Unit)} (h : M_file_called N a0 = some q) : S_file_called a0 = some q :=
 Sof_of (Q := q_file_called) (N := N) (n := 3) (f := 69) (tin := i_file_called) (tout := o_file_called) (d := (a0, ())) all0 bs_ok (by kernel_rfl) (by kernel_rfl) (by kernel_rfl) (Eq.trans (b := M_file_called N a0) (by kernel_rfl) h)

noncomputable def M_dis_Head (N : Nat) (l_0 : LB) (b_1 : Bool) (l_2 : LI) (l_3 : LI) (l_4 : LI) (l_5 : LI) (l_6 : LC) (l_7 : LI) (l_8 : LN) (l_9 : LI) (l_10 : LS) : Option (LB × Unit) :=
 dI l_3 <| fun l1 =>
 bnd (S_sig_Text l1) <| fun p2 =>
 dI l_4 <| fun l3 =>
 bnd (S_sig_Text l3) <| fun p4 =>
 dI l_5 <| fun l5 =>
 bnd (S_sig_Text l5) <| fun p6 =>
 joinK (δ := ((List LB) × Unit)) (cnd b_1
   (dI l_2 <| fun l7 =>
   bnd (S_sig_Text l7) <| fun p8 =>
   chk (room 5 (vnum (vcut [[(C.v (Go.Value.string (ByteArray.mk (Array.mk p8.1))))]] 0 1)) 16) <|
   decL .str (vapp [[(C.v (Go.Value.string (ByteArray.mk (Array.mk [(UInt8.ofNat 102), (UInt8.ofNat 117), (UInt8.ofNat 110), (UInt8.ofNat 99)]))))], [(C.v (Go.Value.string (ByteArray.mk (Array.mk l_0))))], [(C.v (Go.Value.string (ByteArray.mk (Array.mk p2.1))))], [(C.v (Go.Value.string (ByteArray.mk (Array.mk p4.1))))], [(C.v (Go.Value.string (ByteArray.mk (Array.mk p6.1))))]] (vcut [[(C.v (Go.Value.string (ByteArray.mk (Array.mk p8.1))))]] 0 1)) <| fun l9 =>
   qB (ByteArray.mk (Array.mk l_0)) <|
   qO b_1 <|
   qS (eI l_2) <|
   qS (eI l_3) <|
   qS (eI l_4) <|
   qS (eI l_5) <|
   qS (eC l_6) <|
   qS (eI l_7) <|
   qS (eN l_8) <|
   qS (eI l_9) <|
   qS (eS l_10) <|
   chk (eqN (addN 5 (vnum (vcut [[(C.v (Go.Value.string (ByteArray.mk (Array.mk p8.1))))]] 0 1))) (vnum (vapp [[(C.v (Go.Value.string (ByteArray.mk (Array.mk [(UInt8.ofNat 102), (UInt8.ofNat 117), (UInt8.ofNat 110), (UInt8.ofNat 99)]))))], [(C.v (Go.Value.string (ByteArray.mk (Array.mk l_0))))], [(C.v (Go.Value.string (ByteArray.mk (Array.mk p2.1))))], [(C.v (Go.Value.string (ByteArray.mk (Array.mk p4.1))))], [(C.v (Go.Value.string (ByteArray.mk (Array.mk p6.1))))]] (vcut [[(C.v (Go.Value.string (ByteArray.mk (Array.mk p8.1))))]] 0 1)))) <|
   leftK (l9, ()))
   (decL .str [[(C.v (Go.Value.string (ByteArray.mk (Array.mk [(UInt8.ofNat 102), (UInt8.ofNat 117), (UInt8.ofNat 110), (UInt8.ofNat 99)]))))], [(C.v (Go.Value.string (ByteArray.mk (Array.mk l_0))))], [(C.v (Go.Value.string (ByteArray.mk (Array.mk p2.1))))], [(C.v (Go.Value.string (ByteArray.mk (Array.mk p4.1))))], [(C.v (Go.Value.string (ByteArray.mk (Array.mk p6.1))))]] <| fun l10 =>
   qB (ByteArray.mk (Array.mk l_0)) <|
   qO b_1 <|
   qS (eI l_2) <|
   qS (eI l_3) <|
   qS (eI l_4) <|
   qS (eI l_5) <|
   qS (eC l_6) <|
   qS (eI l_7) <|
   qS (eN l_8) <|
   qS (eI l_9) <|
   qS (eS l_10) <|
   leftK (l10, ())))
 <| fun p11 =>
 chk (leN (addN 0 (vnum (encL .str p11.1))) (vnum (encL .str p11.1))) <|
 decL .str (vcut (encL .str p11.1) 0 (vnum (encL .str p11.1))) <| fun l12 =>
 bnd (S_strings_Join l12 [(UInt8.ofNat 32)]) <| fun p13 =>
 some (p13.1, ())
noncomputable def q_dis_Head : Lift := ⟨tyX, look2 .todo (α := LoopAs) (.n 38 [(1016389, (.as ⟨[.mu 9 1 .str], [[.fix, .fix, .fix, .fix, .fix, .fix, .fix, .fix, .fix, .fix, .fix]], (.one, [.junk]) :: (.one, [.junk]) :: (.one, [.junk]) :: (.one, [.own 0]) :: rp 22 (.one, [.junk]) ([])⟩))] .o .o), [c_sig_Text, c_strings_Join], bsX⟩
theorem u_dis_Head {N : Nat} {a0 : LB} {a1 : Bool} {a2 : LI} {a3 : LI} {a4 : LI} {a5 : LI} {a6 : LC} {a7 : LI} {a8 : LN} {a9 : LI} {a10 : LS} {q : (LB × Unit)} (h : M_dis_Head N a0 a1 a2 a3 a4 a5 a6 a7 a8 a9 a10 = some q) : S_dis_Head a0 a1 a2 a3 a4 a5 a6 a7 a8 a9 a10 = some q :=
 Sof_of (Q := q_dis_Head) (N := N) (n := 3) (f := 38) (tin := i_dis_Head) (tout := o_dis_Head) (d := (a0, (a1, (a2, (a3, (a4, (a5, (a6, (a7, (a8, (a9, (a10, ())))))))))))) (all1 k_sig_Text (all1 k_strings_Join all0)) bs_ok (by kernel_rfl) (by kernel_rfl) (by kernel_rfl) (Eq.trans (b := M_dis_Head N a0 a1 a2 a3 a4 a5 a6 a7 a8 a9 a10) (by kernel_rfl) h)

noncomputable def M_lines_At (N : Nat) (l_0 : LI) (n_1 : Int) : Option (Int × Unit) :=
 joinK (δ := Unit) (cnd (ltI n_1 0)
   (rightK <| some (0, ()))
   (cnd (leI (vlen (eI l_0)) n_1)
    (rightK <| some (0, ()))
    (qS (eI l_0) <|
    qI n_1 <|
    leftK ())))
 <| fun x1 =>
 chk (leI 0 n_1) <|
 getE tI (eI l_0) (natI n_1) <| fun n2 =>
 some (n2, ())
noncomputable def q_lines_At : Lift := ⟨tyX, look2 .todo (α := LoopAs) (.n 71 [(1012292, (.as ⟨[], [], (.one, [.fix]) :: (.one, [.fix]) :: rp 15 (.one, [.junk]) ([])⟩))] .o .o), [], bsX⟩
theorem u_lines_At {N : Nat} {a0 : LI} {a1 : Int} {q : (Int × Unit)} (h : M_lines_At N a0 a1 = some q) : S_lines_At a0 a1 = some q :=
 Sof_of (Q := q_lines_At) (N := N) (n := 3) (f := 71) (tin := i_lines_At) (tout := o_lines_At) (d := (a0, (a1, ()))) all0 bs_ok (by kernel_rfl) (by kernel_rfl) (by kernel_rfl) (Eq.trans (b := M_lines_At N a0 a1) (by kernel_rfl) h)

end Go.Proofs.YtkdnbnkbnegckaaGreatDoor
