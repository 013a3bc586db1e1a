/- Functions, lifted: what the program comes to by them. -/
import Derived.Test.YtkdnbnkbnegckaaGreatLwA
namespace Go.Proofs.YtkdnbnkbnegckaaGreat
open Go.RowKit
set_option maxRecDepth 100000
set_option linter.unusedVariables false
noncomputable def M_cursor_Cursor_Err (N : Nat) (l_0 : LB) (b_1 : Bool) (n_2 : Int) : Option (LB × (Bool × (Int × (Int × Unit)))) :=
 joinK (δ := Unit) (cnd (notB b_1)
   (rightK <| dY l_0 <| fun l1 =>
   some (l1, (b_1, (n_2, (1, ())))))
   (qS (eY l_0) <|
   qO b_1 <|
   qI n_2 <|
   leftK ()))
 <| fun x2 =>
 dY l_0 <| fun l3 =>
 some (l3, (b_1, (n_2, (n_2, ()))))
noncomputable def q_cursor_Cursor_Err : Lift := ⟨tyX, look2 .todo (α := LoopAs) (.n 14 [(1012292, (.as ⟨[], [[.fix, .fix, .fix]], (.one, [.stat (.ptr 0 0)]) :: rp 16 (.one, [.junk]) ([])⟩))] .o .o), [], bsX⟩
theorem u_cursor_Cursor_Err {N : Nat} {a0 : LB} {a1 : Bool} {a2 : Int} {q : (LB × (Bool × (Int × (Int × Unit))))} (h : M_cursor_Cursor_Err N a0 a1 a2 = some q) : S_cursor_Cursor_Err a0 a1 a2 = some q :=
 Sof_of (Q := q_cursor_Cursor_Err) (N := N) (n := 3) (f := 14) (tin := i_cursor_Cursor_Err) (tout := o_cursor_Cursor_Err) (d := (a0, (a1, (a2, ())))) all0 bs_ok (by kernel_rfl) (by kernel_rfl) (by kernel_rfl) (Eq.trans (b := M_cursor_Cursor_Err N a0 a1 a2) (by kernel_rfl) h)

noncomputable def M_uvar_Get (N : Nat) (l_0 : LB) : Option (Int × (Int × (Int × Unit))) :=
 joinK (δ := (Int × (Int × (Int × Unit)))) (qS (eY l_0) <|
  qI (vlen (eY l_0)) <|
  iter (fun (d1 : (Int × (Int × (Int × (Int × Unit))))) again2 =>
   cnd (ltI d1.2.2.2.1 (vlen (eY l_0)))
    (chk (leI 0 d1.2.2.2.1) <|
    getE tY (eY l_0) (natI d1.2.2.2.1) <| fun x3 =>
    joinK (δ := (Bool × Unit)) (cnd (eqI d1.2.2.2.1 9)
      (qI d1.1 <|
      qI d1.2.1 <|
      qI d1.2.2.1 <|
      qI d1.2.2.2.1 <|
      qI (u8I x3) <|
      qS (eY l_0) <|
      qI (vlen (eY l_0)) <|
      qI d1.2.2.2.1 <|
      leftK ((ltI 1 (u8I x3)), ()))
      (qI d1.1 <|
      qI d1.2.1 <|
      qI d1.2.2.1 <|
      qI d1.2.2.2.1 <|
      qI (u8I x3) <|
      qS (eY l_0) <|
      qI (vlen (eY l_0)) <|
      qI d1.2.2.2.1 <|
      leftK (false, ())))
    <| fun p4 =>
    cnd p4.1
     (leftK (d1.1, (5, (d1.2.2.1, ()))))
     (cnd (leI 128 (u8I x3))
      (chk (leI 0 (wrp .i64 (mulI 7 d1.2.2.2.1))) <|
      qS (eY l_0) <|
      qI (vlen (eY l_0)) <|
      again2 ((bitI .or .u64 d1.1 (wrp .u64 (shlI .u64 (wrp .u64 (bitI .andNot .u8 (u8I x3) 128)) (wrp .i64 (mulI 7 d1.2.2.2.1))))), (d1.2.1, (d1.2.2.1, ((wrp .i64 (addI d1.2.2.2.1 1)), ())))))
      (joinK (δ := (Bool × Unit)) (cnd (eqI (u8I x3) 0)
        (qI d1.1 <|
        qI d1.2.2.1 <|
        qI d1.2.2.2.1 <|
        qI (u8I x3) <|
        leftK ((ltI 0 d1.2.2.2.1), ()))
        (qI d1.1 <|
        qI d1.2.2.1 <|
        qI d1.2.2.2.1 <|
        qI (u8I x3) <|
        leftK (false, ())))
      <| fun p5 =>
      cnd p5.1
       (leftK (d1.1, (4, (d1.2.2.1, ()))))
       (chk (leI 0 (wrp .i64 (mulI 7 d1.2.2.2.1))) <|
       leftK ((bitI .or .u64 d1.1 (wrp .u64 (shlI .u64 (wrp .u64 (u8I x3)) (wrp .i64 (mulI 7 d1.2.2.2.1))))), (0, ((wrp .i64 (addI d1.2.2.2.1 1)), ())))))))
    (leftK (d1.1, (d1.2.1, (d1.2.2.1, ()))))) N (0, (3, (0, (0, ())))))
 <| fun p6 =>
 cnd (notB (eqI p6.2.1 0))
  (some (0, (0, (p6.2.1, ()))))
  (some (p6.1, (p6.2.2.1, (0, ()))))
noncomputable def q_uvar_Get : Lift := ⟨tyX, look2 .todo (α := LoopAs) (.n 171 [(3, (.as ⟨[], [], rp 5 (.one, [.junk]) ((.one, [.hole tW]) :: (.one, [.hole tI]) :: (.one, [.hole tI]) :: (.one, [.junk]) :: (.one, [.junk]) :: (.one, [.fix]) :: (.one, [.fix]) :: (.one, [.hole tI]) :: rp 44 (.one, [.junk]) ([]))⟩)), (1032777, (.as ⟨[], [], rp 5 (.one, [.junk]) (rp 8 (.one, [.fix]) (rp 13 (.one, [.junk]) ((.one, [.hole .bool]) :: rp 30 (.one, [.junk]) ([]))))⟩)), (1049165, (.as ⟨[], [], rp 5 (.one, [.junk]) ((.one, [.fix]) :: (.one, [.junk]) :: (.one, [.fix]) :: (.one, [.fix]) :: (.one, [.fix]) :: rp 34 (.one, [.junk]) ((.one, [.hole .bool]) :: rp 12 (.one, [.junk]) ([])))⟩)), (1057359, (.as ⟨[], [], rp 5 (.one, [.junk]) ((.one, [.hole tW]) :: (.one, [.hole tI]) :: (.one, [.hole tI]) :: rp 49 (.one, [.junk]) ([]))⟩))] .o .o), [], bsX⟩
theorem u_uvar_Get {N : Nat} {a0 : LB} {q : (Int × (Int × (Int × Unit)))} (h : M_uvar_Get N a0 = some q) : S_uvar_Get a0 = some q :=
 Sof_of (Q := q_uvar_Get) (N := N) (n := 3) (f := 171) (tin := i_uvar_Get) (tout := o_uvar_Get) (d := (a0, ())) all0 bs_ok (by kernel_rfl) (by kernel_rfl) (by kernel_rfl) (Eq.trans (b := M_uvar_Get N a0) (by kernel_rfl) h)

noncomputable def M_cursor_Cursor_Fail (N : Nat) (l_0 : LB) (b_1 : Bool) (n_2 : Int) (n_3 : Int) : Option (LB × (Bool × (Int × Unit))) :=
 dY l_0 <| fun l1 =>
 bnd (S_cursor_Cursor_Err l1 b_1 n_2) <| fun p2 =>
 cnd (eqI p2.2.2.2.1 0)
  (dY p2.1 <| fun l3 =>
  some (l3, (p2.2.1, (n_3, ()))))
  (dY p2.1 <| fun l4 =>
  some (l4, (p2.2.1, (p2.2.2.1, ()))))
noncomputable def q_cursor_Cursor_Fail : Lift := ⟨tyX, look2 .todo (α := LoopAs) (.o), [c_cursor_Cursor_Err], bsX⟩
theorem u_cursor_Cursor_Fail {N : Nat} {a0 : LB} {a1 : Bool} {a2 : Int} {a3 : Int} {q : (LB × (Bool × (Int × Unit)))} (h : M_cursor_Cursor_Fail N a0 a1 a2 a3 = some q) : S_cursor_Cursor_Fail a0 a1 a2 a3 = some q :=
 Sof_of (Q := q_cursor_Cursor_Fail) (N := N) (n := 3) (f := 135) (tin := i_cursor_Cursor_Fail) (tout := o_cursor_Cursor_Fail) (d := (a0, (a1, (a2, (a3, ()))))) (all1 k_cursor_Cursor_Err all0) bs_ok (by kernel_rfl) (by kernel_rfl) (by kernel_rfl) (Eq.trans (b := M_cursor_Cursor_Fail N a0 a1 a2 a3) (by kernel_rfl) h)

noncomputable def M_cursor_Cursor_Bits (N : Nat) (l_0 : LB) (b_1 : Bool) (n_2 : Int) : Option (LB × (Bool × (Int × (Int × Unit)))) :=
 dY l_0 <| fun l1 =>
 bnd (S_cursor_Cursor_Err l1 b_1 n_2) <| fun p2 =>
 cnd (notB (eqI p2.2.2.2.1 0))
  (dY p2.1 <| fun l3 =>
  some (l3, (p2.2.1, (p2.2.2.1, (0, ())))))
  (dY p2.1 <| fun l4 =>
  bnd (S_uvar_Get l4) <| fun p5 =>
  chk (leI 0 p5.2.1) <|
  chk (leI p5.2.1 (vlen (eY p2.1))) <|
  chk (leI 0 p5.2.1) <|
  chk (leI p5.2.1 (vlen (eY p2.1))) <|
  chk (leI (vlen (eY p2.1)) (vlen (eY p2.1))) <|
  cnd (notB (eqI p5.2.2.1 0))
   (decL tY (vcut (eY p2.1) (natI p5.2.1) (subN (vlen (eY p2.1)) p5.2.1)) <| fun l6 =>
   bnd (S_cursor_Cursor_Fail l6 p2.2.1 p2.2.2.1 p5.2.2.1) <| fun p7 =>
   dY p7.1 <| fun l8 =>
   some (l8, (p7.2.1, (p7.2.2.1, (0, ())))))
   (decL tY (vcut (eY p2.1) (natI p5.2.1) (subN (vlen (eY p2.1)) p5.2.1)) <| fun l9 =>
   some (l9, (p2.2.1, (p2.2.2.1, (p5.1, ()))))))
noncomputable def q_cursor_Cursor_Bits : Lift := ⟨tyX, look2 .todo (α := LoopAs) (.o), [c_cursor_Cursor_Err, c_uvar_Get, c_cursor_Cursor_Fail], bsX⟩
theorem u_cursor_Cursor_Bits {N : Nat} {a0 : LB} {a1 : Bool} {a2 : Int} {q : (LB × (Bool × (Int × (Int × Unit))))} (h : M_cursor_Cursor_Bits N a0 a1 a2 = some q) : S_cursor_Cursor_Bits a0 a1 a2 = some q :=
 Sof_of (Q := q_cursor_Cursor_Bits) (N := N) (n := 3) (f := 142) (tin := i_cursor_Cursor_Bits) (tout := o_cursor_Cursor_Bits) (d := (a0, (a1, (a2, ())))) (all1 k_cursor_Cursor_Err (all1 k_uvar_Get (all1 k_cursor_Cursor_Fail all0))) bs_ok (by kernel_rfl) (by kernel_rfl) (by kernel_rfl) (Eq.trans (b := M_cursor_Cursor_Bits N a0 a1 a2) (by kernel_rfl) h)

noncomputable def M_cursor_Cursor_Num (N : Nat) (l_0 : LB) (b_1 : Bool) (n_2 : Int) (n_3 : Int) : Option (LB × (Bool × (Int × (Int × Unit)))) :=
 dY l_0 <| fun l1 =>
 bnd (S_cursor_Cursor_Bits l1 b_1 n_2) <| fun p2 =>
 dY p2.1 <| fun l3 =>
 bnd (S_cursor_Cursor_Err l3 p2.2.1 p2.2.2.1) <| fun p4 =>
 cnd (notB (eqI p4.2.2.2.1 0))
  (dY p4.1 <| fun l5 =>
  some (l5, (p4.2.1, (p4.2.2.1, (0, ())))))
  (joinK (δ := (Bool × Unit)) (cnd (ltI n_3 0)
    (qS (eY p4.1) <|
    qO p4.2.1 <|
    qI p4.2.2.1 <|
    qI p2.2.2.2.1 <|
    leftK (true, ()))
    (qS (eY p4.1) <|
    qO p4.2.1 <|
    qI p4.2.2.1 <|
    qI p2.2.2.2.1 <|
    leftK ((ltI (wrp .u64 n_3) p2.2.2.2.1), ())))
  <| fun p6 =>
  cnd p6.1
   (dY p4.1 <| fun l7 =>
   bnd (S_cursor_Cursor_Fail l7 p4.2.1 p4.2.2.1 6) <| fun p8 =>
   dY p8.1 <| fun l9 =>
   some (l9, (p8.2.1, (p8.2.2.1, (0, ())))))
   (dY p4.1 <| fun l10 =>
   some (l10, (p4.2.1, (p4.2.2.1, ((wrp .i64 p2.2.2.2.1), ()))))))
noncomputable def q_cursor_Cursor_Num : Lift := ⟨tyX, look2 .todo (α := LoopAs) (.n 96 [(1020486, (.as ⟨[], [[.fix, .fix, .fix]], (.one, [.stat (.ptr 0 0)]) :: rp 4 (.one, [.junk]) ((.one, [.fix]) :: rp 12 (.one, [.junk]) ((.one, [.hole .bool]) :: rp 4 (.one, [.junk]) ([])))⟩))] .o .o), [c_cursor_Cursor_Err, c_cursor_Cursor_Fail, c_cursor_Cursor_Bits], bsX⟩
theorem u_cursor_Cursor_Num {N : Nat} {a0 : LB} {a1 : Bool} {a2 : Int} {a3 : Int} {q : (LB × (Bool × (Int × (Int × Unit))))} (h : M_cursor_Cursor_Num N a0 a1 a2 a3 = some q) : S_cursor_Cursor_Num a0 a1 a2 a3 = some q :=
 Sof_of (Q := q_cursor_Cursor_Num) (N := N) (n := 3) (f := 96) (tin := i_cursor_Cursor_Num) (tout := o_cursor_Cursor_Num) (d := (a0, (a1, (a2, (a3, ()))))) (all1 k_cursor_Cursor_Err (all1 k_cursor_Cursor_Fail (all1 k_cursor_Cursor_Bits all0))) bs_ok (by kernel_rfl) (by kernel_rfl) (by kernel_rfl) (Eq.trans (b := M_cursor_Cursor_Num N a0 a1 a2 a3) (by kernel_rfl) h)

noncomputable def M_cursor_Cursor_Text (N : Nat) (l_0 : LB) (b_1 : Bool) (n_2 : Int) (n_3 : Int) : Option (LB × (Bool × (Int × (LB × Unit)))) :=
 dY l_0 <| fun l1 =>
 bnd (S_cursor_Cursor_Num l1 b_1 n_2 n_3) <| fun p2 =>
 dY p2.1 <| fun l3 =>
 bnd (S_cursor_Cursor_Err l3 p2.2.1 p2.2.2.1) <| fun p4 =>
 cnd (notB (eqI p4.2.2.2.1 0))
  (dY p4.1 <| fun l5 =>
  some (l5, (p4.2.1, (p4.2.2.1, ([], ())))))
  (cnd (ltI (vlen (eY p4.1)) p2.2.2.2.1)
   (dY p4.1 <| fun l6 =>
   bnd (S_cursor_Cursor_Fail l6 p4.2.1 p4.2.2.1 3) <| fun p7 =>
   dY p7.1 <| fun l8 =>
   some (l8, (p7.2.1, (p7.2.2.1, ([], ())))))
   (chk (leI 0 p2.2.2.2.1) <|
   chk (leI p2.2.2.2.1 (vlen (eY p4.1))) <|
   chk (leI 0 p2.2.2.2.1) <|
   chk (leI p2.2.2.2.1 (vlen (eY p4.1))) <|
   chk (leI (vlen (eY p4.1)) (vlen (eY p4.1))) <|
   strK (vcut (eY p4.1) 0 (subN p2.2.2.2.1 0)) <| fun x9 =>
   decL tY (vcut (eY p4.1) (natI p2.2.2.2.1) (subN (vlen (eY p4.1)) p2.2.2.2.1)) <| fun l10 =>
   some (l10, (p4.2.1, (p4.2.2.1, (x9.1.1, ()))))))
noncomputable def q_cursor_Cursor_Text : Lift := ⟨tyX, look2 .todo (α := LoopAs) (.o), [c_cursor_Cursor_Err, c_cursor_Cursor_Fail, c_cursor_Cursor_Num], bsX⟩
theorem u_cursor_Cursor_Text {N : Nat} {a0 : LB} {a1 : Bool} {a2 : Int} {a3 : Int} {q : (LB × (Bool × (Int × (LB × Unit))))} (h : M_cursor_Cursor_Text N a0 a1 a2 a3 = some q) : S_cursor_Cursor_Text a0 a1 a2 a3 = some q :=
 Sof_of (Q := q_cursor_Cursor_Text) (N := N) (n := 3) (f := 90) (tin := i_cursor_Cursor_Text) (tout := o_cursor_Cursor_Text) (d := (a0, (a1, (a2, (a3, ()))))) (all1 k_cursor_Cursor_Err (all1 k_cursor_Cursor_Fail (all1 k_cursor_Cursor_Num all0))) bs_ok (by kernel_rfl) (by kernel_rfl) (by kernel_rfl) (Eq.trans (b := M_cursor_Cursor_Text N a0 a1 a2 a3) (by kernel_rfl) h)

noncomputable def M_names_first (N : Nat) (x_0 : UInt8) : Option (Bool × Unit) :=
 cnd (leI 97 (u8I x_0))
  (some ((leI (u8I x_0) 122), ()))
  (some (false, ()))
noncomputable def q_names_first : Lift := ⟨tyX, look2 .todo (α := LoopAs) (.o), [], bsX⟩
theorem u_names_first {N : Nat} {a0 : UInt8} {q : (Bool × Unit)} (h : M_names_first N a0 = some q) : S_names_first a0 = some q :=
 Sof_of (Q := q_names_first) (N := N) (n := 3) (f := 137) (tin := i_names_first) (tout := o_names_first) (d := (a0, ())) all0 bs_ok (by kernel_rfl) (by kernel_rfl) (by kernel_rfl) (Eq.trans (b := M_names_first N a0) (by kernel_rfl) h)

noncomputable def M_names_other (N : Nat) (x_0 : UInt8) : Option (Bool × Unit) :=
 chk (inU8 (u8I x_0)) <|
 bnd (S_names_first (toU8 (u8I x_0))) <| fun p1 =>
 cnd p1.1
  (some (true, ()))
  (cnd (leI 48 (u8I x_0))
   (cnd (leI (u8I x_0) 57)
    (some (true, ()))
    (some ((eqI (u8I x_0) 95), ())))
   (some ((eqI (u8I x_0) 95), ())))
noncomputable def q_names_other : Lift := ⟨tyX, look2 .todo (α := LoopAs) (.o), [c_names_first], bsX⟩
theorem u_names_other {N : Nat} {a0 : UInt8} {q : (Bool × Unit)} (h : M_names_other N a0 = some q) : S_names_other a0 = some q :=
 Sof_of (Q := q_names_other) (N := N) (n := 3) (f := 138) (tin := i_names_other) (tout := o_names_other) (d := (a0, ())) (all1 k_names_first all0) bs_ok (by kernel_rfl) (by kernel_rfl) (by kernel_rfl) (Eq.trans (b := M_names_other N a0) (by kernel_rfl) h)

noncomputable def M_names_May (N : Nat) (l_0 : LB) : Option (Bool × Unit) :=
 joinK (δ := Unit) (cnd (seq2 (ByteArray.mk (Array.mk l_0)) bA0)
   (rightK <| some (false, ()))
   (cnd (ltI 12 (slen (ByteArray.mk (Array.mk l_0))))
    (rightK <| some (false, ()))
    (getS (ByteArray.mk (Array.mk l_0)) 0 <| fun x1 =>
    chk (inU8 (u8I x1)) <|
    bnd (S_names_first (toU8 (u8I x1))) <| fun p2 =>
    cnd (notB p2.1)
     (rightK <| some (false, ()))
     (qB (ByteArray.mk (Array.mk l_0)) <|
     leftK ()))))
 <| fun x3 =>
 qB (ByteArray.mk (Array.mk l_0)) <|
 qI (slen (ByteArray.mk (Array.mk l_0))) <|
 iter (fun (d4 : (Int × Unit)) again5 =>
  cnd (ltI d4.1 (slen (ByteArray.mk (Array.mk l_0))))
   (chk (leI 0 d4.1) <|
   getS (ByteArray.mk (Array.mk l_0)) (natI d4.1) <| fun x6 =>
   chk (inU8 (u8I x6)) <|
   bnd (S_names_other (toU8 (u8I x6))) <| fun p7 =>
   cnd (notB p7.1)
    (some (false, ()))
    (qB (ByteArray.mk (Array.mk l_0)) <|
    qI (slen (ByteArray.mk (Array.mk l_0))) <|
    again5 ((wrp .i64 (addI d4.1 1)), ())))
   (some (true, ()))) N (0, ())
noncomputable def q_names_May : Lift := ⟨tyX, look2 .todo (α := LoopAs) (.n 92 [(4, (.as ⟨[], [], (.one, [.fix]) :: rp 17 (.one, [.junk]) ((.one, [.fix]) :: (.one, [.hole tI]) :: rp 8 (.one, [.junk]) ([]))⟩)), (1012292, (.as ⟨[], [], (.one, [.fix]) :: rp 27 (.one, [.junk]) ([])⟩))] .o .o), [c_names_first, c_names_other], bsX⟩
theorem u_names_May {N : Nat} {a0 : LB} {q : (Bool × Unit)} (h : M_names_May N a0 = some q) : S_names_May a0 = some q :=
 Sof_of (Q := q_names_May) (N := N) (n := 3) (f := 92) (tin := i_names_May) (tout := o_names_May) (d := (a0, ())) (all1 k_names_first (all1 k_names_other all0)) bs_ok (by kernel_rfl) (by kernel_rfl) (by kernel_rfl) (Eq.trans (b := M_names_May N a0) (by kernel_rfl) h)

noncomputable def M_fnc_reader_ask (N : Nat) (l_0 : LB) (b_1 : Bool) (l_2 : LI) (l_3 : LI) (l_4 : LI) (l_5 : LI) (l_6 : LI) (l_7 : LN) (l_8 : LI) (l_9 : LS) (x_10 : UInt8) (n_11 : Int) (l_12 : LB) (b_13 : Bool) (n_14 : Int) (b_15 : Bool) (n_16 : Int) : Option (LB × (Bool × (LI × (LI × (LI × (LI × (LI × (LN × (LI × (LS × (UInt8 × (Int × (LB × (Bool × (Int × Unit))))))))))))))) :=
 cnd (notB b_15)
  (dY l_12 <| fun l1 =>
  bnd (S_cursor_Cursor_Fail l1 b_13 n_14 n_16) <| fun p2 =>
  dI l_2 <| fun l3 =>
  dI l_3 <| fun l4 =>
  dI l_4 <| fun l5 =>
  dI l_5 <| fun l6 =>
  dI l_6 <| fun l7 =>
  dN l_7 <| fun l8 =>
  dI l_8 <| fun l9 =>
  dS l_9 <| fun l10 =>
  chk (inU8 (u8I x_10)) <|
  dY p2.1 <| fun l11 =>
  some (l_0, (b_1, (l3, (l4, (l5, (l6, (l7, (l8, (l9, (l10, ((toU8 (u8I x_10)), (n_11, (l11, (p2.2.1, (p2.2.2.1, ()))))))))))))))))
  (dI l_2 <| fun l12 =>
  dI l_3 <| fun l13 =>
  dI l_4 <| fun l14 =>
  dI l_5 <| fun l15 =>
  dI l_6 <| fun l16 =>
  dN l_7 <| fun l17 =>
  dI l_8 <| fun l18 =>
  dS l_9 <| fun l19 =>
  chk (inU8 (u8I x_10)) <|
  dY l_12 <| fun l20 =>
  some (l_0, (b_1, (l12, (l13, (l14, (l15, (l16, (l17, (l18, (l19, ((toU8 (u8I x_10)), (n_11, (l20, (b_13, (n_14, ()))))))))))))))))
noncomputable def q_fnc_reader_ask : Lift := ⟨tyX, look2 .todo (α := LoopAs) (.o), [c_cursor_Cursor_Fail], bsX⟩
theorem u_fnc_reader_ask {N : Nat} {a0 : LB} {a1 : Bool} {a2 : LI} {a3 : LI} {a4 : LI} {a5 : LI} {a6 : LI} {a7 : LN} {a8 : LI} {a9 : LS} {a10 : UInt8} {a11 : Int} {a12 : LB} {a13 : Bool} {a14 : Int} {a15 : Bool} {a16 : Int} {q : (LB × (Bool × (LI × (LI × (LI × (LI × (LI × (LN × (LI × (LS × (UInt8 × (Int × (LB × (Bool × (Int × Unit)))))))))))))))} (h : M_fnc_reader_ask N a0 a1 a2 a3 a4 a5 a6 a7 a8 a9 a10 a11 a12 a13 a14 a15 a16 = some q) : S_fnc_reader_ask a0 a1 a2 a3 a4 a5 a6 a7 a8 a9 a10 a11 a12 a13 a14 a15 a16 = some q :=
 Sof_of (Q := q_fnc_reader_ask) (N := N) (n := 3) (f := 91) (tin := i_fnc_reader_ask) (tout := o_fnc_reader_ask) (d := (a0, (a1, (a2, (a3, (a4, (a5, (a6, (a7, (a8, (a9, (a10, (a11, (a12, (a13, (a14, (a15, (a16, ())))))))))))))))))) (all1 k_cursor_Cursor_Fail all0) bs_ok (by kernel_rfl) (by kernel_rfl) (by kernel_rfl) (Eq.trans (b := M_fnc_reader_ask N a0 a1 a2 a3 a4 a5 a6 a7 a8 a9 a10 a11 a12 a13 a14 a15 a16) (by kernel_rfl) h)

noncomputable def M_cursor_Cursor_Byte (N : Nat) (l_0 : LB) (b_1 : Bool) (n_2 : Int) : Option (LB × (Bool × (Int × (UInt8 × Unit)))) :=
 dY l_0 <| fun l1 =>
 bnd (S_cursor_Cursor_Err l1 b_1 n_2) <| fun p2 =>
 cnd (notB (eqI p2.2.2.2.1 0))
  (dY p2.1 <| fun l3 =>
  some (l3, (p2.2.1, (p2.2.2.1, ((toU8 0), ())))))
  (cnd (eqI (vlen (eY p2.1)) 0)
   (dY p2.1 <| fun l4 =>
   bnd (S_cursor_Cursor_Fail l4 p2.2.1 p2.2.2.1 3) <| fun p5 =>
   dY p5.1 <| fun l6 =>
   some (l6, (p5.2.1, (p5.2.2.1, ((toU8 0), ())))))
   (chk (leI 1 (vlen (eY p2.1))) <|
   chk (leI 1 (vlen (eY p2.1))) <|
   chk (leI (vlen (eY p2.1)) (vlen (eY p2.1))) <|
   getE tY (vcut (eY p2.1) 0 1) 0 <| fun x7 =>
   decL tY (vcut (eY p2.1) 1 (subN (vlen (eY p2.1)) 1)) <| fun l8 =>
   chk (inU8 (wrp .u8 (wrp .u64 (u8I x7)))) <|
   some (l8, (p2.2.1, (p2.2.2.1, ((toU8 (wrp .u8 (wrp .u64 (u8I x7)))), ()))))))
noncomputable def q_cursor_Cursor_Byte : Lift := ⟨tyX, look2 .todo (α := LoopAs) (.o), [c_cursor_Cursor_Err, c_cursor_Cursor_Fail], bsX⟩
theorem u_cursor_Cursor_Byte {N : Nat} {a0 : LB} {a1 : Bool} {a2 : Int} {q : (LB × (Bool × (Int × (UInt8 × Unit))))} (h : M_cursor_Cursor_Byte N a0 a1 a2 = some q) : S_cursor_Cursor_Byte a0 a1 a2 = some q :=
 Sof_of (Q := q_cursor_Cursor_Byte) (N := N) (n := 3) (f := 93) (tin := i_cursor_Cursor_Byte) (tout := o_cursor_Cursor_Byte) (d := (a0, (a1, (a2, ())))) (all1 k_cursor_Cursor_Err (all1 k_cursor_Cursor_Fail all0)) bs_ok (by kernel_rfl) (by kernel_rfl) (by kernel_rfl) (Eq.trans (b := M_cursor_Cursor_Byte N a0 a1 a2) (by kernel_rfl) h)

noncomputable def M_sig_May (N : Nat) (n_0 : Int) : Option (Bool × Unit) :=
 cnd (eqI n_0 1)
  (some (true, ()))
  (some ((eqI n_0 2), ()))
noncomputable def q_sig_May : Lift := ⟨tyX, look2 .todo (α := LoopAs) (.o), [], bsX⟩
theorem u_sig_May {N : Nat} {a0 : Int} {q : (Bool × Unit)} (h : M_sig_May N a0 = some q) : S_sig_May a0 = some q :=
 Sof_of (Q := q_sig_May) (N := N) (n := 3) (f := 141) (tin := i_sig_May) (tout := o_sig_May) (d := (a0, ())) all0 bs_ok (by kernel_rfl) (by kernel_rfl) (by kernel_rfl) (Eq.trans (b := M_sig_May N a0) (by kernel_rfl) h)
end Go.Proofs.YtkdnbnkbnegckaaGreat
