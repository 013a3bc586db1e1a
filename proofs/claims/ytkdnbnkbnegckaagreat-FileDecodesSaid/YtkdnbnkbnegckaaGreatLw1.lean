/- Functions, lifted: what the program comes to by them. -/
import Derived.Test.YtkdnbnkbnegckaaGreatLwA
namespace Go.Proofs.YtkdnbnkbnegckaaGreat
open Go.RowKit
set_option maxRecDepth 100000
set_option linter.unusedVariables false
noncomputable def M_cursor_New (N : Nat) (l_0 : LB) : Option (LB × (Bool × (Int × Unit))) :=
 dY l_0 <| fun l1 =>
 bnd (S_slices_Clone_byte_byte l1) <| fun p2 =>
 dY p2.1 <| fun l3 =>
 some (l3, (true, (0, ())))
noncomputable def q_cursor_New : Lift := ⟨tyX, look2 .todo (α := LoopAs) (.o), [c_slices_Clone_byte_byte], bsX⟩
theorem u_cursor_New {N : Nat} {a0 : LB} {q : (LB × (Bool × (Int × Unit)))} (h : M_cursor_New N a0 = some q) : S_cursor_New a0 = some q :=
 Sof_of (Q := q_cursor_New) (N := N) (n := 3) (f := 10) (tin := i_cursor_New) (tout := o_cursor_New) (d := (a0, ())) (all1 k_slices_Clone_byte_byte all0) bs_ok (by kernel_rfl) (by kernel_rfl) (by kernel_rfl) (Eq.trans (b := M_cursor_New N a0) (by kernel_rfl) h)

noncomputable def M_ref01_Get (N : Nat) (l_0 : LB) : Option (Int × (Int × (Int × Unit))) :=
 qS (eY l_0) <|
 iter (fun (d1 : (Int × (Int × (Int × Unit)))) again2 =>
  cnd (ltI d1.2.2.1 (vlen (eY l_0)))
   (joinK (δ := (Bool × Unit)) (cnd (eqI d1.2.2.1 9)
     (chk (leI 0 d1.2.2.1) <|
     getE tY (eY l_0) (natI d1.2.2.1) <| fun x3 =>
     qS (eY l_0) <|
     qI d1.1 <|
     qI d1.2.1 <|
     qI d1.2.2.1 <|
     leftK ((ltI 1 (u8I x3)), ()))
     (qS (eY l_0) <|
     qI d1.1 <|
     qI d1.2.1 <|
     qI d1.2.2.1 <|
     leftK (false, ())))
   <| fun p4 =>
   cnd p4.1
    (some (0, (0, (5, ()))))
    (chk (leI 0 d1.2.2.1) <|
    getE tY (eY l_0) (natI d1.2.2.1) <| fun x5 =>
    chk (leI 0 d1.2.2.1) <|
    getE tY (eY l_0) (natI d1.2.2.1) <| fun x6 =>
    cnd (ltI (u8I x6) 128)
     (joinK (δ := (Bool × Unit)) (chk (leI 0 d1.2.2.1) <|
      getE tY (eY l_0) (natI d1.2.2.1) <| fun x7 =>
      cnd (eqI (u8I x7) 0)
       (qI (wrp .u64 (addI d1.1 (wrp .u64 (mulI (wrp .u64 (remI (u8I x5) 128)) d1.2.1)))) <|
       qI d1.2.2.1 <|
       leftK ((ltI 0 d1.2.2.1), ()))
       (qI (wrp .u64 (addI d1.1 (wrp .u64 (mulI (wrp .u64 (remI (u8I x5) 128)) d1.2.1)))) <|
       qI d1.2.2.1 <|
       leftK (false, ())))
     <| fun p8 =>
     cnd p8.1
      (some (0, (0, (4, ()))))
      (some ((wrp .u64 (addI d1.1 (wrp .u64 (mulI (wrp .u64 (remI (u8I x5) 128)) d1.2.1)))), ((wrp .i64 (addI d1.2.2.1 1)), (0, ())))))
     (qS (eY l_0) <|
     again2 ((wrp .u64 (addI d1.1 (wrp .u64 (mulI (wrp .u64 (remI (u8I x5) 128)) d1.2.1)))), ((wrp .u64 (mulI d1.2.1 128)), ((wrp .i64 (addI d1.2.2.1 1)), ()))))))
   (some (0, (0, (3, ()))))) N (0, (1, (0, ())))
noncomputable def q_ref01_Get : Lift := ⟨tyX, look2 .todo (α := LoopAs) (.n 132 [(4, (.as ⟨[], [], (.one, [.fix]) :: rp 4 (.one, [.junk]) ((.one, [.hole tW]) :: (.one, [.hole tW]) :: (.one, [.hole tI]) :: rp 44 (.one, [.junk]) ([]))⟩)), (1028680, (.as ⟨[], [], (.one, [.fix]) :: rp 4 (.one, [.junk]) ((.one, [.fix]) :: (.one, [.fix]) :: (.one, [.fix]) :: rp 14 (.one, [.junk]) ((.one, [.hole .bool]) :: rp 29 (.one, [.junk]) ([])))⟩)), (1049165, (.as ⟨[], [], rp 5 (.one, [.junk]) ((.one, [.fix]) :: (.one, [.junk]) :: (.one, [.fix]) :: rp 40 (.one, [.junk]) ((.one, [.hole .bool]) :: (.one, [.junk]) :: (.one, [.junk]) :: (.one, [.junk]) :: []))⟩))] .o .o), [], bsX⟩
theorem u_ref01_Get {N : Nat} {a0 : LB} {q : (Int × (Int × (Int × Unit)))} (h : M_ref01_Get N a0 = some q) : S_ref01_Get a0 = some q :=
 Sof_of (Q := q_ref01_Get) (N := N) (n := 3) (f := 132) (tin := i_ref01_Get) (tout := o_ref01_Get) (d := (a0, ())) all0 bs_ok (by kernel_rfl) (by kernel_rfl) (by kernel_rfl) (Eq.trans (b := M_ref01_Get N a0) (by kernel_rfl) h)

noncomputable def M_ref02_fail (N : Nat) (l_0 : LB) (n_1 : Int) (n_2 : Int) : Option (LB × (Int × Unit)) :=
 cnd (eqI n_1 0)
  (dY l_0 <| fun l1 =>
  some (l1, (n_2, ())))
  (dY l_0 <| fun l2 =>
  some (l2, (n_1, ())))
noncomputable def q_ref02_fail : Lift := ⟨tyX, look2 .todo (α := LoopAs) (.o), [], bsX⟩
theorem u_ref02_fail {N : Nat} {a0 : LB} {a1 : Int} {a2 : Int} {q : (LB × (Int × Unit))} (h : M_ref02_fail N a0 a1 a2 = some q) : S_ref02_fail a0 a1 a2 = some q :=
 Sof_of (Q := q_ref02_fail) (N := N) (n := 3) (f := 83) (tin := i_ref02_fail) (tout := o_ref02_fail) (d := (a0, (a1, (a2, ())))) all0 bs_ok (by kernel_rfl) (by kernel_rfl) (by kernel_rfl) (Eq.trans (b := M_ref02_fail N a0 a1 a2) (by kernel_rfl) h)

noncomputable def M_ref02_Bits (N : Nat) (l_0 : LB) (n_1 : Int) : Option (Int × (LB × (Int × Unit))) :=
 cnd (notB (eqI n_1 0))
  (dY l_0 <| fun l1 =>
  some (0, (l1, (n_1, ()))))
  (dY l_0 <| fun l2 =>
  bnd (S_ref01_Get l2) <| fun p3 =>
  cnd (notB (eqI p3.2.2.1 0))
   (dY l_0 <| fun l4 =>
   bnd (S_ref02_fail l4 n_1 p3.2.2.1) <| fun p5 =>
   dY p5.1 <| fun l6 =>
   some (0, (l6, (p5.2.1, ()))))
   (chk (leI 0 p3.2.1) <|
   chk (leI p3.2.1 (vlen (eY l_0))) <|
   chk (leI (vlen (eY l_0)) (vlen (eY l_0))) <|
   decL tY (vcut (eY l_0) (natI p3.2.1) (subN (vlen (eY l_0)) p3.2.1)) <| fun l7 =>
   some (p3.1, (l7, (0, ())))))
noncomputable def q_ref02_Bits : Lift := ⟨tyX, look2 .todo (α := LoopAs) (.o), [c_ref01_Get, c_ref02_fail], bsX⟩
theorem u_ref02_Bits {N : Nat} {a0 : LB} {a1 : Int} {q : (Int × (LB × (Int × Unit)))} (h : M_ref02_Bits N a0 a1 = some q) : S_ref02_Bits a0 a1 = some q :=
 Sof_of (Q := q_ref02_Bits) (N := N) (n := 3) (f := 84) (tin := i_ref02_Bits) (tout := o_ref02_Bits) (d := (a0, (a1, ()))) (all1 k_ref01_Get (all1 k_ref02_fail all0)) bs_ok (by kernel_rfl) (by kernel_rfl) (by kernel_rfl) (Eq.trans (b := M_ref02_Bits N a0 a1) (by kernel_rfl) h)

noncomputable def M_ref02_Num (N : Nat) (l_0 : LB) (n_1 : Int) (n_2 : Int) : Option (Int × (LB × (Int × Unit))) :=
 dY l_0 <| fun l1 =>
 bnd (S_ref02_Bits l1 n_1) <| fun p2 =>
 joinK (δ := (Bool × Unit)) (cnd (eqI p2.2.2.1 0)
   (cnd (ltI n_2 0)
    (qS (eY l_0) <|
    qI n_1 <|
    qS (eY p2.2.1) <|
    qI p2.2.2.1 <|
    qI p2.1 <|
    leftK (true, ()))
    (qS (eY l_0) <|
    qI n_1 <|
    qS (eY p2.2.1) <|
    qI p2.2.2.1 <|
    qI p2.1 <|
    leftK ((ltI (wrp .u64 n_2) p2.1), ())))
   (qS (eY l_0) <|
   qI n_1 <|
   qS (eY p2.2.1) <|
   qI p2.2.2.1 <|
   qI p2.1 <|
   leftK (false, ())))
 <| fun p3 =>
 cnd p3.1
  (dY l_0 <| fun l4 =>
  bnd (S_ref02_fail l4 n_1 6) <| fun p5 =>
  dY p5.1 <| fun l6 =>
  some (0, (l6, (p5.2.1, ()))))
  (dY p2.2.1 <| fun l7 =>
  some ((wrp .i64 p2.1), (l7, (p2.2.2.1, ()))))
noncomputable def q_ref02_Num : Lift := ⟨tyX, look2 .todo (α := LoopAs) (.n 39 [(1012292, (.as ⟨[], [[.fix, .fix], [.stat (.c (.v (.slice none 0 0))), .fix], [.fix, .fix]], (.one, [.junk]) :: (.one, [.junk]) :: (.one, [.stat (.ptr 0 0)]) :: (.one, [.junk]) :: (.one, [.junk]) :: (.one, [.stat (.ptr 1 0)]) :: (.one, [.fix]) :: (.one, [.stat (.ptr 2 0)]) :: rp 17 (.one, [.junk]) ((.one, [.hole .bool]) :: rp 5 (.one, [.junk]) ([]))⟩))] .o .o), [c_ref02_fail, c_ref02_Bits], bsX⟩
theorem u_ref02_Num {N : Nat} {a0 : LB} {a1 : Int} {a2 : Int} {q : (Int × (LB × (Int × Unit)))} (h : M_ref02_Num N a0 a1 a2 = some q) : S_ref02_Num a0 a1 a2 = some q :=
 Sof_of (Q := q_ref02_Num) (N := N) (n := 3) (f := 39) (tin := i_ref02_Num) (tout := o_ref02_Num) (d := (a0, (a1, (a2, ())))) (all1 k_ref02_fail (all1 k_ref02_Bits all0)) bs_ok (by kernel_rfl) (by kernel_rfl) (by kernel_rfl) (Eq.trans (b := M_ref02_Num N a0 a1 a2) (by kernel_rfl) h)

noncomputable def M_ref02_Text (N : Nat) (l_0 : LB) (n_1 : Int) (n_2 : Int) : Option (LB × (LB × (Int × Unit))) :=
 dY l_0 <| fun l1 =>
 bnd (S_ref02_Num l1 n_1 n_2) <| fun p2 =>
 cnd (notB (eqI p2.2.2.1 0))
  (dY p2.2.1 <| fun l3 =>
  some ([], (l3, (p2.2.2.1, ()))))
  (cnd (ltI (vlen (eY p2.2.1)) p2.1)
   (dY p2.2.1 <| fun l4 =>
   bnd (S_ref02_fail l4 p2.2.2.1 3) <| fun p5 =>
   dY p5.1 <| fun l6 =>
   some ([], (l6, (p5.2.1, ()))))
   (chk (leI 0 p2.1) <|
   chk (leI p2.1 (vlen (eY p2.2.1))) <|
   strK (vcut (eY p2.2.1) 0 (subN p2.1 0)) <| fun x7 =>
   chk (leI 0 p2.1) <|
   chk (leI p2.1 (vlen (eY p2.2.1))) <|
   chk (leI (vlen (eY p2.2.1)) (vlen (eY p2.2.1))) <|
   decL tY (vcut (eY p2.2.1) (natI p2.1) (subN (vlen (eY p2.2.1)) p2.1)) <| fun l8 =>
   some (x7.1.1, (l8, (0, ())))))
noncomputable def q_ref02_Text : Lift := ⟨tyX, look2 .todo (α := LoopAs) (.o), [c_ref02_fail, c_ref02_Num], bsX⟩
theorem u_ref02_Text {N : Nat} {a0 : LB} {a1 : Int} {a2 : Int} {q : (LB × (LB × (Int × Unit)))} (h : M_ref02_Text N a0 a1 a2 = some q) : S_ref02_Text a0 a1 a2 = some q :=
 Sof_of (Q := q_ref02_Text) (N := N) (n := 3) (f := 34) (tin := i_ref02_Text) (tout := o_ref02_Text) (d := (a0, (a1, (a2, ())))) (all1 k_ref02_fail (all1 k_ref02_Num all0)) bs_ok (by kernel_rfl) (by kernel_rfl) (by kernel_rfl) (Eq.trans (b := M_ref02_Text N a0 a1 a2) (by kernel_rfl) h)

noncomputable def M_ref05_May (N : Nat) (l_0 : LB) : Option (Bool × Unit) :=
 qB (ByteArray.mk (Array.mk l_0)) <|
 iter (fun (d1 : (Int × Unit)) again2 =>
  cnd (ltI d1.1 (slen (ByteArray.mk (Array.mk l_0))))
   (joinK (δ := Unit) (chk (leI 0 d1.1) <|
    getS (ByteArray.mk (Array.mk l_0)) (natI d1.1) <| fun x3 =>
    cnd (ltI (u8I x3) 97)
     (cnd (eqI d1.1 0)
      (rightK <| some (false, ()))
      (cnd (ltI (u8I x3) 48)
       (cnd (notB (eqI (u8I x3) 95))
        (rightK <| some (false, ()))
        (qB (ByteArray.mk (Array.mk l_0)) <|
        qI d1.1 <|
        leftK ()))
       (cnd (ltI 57 (u8I x3))
        (cnd (notB (eqI (u8I x3) 95))
         (rightK <| some (false, ()))
         (qB (ByteArray.mk (Array.mk l_0)) <|
         qI d1.1 <|
         leftK ()))
        (qB (ByteArray.mk (Array.mk l_0)) <|
        qI d1.1 <|
        leftK ()))))
     (cnd (ltI 122 (u8I x3))
      (cnd (eqI d1.1 0)
       (rightK <| some (false, ()))
       (cnd (ltI (u8I x3) 48)
        (cnd (notB (eqI (u8I x3) 95))
         (rightK <| some (false, ()))
         (qB (ByteArray.mk (Array.mk l_0)) <|
         qI d1.1 <|
         leftK ()))
        (cnd (ltI 57 (u8I x3))
         (cnd (notB (eqI (u8I x3) 95))
          (rightK <| some (false, ()))
          (qB (ByteArray.mk (Array.mk l_0)) <|
          qI d1.1 <|
          leftK ()))
         (qB (ByteArray.mk (Array.mk l_0)) <|
         qI d1.1 <|
         leftK ()))))
      (qB (ByteArray.mk (Array.mk l_0)) <|
      qI d1.1 <|
      leftK ())))
   <| fun x4 =>
   qB (ByteArray.mk (Array.mk l_0)) <|
   again2 ((wrp .i64 (addI d1.1 1)), ()))
   (cnd (leI 1 (slen (ByteArray.mk (Array.mk l_0))))
    (some ((leI (slen (ByteArray.mk (Array.mk l_0))) 12), ()))
    (some (false, ())))) N (0, ())
noncomputable def q_ref05_May : Lift := ⟨tyX, look2 .todo (α := LoopAs) (.n 35 [(2, (.as ⟨[], [], (.one, [.fix]) :: (.one, [.junk]) :: (.one, [.junk]) :: (.one, [.hole tI]) :: rp 40 (.one, [.junk]) ([])⟩)), (1028676, (.as ⟨[], [], (.one, [.fix]) :: (.one, [.junk]) :: (.one, [.junk]) :: (.one, [.fix]) :: rp 40 (.one, [.junk]) ([])⟩))] .o .o), [], bsX⟩
theorem u_ref05_May {N : Nat} {a0 : LB} {q : (Bool × Unit)} (h : M_ref05_May N a0 = some q) : S_ref05_May a0 = some q :=
 Sof_of (Q := q_ref05_May) (N := N) (n := 3) (f := 35) (tin := i_ref05_May) (tout := o_ref05_May) (d := (a0, ())) all0 bs_ok (by kernel_rfl) (by kernel_rfl) (by kernel_rfl) (Eq.trans (b := M_ref05_May N a0) (by kernel_rfl) h)

noncomputable def M_ref02_Fail (N : Nat) (l_0 : LB) (n_1 : Int) (n_2 : Int) : Option (LB × (Int × Unit)) :=
 dY l_0 <| fun l1 =>
 bnd (S_ref02_fail l1 n_1 n_2) <| fun p2 =>
 dY p2.1 <| fun l3 =>
 some (l3, (p2.2.1, ()))
noncomputable def q_ref02_Fail : Lift := ⟨tyX, look2 .todo (α := LoopAs) (.o), [c_ref02_fail], bsX⟩
theorem u_ref02_Fail {N : Nat} {a0 : LB} {a1 : Int} {a2 : Int} {q : (LB × (Int × Unit))} (h : M_ref02_Fail N a0 a1 a2 = some q) : S_ref02_Fail a0 a1 a2 = some q :=
 Sof_of (Q := q_ref02_Fail) (N := N) (n := 3) (f := 36) (tin := i_ref02_Fail) (tout := o_ref02_Fail) (d := (a0, (a1, (a2, ())))) (all1 k_ref02_fail all0) bs_ok (by kernel_rfl) (by kernel_rfl) (by kernel_rfl) (Eq.trans (b := M_ref02_Fail N a0 a1 a2) (by kernel_rfl) h)

noncomputable def M_ref02_Byte (N : Nat) (l_0 : LB) (n_1 : Int) : Option (UInt8 × (LB × (Int × Unit))) :=
 cnd (notB (eqI n_1 0))
  (dY l_0 <| fun l1 =>
  some ((toU8 0), (l1, (n_1, ()))))
  (cnd (eqI (vlen (eY l_0)) 0)
   (dY l_0 <| fun l2 =>
   bnd (S_ref02_fail l2 n_1 3) <| fun p3 =>
   dY p3.1 <| fun l4 =>
   some ((toU8 0), (l4, (p3.2.1, ()))))
   (getE tY (eY l_0) 0 <| fun x5 =>
   chk (leI 1 (vlen (eY l_0))) <|
   chk (leI (vlen (eY l_0)) (vlen (eY l_0))) <|
   chk (inU8 (u8I x5)) <|
   decL tY (vcut (eY l_0) 1 (subN (vlen (eY l_0)) 1)) <| fun l6 =>
   some ((toU8 (u8I x5)), (l6, (0, ())))))
noncomputable def q_ref02_Byte : Lift := ⟨tyX, look2 .todo (α := LoopAs) (.o), [c_ref02_fail], bsX⟩
theorem u_ref02_Byte {N : Nat} {a0 : LB} {a1 : Int} {q : (UInt8 × (LB × (Int × Unit)))} (h : M_ref02_Byte N a0 a1 = some q) : S_ref02_Byte a0 a1 = some q :=
 Sof_of (Q := q_ref02_Byte) (N := N) (n := 3) (f := 37) (tin := i_ref02_Byte) (tout := o_ref02_Byte) (d := (a0, (a1, ()))) (all1 k_ref02_fail all0) bs_ok (by kernel_rfl) (by kernel_rfl) (by kernel_rfl) (Eq.trans (b := M_ref02_Byte N a0 a1) (by kernel_rfl) h)

noncomputable def M_ref11_Take (N : Nat) (l_0 : LB) (n_1 : Int) (n_2 : Int) : Option (LI × (LB × (Int × Unit))) :=
 dY l_0 <| fun l1 =>
 bnd (S_ref02_Num l1 n_1 n_2) <| fun p2 =>
 joinK (δ := (LI × (LB × (Int × (Int × Unit))))) (decL tI [] <| fun l3 =>
  dY p2.2.1 <| fun l4 =>
  qI p2.1 <|
  iter (fun (d5 : (LI × (LB × (Int × (Int × (Int × Unit)))))) again6 =>
   joinK (δ := (LI × Unit)) (cnd (ltI d5.2.2.2.2.1 p2.1)
     (cnd (eqI d5.2.2.1 0)
      (dI d5.1 <| fun l7 =>
      qS (eY d5.2.1) <|
      qI d5.2.2.1 <|
      qI d5.2.2.2.1 <|
      qI p2.1 <|
      qN (vnum (eI d5.1)) <|
      qI d5.2.2.2.2.1 <|
      leftK (l7, ()))
      (rightK <| dI d5.1 <| fun l8 =>
      dY d5.2.1 <| fun l9 =>
      qN (vnum (eI d5.1)) <|
      leftK (l8, (l9, (d5.2.2.1, (d5.2.2.2.1, ()))))))
     (rightK <| dI d5.1 <| fun l10 =>
     dY d5.2.1 <| fun l11 =>
     qN (vnum (eI d5.1)) <|
     leftK (l10, (l11, (d5.2.2.1, (d5.2.2.2.1, ()))))))
   <| fun p12 =>
   dY d5.2.1 <| fun l13 =>
   bnd (S_ref02_Byte l13 d5.2.2.1) <| fun p14 =>
   joinK (δ := (LI × (LB × (Int × (Int × Unit))))) (joinK (δ := (LI × (Bool × Unit))) (cnd (eqI p14.2.2.1 0)
      (cnd (notB (eqI (u8I p14.1) 1))
       (dI p12.1 <| fun l15 =>
       qS (eY p14.2.1) <|
       qI p14.2.2.1 <|
       qI d5.2.2.2.1 <|
       qI p2.1 <|
       qN (vnum (eI p12.1)) <|
       qI d5.2.2.2.2.1 <|
       qI (u8I p14.1) <|
       leftK (l15, ((notB (eqI (u8I p14.1) 2)), ())))
       (dI p12.1 <| fun l16 =>
       qS (eY p14.2.1) <|
       qI p14.2.2.1 <|
       qI d5.2.2.2.1 <|
       qI p2.1 <|
       qN (vnum (eI p12.1)) <|
       qI d5.2.2.2.2.1 <|
       qI (u8I p14.1) <|
       leftK (l16, (false, ()))))
      (dI p12.1 <| fun l17 =>
      qS (eY p14.2.1) <|
      qI p14.2.2.1 <|
      qI d5.2.2.2.1 <|
      qI p2.1 <|
      qN (vnum (eI p12.1)) <|
      qI d5.2.2.2.2.1 <|
      qI (u8I p14.1) <|
      leftK (l17, (false, ()))))
    <| fun p18 =>
    cnd p18.2.1
     (dY p14.2.1 <| fun l19 =>
     bnd (S_ref02_Fail l19 p14.2.2.1 9) <| fun p20 =>
     dI p18.1 <| fun l21 =>
     dY p20.1 <| fun l22 =>
     qI p2.1 <|
     qN (vnum (eI p18.1)) <|
     qI d5.2.2.2.2.1 <|
     qI (u8I p14.1) <|
     leftK (l21, (l22, (p20.2.1, (d5.2.2.2.1, ())))))
     (dI p18.1 <| fun l23 =>
     dY p14.2.1 <| fun l24 =>
     qI p2.1 <|
     qN (vnum (eI p18.1)) <|
     qI d5.2.2.2.2.1 <|
     qI (u8I p14.1) <|
     leftK (l23, (l24, (p14.2.2.1, (d5.2.2.2.1, ()))))))
   <| fun p25 =>
   qN (vnum (eI p25.1)) <|
   chk (room (vnum (eI p25.1)) (vnum (vcut [[(C.v (Go.Value.int .i64 (wrp .i64 (u8I p14.1))))]] 0 1)) 8) <|
   decL tI (vapp (eI p25.1) (vcut [[(C.v (Go.Value.int .i64 (wrp .i64 (u8I p14.1))))]] 0 1)) <| fun l26 =>
   dY p25.2.1 <| fun l27 =>
   qI p2.1 <|
   chk (eqN (addN (vnum (eI p25.1)) (vnum (vcut [[(C.v (Go.Value.int .i64 (wrp .i64 (u8I p14.1))))]] 0 1))) (vnum (vapp (eI p25.1) (vcut [[(C.v (Go.Value.int .i64 (wrp .i64 (u8I p14.1))))]] 0 1)))) <|
   again6 (l26, (l27, (p25.2.2.1, (p25.2.2.2.1, ((wrp .i64 (addI d5.2.2.2.2.1 1)), ())))))) N (l3, (l4, (p2.2.2.1, (0, (0, ()))))))
 <| fun p28 =>
 cnd (notB (eqI p28.2.2.1 0))
  (decL tI [] <| fun l29 =>
  dY p28.2.1 <| fun l30 =>
  some (l29, (l30, (p28.2.2.1, ()))))
  (chk (leN (addN 0 (vnum (eI p28.1))) (vnum (eI p28.1))) <|
  decL tI (vcut (eI p28.1) 0 (vnum (eI p28.1))) <| fun l31 =>
  dY p28.2.1 <| fun l32 =>
  some (l31, (l32, (p28.2.2.1, ()))))
noncomputable def q_ref11_Take : Lift := ⟨tyX, look2 .todo (α := LoopAs) (.n 38 [(4, (.as ⟨[.mu 110 1 tI], [[.hole (.sl 1 tY), .hole tI], [.stat (.c (.v (.slice none 0 0))), .hole tI]], (.one, [.junk]) :: (.one, [.junk]) :: (.one, [.stat (.ptr 0 0)]) :: (.one, [.junk]) :: (.one, [.junk]) :: (.one, [.stat (.ptr 1 0)]) :: (.one, [.fix]) :: (.one, [.own 0]) :: (.one, [.hole tI]) :: rp 46 (.one, [.junk]) ([])⟩)), (1020487, (.as ⟨[.mu 110 1 tI], [[.fix, .fix], [.stat (.c (.v (.slice none 0 0))), .fix]], (.one, [.junk]) :: (.one, [.junk]) :: (.one, [.stat (.ptr 0 0)]) :: (.one, [.junk]) :: (.one, [.junk]) :: (.one, [.stat (.ptr 1 0)]) :: (.one, [.fix]) :: (.one, [.own 0]) :: (.one, [.fix]) :: rp 46 (.one, [.junk]) ([])⟩)), (1024588, (.as ⟨[.mu 110 1 tI], [[.hole (.sl 1 tY), .hole tI], [.stat (.c (.v (.slice none 0 0))), .hole tI]], (.one, [.junk]) :: (.one, [.junk]) :: (.one, [.stat (.ptr 0 0)]) :: (.one, [.junk]) :: (.one, [.junk]) :: (.one, [.stat (.ptr 1 0)]) :: (.one, [.junk]) :: (.one, [.own 0]) :: rp 47 (.one, [.junk]) ([])⟩)), (1036874, (.as ⟨[.mu 110 1 tI], [[.fix, .fix], [.stat (.c (.v (.slice none 0 0))), .fix]], (.one, [.junk]) :: (.one, [.junk]) :: (.one, [.stat (.ptr 0 0)]) :: (.one, [.junk]) :: (.one, [.junk]) :: (.one, [.stat (.ptr 1 0)]) :: (.one, [.fix]) :: (.one, [.own 0]) :: (.one, [.fix]) :: (.one, [.fix]) :: rp 31 (.one, [.junk]) ((.one, [.hole .bool]) :: rp 13 (.one, [.junk]) ([]))⟩)), (1040971, (.as ⟨[.mu 110 1 tI], [[.hole (.sl 1 tY), .hole tI], [.stat (.c (.v (.slice none 0 0))), .hole tI]], (.one, [.junk]) :: (.one, [.junk]) :: (.one, [.stat (.ptr 0 0)]) :: (.one, [.junk]) :: (.one, [.junk]) :: (.one, [.stat (.ptr 1 0)]) :: (.one, [.fix]) :: (.one, [.own 0]) :: (.one, [.fix]) :: (.one, [.fix]) :: rp 45 (.one, [.junk]) ([])⟩))] .o .o), [c_ref02_Num, c_ref02_Fail, c_ref02_Byte], bsX⟩
theorem u_ref11_Take {N : Nat} {a0 : LB} {a1 : Int} {a2 : Int} {q : (LI × (LB × (Int × Unit)))} (h : M_ref11_Take N a0 a1 a2 = some q) : S_ref11_Take a0 a1 a2 = some q :=
 Sof_of (Q := q_ref11_Take) (N := N) (n := 3) (f := 38) (tin := i_ref11_Take) (tout := o_ref11_Take) (d := (a0, (a1, (a2, ())))) (all1 k_ref02_Num (all1 k_ref02_Fail (all1 k_ref02_Byte all0))) bs_ok (by kernel_rfl) (by kernel_rfl) (by kernel_rfl) (Eq.trans (b := M_ref11_Take N a0 a1 a2) (by kernel_rfl) h)

noncomputable def M_ref09_Operand (N : Nat) (n_0 : Int) : Option (Int × Unit) :=
 cnd (eqI n_0 1)
  (some (1, ()))
  (joinK (δ := (Bool × Unit)) (cnd (eqI n_0 2)
    (qI n_0 <|
    leftK ((eqI n_0 2), ()))
    (qI n_0 <|
    leftK ((eqI n_0 3), ())))
  <| fun p1 =>
  cnd p1.1
   (some (2, ()))
   (joinK (δ := (Bool × Unit)) (cnd (eqI n_0 21)
     (qI n_0 <|
     leftK ((eqI n_0 21), ()))
     (qI n_0 <|
     leftK ((eqI n_0 22), ())))
   <| fun p2 =>
   cnd p2.1
    (some (3, ()))
    (joinK (δ := (Bool × Unit)) (cnd (eqI n_0 23)
      (qI n_0 <|
      leftK ((eqI n_0 23), ()))
      (qI n_0 <|
      leftK ((eqI n_0 24), ())))
    <| fun p3 =>
    cnd p3.1
     (some (4, ()))
     (joinK (δ := (Bool × Unit)) (cnd (eqI n_0 28)
       (qI n_0 <|
       leftK ((eqI n_0 28), ()))
       (qI n_0 <|
       leftK ((eqI n_0 29), ())))
     <| fun p4 =>
     cnd p4.1
      (some (5, ()))
      (cnd (eqI n_0 33)
       (cnd (eqI n_0 33)
        (some (6, ()))
        (some (0, ())))
       (cnd (eqI n_0 34)
        (some (6, ()))
        (some (0, ()))))))))
noncomputable def q_ref09_Operand : Lift := ⟨tyX, look2 .todo (α := LoopAs) (.n 85 [(1024583, (.as ⟨[], [], (.one, [.junk]) :: (.one, [.junk]) :: (.one, [.junk]) :: (.one, [.fix]) :: (.one, [.junk]) :: (.one, [.junk]) :: (.one, [.hole .bool]) :: rp 14 (.one, [.junk]) ([])⟩)), (1036874, (.as ⟨[], [], (.one, [.junk]) :: (.one, [.junk]) :: (.one, [.junk]) :: (.one, [.fix]) :: rp 5 (.one, [.junk]) ((.one, [.hole .bool]) :: rp 11 (.one, [.junk]) ([]))⟩)), (1049165, (.as ⟨[], [], (.one, [.junk]) :: (.one, [.junk]) :: (.one, [.junk]) :: (.one, [.fix]) :: rp 8 (.one, [.junk]) ((.one, [.hole .bool]) :: rp 8 (.one, [.junk]) ([]))⟩)), (1061456, (.as ⟨[], [], (.one, [.junk]) :: (.one, [.junk]) :: (.one, [.junk]) :: (.one, [.fix]) :: rp 11 (.one, [.junk]) ((.one, [.hole .bool]) :: rp 5 (.one, [.junk]) ([]))⟩))] .o .o), [], bsX⟩
theorem u_ref09_Operand {N : Nat} {a0 : Int} {q : (Int × Unit)} (h : M_ref09_Operand N a0 = some q) : S_ref09_Operand a0 = some q :=
 Sof_of (Q := q_ref09_Operand) (N := N) (n := 3) (f := 85) (tin := i_ref09_Operand) (tout := o_ref09_Operand) (d := (a0, ())) all0 bs_ok (by kernel_rfl) (by kernel_rfl) (by kernel_rfl) (Eq.trans (b := M_ref09_Operand N a0) (by kernel_rfl) h)

noncomputable def M_ref01_Unfold (N : Nat) (n_0 : Int) : Option (Int × Unit) :=
 cnd (eqI (remI n_0 2) 1)
  (some ((wrp .i64 (subI (wrp .i64 (negI (wrp .i64 (wrp .u64 (quoI n_0 2))))) 1)), ()))
  (some ((wrp .i64 (wrp .u64 (quoI n_0 2))), ()))
noncomputable def q_ref01_Unfold : Lift := ⟨tyX, look2 .todo (α := LoopAs) (.o), [], bsX⟩
theorem u_ref01_Unfold {N : Nat} {a0 : Int} {q : (Int × Unit)} (h : M_ref01_Unfold N a0 = some q) : S_ref01_Unfold a0 = some q :=
 Sof_of (Q := q_ref01_Unfold) (N := N) (n := 3) (f := 133) (tin := i_ref01_Unfold) (tout := o_ref01_Unfold) (d := (a0, ())) all0 bs_ok (by kernel_rfl) (by kernel_rfl) (by kernel_rfl) (Eq.trans (b := M_ref01_Unfold N a0) (by kernel_rfl) h)

noncomputable def M_ref02_Int (N : Nat) (l_0 : LB) (n_1 : Int) : Option (Int × (LB × (Int × Unit))) :=
 dY l_0 <| fun l1 =>
 bnd (S_ref02_Bits l1 n_1) <| fun p2 =>
 cnd (notB (eqI p2.2.2.1 0))
  (dY p2.2.1 <| fun l3 =>
  some (0, (l3, (p2.2.2.1, ()))))
  (bnd (S_ref01_Unfold p2.1) <| fun p4 =>
  dY p2.2.1 <| fun l5 =>
  some (p4.1, (l5, (p2.2.2.1, ()))))
noncomputable def q_ref02_Int : Lift := ⟨tyX, look2 .todo (α := LoopAs) (.o), [c_ref02_Bits, c_ref01_Unfold], bsX⟩
theorem u_ref02_Int {N : Nat} {a0 : LB} {a1 : Int} {q : (Int × (LB × (Int × Unit)))} (h : M_ref02_Int N a0 a1 = some q) : S_ref02_Int a0 a1 = some q :=
 Sof_of (Q := q_ref02_Int) (N := N) (n := 3) (f := 86) (tin := i_ref02_Int) (tout := o_ref02_Int) (d := (a0, (a1, ()))) (all1 k_ref02_Bits (all1 k_ref01_Unfold all0)) bs_ok (by kernel_rfl) (by kernel_rfl) (by kernel_rfl) (Eq.trans (b := M_ref02_Int N a0 a1) (by kernel_rfl) h)

noncomputable def M_ref10_most (N : Nat) (n_0 : Int) : Option (Int × Unit) :=
 cnd (eqI n_0 6)
  (some (119, ()))
  (cnd (eqI n_0 5)
   (some (3, ()))
   (cnd (eqI n_0 4)
    (some (39, ()))
    (cnd (eqI n_0 3)
     (some (1999, ()))
     (cnd (eqI n_0 2)
      (some (255, ()))
      (cnd (eqI n_0 1)
       (some (0, ()))
       (cnd (eqI n_0 0)
        (some (0, ()))
        (none)))))))
noncomputable def q_ref10_most : Lift := ⟨tyX, look2 .todo (α := LoopAs) (.o), [], bsX⟩
theorem u_ref10_most {N : Nat} {a0 : Int} {q : (Int × Unit)} (h : M_ref10_most N a0 = some q) : S_ref10_most a0 = some q :=
 Sof_of (Q := q_ref10_most) (N := N) (n := 3) (f := 114) (tin := i_ref10_most) (tout := o_ref10_most) (d := (a0, ())) all0 bs_ok (by kernel_rfl) (by kernel_rfl) (by kernel_rfl) (Eq.trans (b := M_ref10_most N a0) (by kernel_rfl) h)

noncomputable def M_ref10_Right (N : Nat) (n_0 : Int) (n_1 : Int) : Option (Bool × Unit) :=
 joinK (δ := Unit) (cnd (ltI n_0 0)
   (rightK <| some (false, ()))
   (cnd (leI 35 n_0)
    (rightK <| some (false, ()))
    (qI n_0 <|
    qI n_1 <|
    leftK ())))
 <| fun x1 =>
 bnd (S_ref09_Operand n_0) <| fun p2 =>
 cnd (eqI p2.1 1)
  (some (true, ()))
  (cnd (leI 0 n_1)
   (bnd (S_ref10_most p2.1) <| fun p3 =>
   some ((leI n_1 p3.1), ()))
   (some (false, ())))
noncomputable def q_ref10_Right : Lift := ⟨tyX, look2 .todo (α := LoopAs) (.n 57 [(1012292, (.as ⟨[], [[.fix, .fix]], (.one, [.junk]) :: (.one, [.stat (.ptr 0 0)]) :: rp 27 (.one, [.junk]) ([])⟩))] .o .o), [c_ref09_Operand, c_ref10_most], bsX⟩
theorem u_ref10_Right {N : Nat} {a0 : Int} {a1 : Int} {q : (Bool × Unit)} (h : M_ref10_Right N a0 a1 = some q) : S_ref10_Right a0 a1 = some q :=
 Sof_of (Q := q_ref10_Right) (N := N) (n := 3) (f := 57) (tin := i_ref10_Right) (tout := o_ref10_Right) (d := (a0, (a1, ()))) (all1 k_ref09_Operand (all1 k_ref10_most all0)) bs_ok (by kernel_rfl) (by kernel_rfl) (by kernel_rfl) (Eq.trans (b := M_ref10_Right N a0 a1) (by kernel_rfl) h)
end Go.Proofs.YtkdnbnkbnegckaaGreat
