/- Functions, lifted: what the program comes to by them. -/
import Derived.Test.YtkdnbnkbnegckaaGreatDoorAbA
namespace Go.Proofs.YtkdnbnkbnegckaaGreatDoor
open Go.RowKit
set_option maxRecDepth 100000
set_option linter.unusedVariables false
noncomputable def M_asm_words (N : Nat) (l_0 : LB) : Option ((List LB) × Unit) :=
 decL .str [[(C.v (Go.Value.string bA0))]] <| fun l1 =>
 qS (encS (ByteArray.mk (Array.mk l_0))) <|
 qI (vlen (encS (ByteArray.mk (Array.mk l_0)))) <|
 iter (fun (d2 : ((List LB) × (Int × Unit))) again3 =>
  cnd (ltI d2.2.1 (vlen (encS (ByteArray.mk (Array.mk l_0)))))
   (chk (leI 0 d2.2.1) <|
   getE tY (encS (ByteArray.mk (Array.mk l_0))) (natI d2.2.1) <| fun x4 =>
   cnd (eqI (wrp .i32 (u8I x4)) 32)
    (qN (vnum (encL .str d2.1)) <|
    chk (room (vnum (encL .str d2.1)) (vnum (vcut [[(C.v (Go.Value.string bA0))]] 0 1)) 16) <|
    decL .str (vapp (encL .str d2.1) (vcut [[(C.v (Go.Value.string bA0))]] 0 1)) <| fun l5 =>
    chk (eqN (addN (vnum (encL .str d2.1)) (vnum (vcut [[(C.v (Go.Value.string bA0))]] 0 1))) (vnum (vapp (encL .str d2.1) (vcut [[(C.v (Go.Value.string bA0))]] 0 1)))) <|
    qS (encS (ByteArray.mk (Array.mk l_0))) <|
    qI (vlen (encS (ByteArray.mk (Array.mk l_0)))) <|
    again3 (l5, ((wrp .i64 (addI d2.2.1 1)), ())))
    (chk (leN (addN 0 (vnum (encL .str d2.1))) (vnum (encL .str d2.1))) <|
    chk (leI 0 (wrp .i64 (subI (vlen (vcut (encL .str d2.1) 0 (vnum (encL .str d2.1)))) 1))) <|
    chk (ltI (wrp .i64 (subI (vlen (vcut (encL .str d2.1) 0 (vnum (encL .str d2.1)))) 1)) (Int.ofNat (vnum (encL .str d2.1)))) <|
    chk (leN (addN 0 (vnum (encL .str d2.1))) (vnum (encL .str d2.1))) <|
    getE .str (encL .str d2.1) (addN 0 (natI (wrp .i64 (subI (vlen (vcut (encL .str d2.1) 0 (vnum (encL .str d2.1)))) 1)))) <| fun l6 =>
    strK (vcut [[(C.v (Go.Value.int .u8 (u8I x4)))]] 0 1) <| fun x7 =>
    chk (leN (addN (vnum (encS (ByteArray.mk (Array.mk l6)))) (vnum (encS x7))) 9223372036854775807) <|
    chk (leI 0 (wrp .i64 (subI (vlen (vcut (encL .str d2.1) 0 (vnum (encL .str d2.1)))) 1))) <|
    chk (ltI (wrp .i64 (subI (vlen (vcut (encL .str d2.1) 0 (vnum (encL .str d2.1)))) 1)) (Int.ofNat (vnum (encL .str d2.1)))) <|
    chk (leN (addN 0 (vnum (encL .str d2.1))) (vnum (encL .str d2.1))) <|
    getE .str (encL .str d2.1) (addN 0 (natI (wrp .i64 (subI (vlen (vcut (encL .str d2.1) 0 (vnum (encL .str d2.1)))) 1)))) <| fun l8 =>
    decL .str (vset (encL .str d2.1) (addN 0 (natI (wrp .i64 (subI (vlen (vcut (encL .str d2.1) 0 (vnum (encL .str d2.1)))) 1)))) [(C.v (Go.Value.string (ByteArray.mk (Array.mk (lapp l6 x7.1.1)))))]) <| fun l9 =>
    chk (eqN (vnum (encL .str d2.1)) (vnum (vset (encL .str d2.1) (addN 0 (natI (wrp .i64 (subI (vlen (vcut (encL .str d2.1) 0 (vnum (encL .str d2.1)))) 1)))) [(C.v (Go.Value.string (ByteArray.mk (Array.mk (lapp l6 x7.1.1)))))]))) <|
    qS (encS (ByteArray.mk (Array.mk l_0))) <|
    qI (vlen (encS (ByteArray.mk (Array.mk l_0)))) <|
    again3 (l9, ((wrp .i64 (addI d2.2.1 1)), ()))))
   (chk (leN (addN 0 (vnum (encL .str d2.1))) (vnum (encL .str d2.1))) <|
   decL .str (vcut (encL .str d2.1) 0 (vnum (encL .str d2.1))) <| fun l10 =>
   some (l10, ()))) N (l1, (0, ()))
noncomputable def q_asm_words : Lift := ⟨tyX, look2 .todo (α := LoopAs) (.n 23 [(4, (.as ⟨[.mu 9 1 .str], [], (.one, [.junk]) :: (.one, [.junk]) :: (.one, [.junk]) :: (.one, [.own 0]) :: (.one, [.fix]) :: rp 4 (.one, [.junk]) ((.one, [.fix]) :: (.one, [.fix]) :: (.one, [.hole tI]) :: rp 23 (.one, [.junk]) ([]))⟩))] .o .o), [], bsX⟩
theorem u_asm_words {N : Nat} {a0 : LB} {q : ((List LB) × Unit)} (h : M_asm_words N a0 = some q) : S_asm_words a0 = some q :=
 Sof_of (Q := q_asm_words) (N := N) (n := 3) (f := 23) (tin := i_asm_words) (tout := o_asm_words) (d := (a0, ())) all0 bs_ok (by kernel_rfl) (by kernel_rfl) (by kernel_rfl) (Eq.trans (b := M_asm_words N a0) (by kernel_rfl) h)

noncomputable def M_ref11_Same (N : Nat) (l_0 : LI) (l_1 : LI) : Option (Bool × Unit) :=
 cnd (notB (eqI (vlen (eI l_0)) (vlen (eI l_1))))
  (some (false, ()))
  (qS (eI l_0) <|
  qS (eI l_1) <|
  iter (fun (d1 : (Int × Unit)) again2 =>
   cnd (ltI d1.1 (vlen (eI l_0)))
    (chk (leI 0 d1.1) <|
    getE tI (eI l_0) (natI d1.1) <| fun n3 =>
    chk (leI 0 d1.1) <|
    getE tI (eI l_1) (natI d1.1) <| fun n4 =>
    cnd (notB (eqI n3 n4))
     (some (false, ()))
     (qS (eI l_0) <|
     qS (eI l_1) <|
     again2 ((wrp .i64 (addI d1.1 1)), ())))
    (some (true, ()))) N (0, ()))
noncomputable def q_ref11_Same : Lift := ⟨tyX, look2 .todo (α := LoopAs) (.n 29 [(4, (.as ⟨[], [], (.one, [.fix]) :: (.one, [.fix]) :: (.one, [.junk]) :: (.one, [.junk]) :: (.one, [.junk]) :: (.one, [.hole tI]) :: rp 20 (.one, [.junk]) ([])⟩))] .o .o), [], bsX⟩
theorem u_ref11_Same {N : Nat} {a0 : LI} {a1 : LI} {q : (Bool × Unit)} (h : M_ref11_Same N a0 a1 = some q) : S_ref11_Same a0 a1 = some q :=
 Sof_of (Q := q_ref11_Same) (N := N) (n := 3) (f := 29) (tin := i_ref11_Same) (tout := o_ref11_Same) (d := (a0, (a1, ()))) all0 bs_ok (by kernel_rfl) (by kernel_rfl) (by kernel_rfl) (Eq.trans (b := M_ref11_Same N a0 a1) (by kernel_rfl) h)

noncomputable def M_ref15_Code (N : Nat) (l_0 : LC) (l_1 : LC) : Option (Bool × Unit) :=
 cnd (notB (eqI (vlen (eC l_0)) (vlen (eC l_1))))
  (some (false, ()))
  (qS (eC l_0) <|
  qS (eC l_1) <|
  iter (fun (d1 : (Int × Unit)) again2 =>
   cnd (ltI d1.1 (vlen (eC l_0)))
    (chk (leI 0 d1.1) <|
    getE tC (eC l_0) (natI d1.1) <| fun p3 =>
    chk (leI 0 d1.1) <|
    getE tC (eC l_1) (natI d1.1) <| fun p4 =>
    cnd (notB (eqL [p3.1, p3.2] [p4.1, p4.2]))
     (some (false, ()))
     (qS (eC l_0) <|
     qS (eC l_1) <|
     again2 ((wrp .i64 (addI d1.1 1)), ())))
    (some (true, ()))) N (0, ()))
noncomputable def q_ref15_Code : Lift := ⟨tyX, look2 .todo (α := LoopAs) (.n 30 [(4, (.as ⟨[], [], (.one, [.fix]) :: (.one, [.fix]) :: (.one, [.junk]) :: (.one, [.junk]) :: (.one, [.junk]) :: (.one, [.hole tI]) :: rp 20 (.one, [.junk]) ([])⟩))] .o .o), [], bsX⟩
theorem u_ref15_Code {N : Nat} {a0 : LC} {a1 : LC} {q : (Bool × Unit)} (h : M_ref15_Code N a0 a1 = some q) : S_ref15_Code a0 a1 = some q :=
 Sof_of (Q := q_ref15_Code) (N := N) (n := 3) (f := 30) (tin := i_ref15_Code) (tout := o_ref15_Code) (d := (a0, (a1, ()))) all0 bs_ok (by kernel_rfl) (by kernel_rfl) (by kernel_rfl) (Eq.trans (b := M_ref15_Code N a0 a1) (by kernel_rfl) h)

noncomputable def M_ref04_Ints (N : Nat) (l_0 : LI) (l_1 : LI) : Option (Bool × Unit) :=
 cnd (notB (eqI (vlen (eI l_0)) (vlen (eI l_1))))
  (some (false, ()))
  (qS (eI l_0) <|
  qS (eI l_1) <|
  iter (fun (d1 : (Int × Unit)) again2 =>
   cnd (ltI d1.1 (vlen (eI l_0)))
    (chk (leI 0 d1.1) <|
    getE tI (eI l_0) (natI d1.1) <| fun n3 =>
    chk (leI 0 d1.1) <|
    getE tI (eI l_1) (natI d1.1) <| fun n4 =>
    cnd (notB (eqI n3 n4))
     (some (false, ()))
     (qS (eI l_0) <|
     qS (eI l_1) <|
     again2 ((wrp .i64 (addI d1.1 1)), ())))
    (some (true, ()))) N (0, ()))
noncomputable def q_ref04_Ints : Lift := ⟨tyX, look2 .todo (α := LoopAs) (.n 31 [(4, (.as ⟨[], [], (.one, [.fix]) :: (.one, [.fix]) :: (.one, [.junk]) :: (.one, [.junk]) :: (.one, [.junk]) :: (.one, [.hole tI]) :: rp 20 (.one, [.junk]) ([])⟩))] .o .o), [], bsX⟩
theorem u_ref04_Ints {N : Nat} {a0 : LI} {a1 : LI} {q : (Bool × Unit)} (h : M_ref04_Ints N a0 a1 = some q) : S_ref04_Ints a0 a1 = some q :=
 Sof_of (Q := q_ref04_Ints) (N := N) (n := 3) (f := 31) (tin := i_ref04_Ints) (tout := o_ref04_Ints) (d := (a0, (a1, ()))) all0 bs_ok (by kernel_rfl) (by kernel_rfl) (by kernel_rfl) (Eq.trans (b := M_ref04_Ints N a0 a1) (by kernel_rfl) h)

noncomputable def M_ref13_Same (N : Nat) (l_0 : LN) (l_1 : LN) : Option (Bool × Unit) :=
 cnd (notB (eqI (vlen (eN l_0)) (vlen (eN l_1))))
  (some (false, ()))
  (qS (eN l_0) <|
  qS (eN l_1) <|
  iter (fun (d1 : (Int × Unit)) again2 =>
   cnd (ltI d1.1 (vlen (eN l_0)))
    (chk (leI 0 d1.1) <|
    getE tN (eN l_0) (natI d1.1) <| fun p3 =>
    chk (leI 0 d1.1) <|
    getE tN (eN l_1) (natI d1.1) <| fun p4 =>
    cnd (notB (eqL [p3.1, p3.2.1, p3.2.2.1, p3.2.2.2.1, p3.2.2.2.2.1, p3.2.2.2.2.2.1, p3.2.2.2.2.2.2] [p4.1, p4.2.1, p4.2.2.1, p4.2.2.2.1, p4.2.2.2.2.1, p4.2.2.2.2.2.1, p4.2.2.2.2.2.2]))
     (some (false, ()))
     (qS (eN l_0) <|
     qS (eN l_1) <|
     again2 ((wrp .i64 (addI d1.1 1)), ())))
    (some (true, ()))) N (0, ()))
noncomputable def q_ref13_Same : Lift := ⟨tyX, look2 .todo (α := LoopAs) (.n 32 [(4, (.as ⟨[], [], (.one, [.fix]) :: (.one, [.fix]) :: (.one, [.junk]) :: (.one, [.junk]) :: (.one, [.junk]) :: (.one, [.hole tI]) :: rp 20 (.one, [.junk]) ([])⟩))] .o .o), [], bsX⟩
theorem u_ref13_Same {N : Nat} {a0 : LN} {a1 : LN} {q : (Bool × Unit)} (h : M_ref13_Same N a0 a1 = some q) : S_ref13_Same a0 a1 = some q :=
 Sof_of (Q := q_ref13_Same) (N := N) (n := 3) (f := 32) (tin := i_ref13_Same) (tout := o_ref13_Same) (d := (a0, (a1, ()))) all0 bs_ok (by kernel_rfl) (by kernel_rfl) (by kernel_rfl) (Eq.trans (b := M_ref13_Same N a0 a1) (by kernel_rfl) h)

noncomputable def M_ref14_Same (N : Nat) (l_0 : LS) (l_1 : LS) : Option (Bool × Unit) :=
 cnd (notB (eqI (vlen (eS l_0)) (vlen (eS l_1))))
  (some (false, ()))
  (qS (eS l_0) <|
  qS (eS l_1) <|
  iter (fun (d1 : (Int × Unit)) again2 =>
   cnd (ltI d1.1 (vlen (eS l_0)))
    (chk (leI 0 d1.1) <|
    getE tS (eS l_0) (natI d1.1) <| fun p3 =>
    chk (leI 0 d1.1) <|
    getE tS (eS l_1) (natI d1.1) <| fun p4 =>
    cnd (notB (eqL [p3.1, p3.2.1, p3.2.2.1, p3.2.2.2] [p4.1, p4.2.1, p4.2.2.1, p4.2.2.2]))
     (some (false, ()))
     (qS (eS l_0) <|
     qS (eS l_1) <|
     again2 ((wrp .i64 (addI d1.1 1)), ())))
    (some (true, ()))) N (0, ()))
noncomputable def q_ref14_Same : Lift := ⟨tyX, look2 .todo (α := LoopAs) (.n 33 [(4, (.as ⟨[], [], (.one, [.fix]) :: (.one, [.fix]) :: (.one, [.junk]) :: (.one, [.junk]) :: (.one, [.junk]) :: (.one, [.hole tI]) :: rp 20 (.one, [.junk]) ([])⟩))] .o .o), [], bsX⟩
theorem u_ref14_Same {N : Nat} {a0 : LS} {a1 : LS} {q : (Bool × Unit)} (h : M_ref14_Same N a0 a1 = some q) : S_ref14_Same a0 a1 = some q :=
 Sof_of (Q := q_ref14_Same) (N := N) (n := 3) (f := 33) (tin := i_ref14_Same) (tout := o_ref14_Same) (d := (a0, (a1, ()))) all0 bs_ok (by kernel_rfl) (by kernel_rfl) (by kernel_rfl) (Eq.trans (b := M_ref14_Same N a0 a1) (by kernel_rfl) h)

noncomputable def M_ref15_Same (N : Nat) (l_0 : LB) (b_1 : Bool) (l_2 : LI) (l_3 : LI) (l_4 : LI) (l_5 : LI) (l_6 : LC) (l_7 : LI) (l_8 : LN) (l_9 : LI) (l_10 : LS) (l_11 : LB) (b_12 : Bool) (l_13 : LI) (l_14 : LI) (l_15 : LI) (l_16 : LI) (l_17 : LC) (l_18 : LI) (l_19 : LN) (l_20 : LI) (l_21 : LS) : Option (Bool × Unit) :=
 joinK (δ := Unit) (cnd (notB (seq2 (ByteArray.mk (Array.mk l_0)) (ByteArray.mk (Array.mk l_11))))
   (rightK <| some (false, ()))
   (cnd (notB (eqB b_1 b_12))
    (rightK <| some (false, ()))
    (dI l_2 <| fun l1 =>
    dI l_13 <| fun l2 =>
    bnd (S_ref11_Same l1 l2) <| fun p3 =>
    cnd (notB p3.1)
     (rightK <| some (false, ()))
     (dI l_3 <| fun l4 =>
     dI l_14 <| fun l5 =>
     bnd (S_ref11_Same l4 l5) <| fun p6 =>
     cnd (notB p6.1)
      (rightK <| some (false, ()))
      (dI l_4 <| fun l7 =>
      dI l_15 <| fun l8 =>
      bnd (S_ref11_Same l7 l8) <| fun p9 =>
      cnd (notB p9.1)
       (rightK <| some (false, ()))
       (dI l_5 <| fun l10 =>
       dI l_16 <| fun l11 =>
       bnd (S_ref11_Same l10 l11) <| fun p12 =>
       cnd (notB p12.1)
        (rightK <| some (false, ()))
        (qB (ByteArray.mk (Array.mk l_0)) <|
        qO b_1 <|
        qS (eI l_2) <|
        qS (eI l_3) <|
        qS (eI l_4) <|
        qS (eI l_5) <|
        qS (eC l_6) <|
        qS (eI l_7) <|
        qS (eN l_8) <|
        qS (eI l_9) <|
        qS (eS l_10) <|
        qB (ByteArray.mk (Array.mk l_11)) <|
        qO b_12 <|
        qS (eI l_13) <|
        qS (eI l_14) <|
        qS (eI l_15) <|
        qS (eI l_16) <|
        qS (eC l_17) <|
        qS (eI l_18) <|
        qS (eN l_19) <|
        qS (eI l_20) <|
        qS (eS l_21) <|
        leftK ())))))))
 <| fun x13 =>
 dC l_6 <| fun l14 =>
 dC l_17 <| fun l15 =>
 bnd (S_ref15_Code l14 l15) <| fun p16 =>
 cnd p16.1
  (dI l_7 <| fun l17 =>
  dI l_18 <| fun l18 =>
  bnd (S_ref04_Ints l17 l18) <| fun p19 =>
  cnd p19.1
   (dN l_8 <| fun l20 =>
   dN l_19 <| fun l21 =>
   bnd (S_ref13_Same l20 l21) <| fun p22 =>
   cnd p22.1
    (dI l_9 <| fun l23 =>
    dI l_20 <| fun l24 =>
    bnd (S_ref04_Ints l23 l24) <| fun p25 =>
    cnd p25.1
     (dS l_10 <| fun l26 =>
     dS l_21 <| fun l27 =>
     bnd (S_ref14_Same l26 l27) <| fun p28 =>
     some (p28.1, ()))
     (some (false, ())))
    (some (false, ())))
   (some (false, ())))
  (some (false, ()))
noncomputable def q_ref15_Same : Lift := ⟨tyX, look2 .todo (α := LoopAs) (.n 10 [(1012292, (.as ⟨[], [[.fix, .fix, .fix, .fix, .fix, .fix, .fix, .fix, .fix, .fix, .fix], [.fix, .fix, .fix, .fix, .fix, .fix, .fix, .fix, .fix, .fix, .fix]], (.one, [.junk]) :: (.one, [.junk]) :: (.one, [.stat (.ptr 0 0)]) :: (.one, [.stat (.ptr 1 0)]) :: rp 78 (.one, [.junk]) ([])⟩))] .o .o), [c_ref11_Same, c_ref15_Code, c_ref04_Ints, c_ref13_Same, c_ref14_Same], bsX⟩
theorem u_ref15_Same {N : Nat} {a0 : LB} {a1 : Bool} {a2 : LI} {a3 : LI} {a4 : LI} {a5 : LI} {a6 : LC} {a7 : LI} {a8 : LN} {a9 : LI} {a10 : LS} {a11 : LB} {a12 : Bool} {a13 : LI} {a14 : LI} {a15 : LI} {a16 : LI} {a17 : LC} {a18 : LI} {a19 : LN} {a20 : LI} {a21 : LS} {q : (Bool × Unit)} (h : M_ref15_Same N a0 a1 a2 a3 a4 a5 a6 a7 a8 a9 a10 a11 a12 a13 a14 a15 a16 a17 a18 a19 a20 a21 = some q) : S_ref15_Same a0 a1 a2 a3 a4 a5 a6 a7 a8 a9 a10 a11 a12 a13 a14 a15 a16 a17 a18 a19 a20 a21 = some q :=
 Sof_of (Q := q_ref15_Same) (N := N) (n := 3) (f := 10) (tin := i_ref15_Same) (tout := o_ref15_Same) (d := (a0, (a1, (a2, (a3, (a4, (a5, (a6, (a7, (a8, (a9, (a10, (a11, (a12, (a13, (a14, (a15, (a16, (a17, (a18, (a19, (a20, (a21, ()))))))))))))))))))))))) (all1 k_ref11_Same (all1 k_ref15_Code (all1 k_ref04_Ints (all1 k_ref13_Same (all1 k_ref14_Same all0))))) bs_ok (by kernel_rfl) (by kernel_rfl) (by kernel_rfl) (Eq.trans (b := M_ref15_Same N a0 a1 a2 a3 a4 a5 a6 a7 a8 a9 a10 a11 a12 a13 a14 a15 a16 a17 a18 a19 a20 a21) (by kernel_rfl) h)

noncomputable def M_law15_Small (N : Nat) (l_0 : LB) (b_1 : Bool) (l_2 : LI) (l_3 : LI) (l_4 : LI) (l_5 : LI) (l_6 : LC) (l_7 : LI) (l_8 : LN) (l_9 : LI) (l_10 : LS) : Option (Bool × Unit) :=
 cnd (leI (vlen (eC l_6)) 150)
  (cnd (leI (vlen (eI l_7)) 150)
   (cnd (leI (vlen (eN l_8)) 20)
    (cnd (leI (vlen (eI l_9)) 150)
     (cnd (leI (vlen (eS l_10)) 150)
      (some ((leI (wrp .i64 (addI (wrp .i64 (addI (wrp .i64 (addI (vlen (eI l_3)) (vlen (eI l_4)))) (vlen (eI l_5)))) (vlen (eI l_2)))) 300), ()))
      (some (false, ())))
     (some (false, ())))
    (some (false, ())))
   (some (false, ())))
  (some (false, ()))
noncomputable def q_law15_Small : Lift := ⟨tyX, look2 .todo (α := LoopAs) (.o), [], bsX⟩
theorem u_law15_Small {N : Nat} {a0 : LB} {a1 : Bool} {a2 : LI} {a3 : LI} {a4 : LI} {a5 : LI} {a6 : LC} {a7 : LI} {a8 : LN} {a9 : LI} {a10 : LS} {q : (Bool × Unit)} (h : M_law15_Small N a0 a1 a2 a3 a4 a5 a6 a7 a8 a9 a10 = some q) : S_law15_Small a0 a1 a2 a3 a4 a5 a6 a7 a8 a9 a10 = some q :=
 Sof_of (Q := q_law15_Small) (N := N) (n := 3) (f := 34) (tin := i_law15_Small) (tout := o_law15_Small) (d := (a0, (a1, (a2, (a3, (a4, (a5, (a6, (a7, (a8, (a9, (a10, ())))))))))))) all0 bs_ok (by kernel_rfl) (by kernel_rfl) (by kernel_rfl) (Eq.trans (b := M_law15_Small N a0 a1 a2 a3 a4 a5 a6 a7 a8 a9 a10) (by kernel_rfl) h)

noncomputable def M_law16_Small (N : Nat) (l_0 : LF) : Option (Bool × Unit) :=
 joinK (δ := Unit) (qS (eF l_0) <|
  iter (fun (d1 : (Int × Unit)) again2 =>
   joinK (δ := Unit) (cnd (ltI d1.1 (vlen (eF l_0)))
     (cnd (ltI d1.1 50)
      (qS (eF l_0) <|
      qI d1.1 <|
      leftK ())
      (rightK <| qS (eF l_0) <|
      leftK ()))
     (rightK <| qS (eF l_0) <|
     leftK ()))
   <| fun x3 =>
   chk (leI 0 d1.1) <|
   getE tF (eF l_0) (natI d1.1) <| fun p4 =>
   dI p4.2.2.1 <| fun l5 =>
   dI p4.2.2.2.1 <| fun l6 =>
   dI p4.2.2.2.2.1 <| fun l7 =>
   dI p4.2.2.2.2.2.1 <| fun l8 =>
   dC p4.2.2.2.2.2.2.1 <| fun l9 =>
   dI p4.2.2.2.2.2.2.2.1 <| fun l10 =>
   dN p4.2.2.2.2.2.2.2.2.1 <| fun l11 =>
   dI p4.2.2.2.2.2.2.2.2.2.1 <| fun l12 =>
   dS p4.2.2.2.2.2.2.2.2.2.2 <| fun l13 =>
   bnd (S_law15_Small p4.1 p4.2.1 l5 l6 l7 l8 l9 l10 l11 l12 l13) <| fun p14 =>
   cnd (notB p14.1)
    (rightK <| some (false, ()))
    (qS (eF l_0) <|
    again2 ((wrp .i64 (addI d1.1 1)), ()))) N (0, ()))
 <| fun x15 =>
 some ((leI (vlen (eF l_0)) 50), ())
noncomputable def q_law16_Small : Lift := ⟨tyX, look2 .todo (α := LoopAs) (.n 11 [(2, (.as ⟨[], [[.fix]], (.one, [.junk]) :: (.one, [.stat (.ptr 0 0)]) :: (.one, [.junk]) :: (.one, [.hole tI]) :: rp 22 (.one, [.junk]) ([])⟩)), (1012293, (.as ⟨[], [[.fix]], (.one, [.junk]) :: (.one, [.stat (.ptr 0 0)]) :: (.one, [.junk]) :: (.one, [.fix]) :: rp 22 (.one, [.junk]) ([])⟩)), (1016391, (.as ⟨[], [[.fix]], (.one, [.junk]) :: (.one, [.stat (.ptr 0 0)]) :: rp 24 (.one, [.junk]) ([])⟩))] .o .o), [c_law15_Small], bsX⟩
theorem u_law16_Small {N : Nat} {a0 : LF} {q : (Bool × Unit)} (h : M_law16_Small N a0 = some q) : S_law16_Small a0 = some q :=
 Sof_of (Q := q_law16_Small) (N := N) (n := 3) (f := 11) (tin := i_law16_Small) (tout := o_law16_Small) (d := (a0, ())) (all1 k_law15_Small all0) bs_ok (by kernel_rfl) (by kernel_rfl) (by kernel_rfl) (Eq.trans (b := M_law16_Small N a0) (by kernel_rfl) h)

noncomputable def M_ref05_May (N : Nat) (l_0 : LB) : Option (Bool × Unit) :=
 qB (ByteArray.mk (Array.mk l_0)) <|
 iter (fun (d1 : (Int × Unit)) again2 =>
  cnd (ltI d1.1 (slen (ByteArray.mk (Array.mk l_0))))
   (joinK (δ := Unit) (chk (leI 0 d1.1) <|
    getS (ByteArray.mk (Array.mk l_0)) (natI d1.1) <| fun x3 =>
    cnd (ltI (u8I x3) 97)
     (cnd (eqI d1.1 0)
      (rightK <| some (false, ()))
      (cnd (ltI (u8I x3) 48)
       (cnd (notB (eqI (u8I x3) 95))
        (rightK <| some (false, ()))
        (qB (ByteArray.mk (Array.mk l_0)) <|
        qI d1.1 <|
        leftK ()))
       (cnd (ltI 57 (u8I x3))
        (cnd (notB (eqI (u8I x3) 95))
         (rightK <| some (false, ()))
         (qB (ByteArray.mk (Array.mk l_0)) <|
         qI d1.1 <|
         leftK ()))
        (qB (ByteArray.mk (Array.mk l_0)) <|
        qI d1.1 <|
        leftK ()))))
     (cnd (ltI 122 (u8I x3))
      (cnd (eqI d1.1 0)
       (rightK <| some (false, ()))
       (cnd (ltI (u8I x3) 48)
        (cnd (notB (eqI (u8I x3) 95))
         (rightK <| some (false, ()))
         (qB (ByteArray.mk (Array.mk l_0)) <|
         qI d1.1 <|
         leftK ()))
        (cnd (ltI 57 (u8I x3))
         (cnd (notB (eqI (u8I x3) 95))
          (rightK <| some (false, ()))
          (qB (ByteArray.mk (Array.mk l_0)) <|
          qI d1.1 <|
          leftK ()))
         (qB (ByteArray.mk (Array.mk l_0)) <|
         qI d1.1 <|
         leftK ()))))
      (qB (ByteArray.mk (Array.mk l_0)) <|
      qI d1.1 <|
      leftK ())))
   <| fun x4 =>
   qB (ByteArray.mk (Array.mk l_0)) <|
   again2 ((wrp .i64 (addI d1.1 1)), ()))
   (cnd (leI 1 (slen (ByteArray.mk (Array.mk l_0))))
    (some ((leI (slen (ByteArray.mk (Array.mk l_0))) 12), ()))
    (some (false, ())))) N (0, ())
noncomputable def q_ref05_May : Lift := ⟨tyX, look2 .todo (α := LoopAs) (.n 27 [(2, (.as ⟨[], [], (.one, [.fix]) :: (.one, [.junk]) :: (.one, [.junk]) :: (.one, [.hole tI]) :: rp 40 (.one, [.junk]) ([])⟩)), (1028676, (.as ⟨[], [], (.one, [.fix]) :: (.one, [.junk]) :: (.one, [.junk]) :: (.one, [.fix]) :: rp 40 (.one, [.junk]) ([])⟩))] .o .o), [], bsX⟩
theorem u_ref05_May {N : Nat} {a0 : LB} {q : (Bool × Unit)} (h : M_ref05_May N a0 = some q) : S_ref05_May a0 = some q :=
 Sof_of (Q := q_ref05_May) (N := N) (n := 3) (f := 27) (tin := i_ref05_May) (tout := o_ref05_May) (d := (a0, ())) all0 bs_ok (by kernel_rfl) (by kernel_rfl) (by kernel_rfl) (Eq.trans (b := M_ref05_May N a0) (by kernel_rfl) h)

noncomputable def M_ref11_May (N : Nat) (n_0 : Int) : Option (Bool × Unit) :=
 cnd (eqI n_0 1)
  (some (true, ()))
  (some ((eqI n_0 2), ()))
noncomputable def q_ref11_May : Lift := ⟨tyX, look2 .todo (α := LoopAs) (.o), [], bsX⟩
theorem u_ref11_May {N : Nat} {a0 : Int} {q : (Bool × Unit)} (h : M_ref11_May N a0 = some q) : S_ref11_May a0 = some q :=
 Sof_of (Q := q_ref11_May) (N := N) (n := 3) (f := 83) (tin := i_ref11_May) (tout := o_ref11_May) (d := (a0, ())) all0 bs_ok (by kernel_rfl) (by kernel_rfl) (by kernel_rfl) (Eq.trans (b := M_ref11_May N a0) (by kernel_rfl) h)

noncomputable def M_ref11_Right (N : Nat) (l_0 : LI) (n_1 : Int) : Option (Bool × Unit) :=
 qS (eI l_0) <|
 qI n_1 <|
 iter (fun (d1 : (Int × Unit)) again2 =>
  cnd (ltI d1.1 (vlen (eI l_0)))
   (chk (leI 0 d1.1) <|
   getE tI (eI l_0) (natI d1.1) <| fun n3 =>
   bnd (S_ref11_May n3) <| fun p4 =>
   cnd (notB p4.1)
    (some (false, ()))
    (qS (eI l_0) <|
    qI n_1 <|
    again2 ((wrp .i64 (addI d1.1 1)), ())))
   (some ((leI (vlen (eI l_0)) n_1), ()))) N (0, ())
noncomputable def q_ref11_Right : Lift := ⟨tyX, look2 .todo (α := LoopAs) (.n 59 [(2, (.as ⟨[], [], (.one, [.fix]) :: (.one, [.fix]) :: (.one, [.junk]) :: (.one, [.junk]) :: (.one, [.junk]) :: (.one, [.hole tI]) :: rp 16 (.one, [.junk]) ([])⟩))] .o .o), [c_ref11_May], bsX⟩
theorem u_ref11_Right {N : Nat} {a0 : LI} {a1 : Int} {q : (Bool × Unit)} (h : M_ref11_Right N a0 a1 = some q) : S_ref11_Right a0 a1 = some q :=
 Sof_of (Q := q_ref11_Right) (N := N) (n := 3) (f := 59) (tin := i_ref11_Right) (tout := o_ref11_Right) (d := (a0, (a1, ()))) (all1 k_ref11_May all0) bs_ok (by kernel_rfl) (by kernel_rfl) (by kernel_rfl) (Eq.trans (b := M_ref11_Right N a0 a1) (by kernel_rfl) h)

end Go.Proofs.YtkdnbnkbnegckaaGreatDoor
