/- Functions, lifted: what the program comes to by them. -/
import Derived.Test.YtkdnbnkbnegckaaDoorDbA
namespace Go.Proofs.YtkdnbnkbnegckaaDoor
open Go.RowKit
set_option maxRecDepth 100000
set_option linter.unusedVariables false
noncomputable def M_ref18_Tables (N : Nat) (l_0 : LB) (b_1 : Bool) (l_2 : LI) (l_3 : LI) (l_4 : LI) (l_5 : LI) (l_6 : LC) (l_7 : LI) (l_8 : LN) (l_9 : LI) (l_10 : LS) : Option (LB × Unit) :=
 dI l_2 <| fun l1 =>
 dI l_3 <| fun l2 =>
 dI l_4 <| fun l3 =>
 dI l_5 <| fun l4 =>
 dC l_6 <| fun l5 =>
 dI l_7 <| fun l6 =>
 dN l_8 <| fun l7 =>
 dI l_9 <| fun l8 =>
 dS l_10 <| fun l9 =>
 bnd (S_ref15_Bare l_0 b_1 l1 l2 l3 l4 l5 l6 l7 l8 l9) <| fun p10 =>
 cnd p10.1
  (some ([], ()))
  (dN l_8 <| fun l11 =>
  bnd (S_ref13_Text l11) <| fun p12 =>
  qB (ByteArray.mk (Array.mk l_0)) <|
  qO b_1 <|
  qS (eI l_2) <|
  qS (eI l_3) <|
  qS (eI l_4) <|
  qS (eI l_5) <|
  qS (eC l_6) <|
  qS (eI l_7) <|
  qS (eN l_8) <|
  qS (eI l_9) <|
  qS (eS l_10) <|
  iter (fun (d13 : (LB × (Int × Unit))) again14 =>
   cnd (ltI d13.2.1 (vlen (eC l_6)))
    (joinK (δ := (Int × Unit)) (cnd (ltI d13.2.1 (vlen (eI l_9)))
      (chk (leI 0 d13.2.1) <|
      getE tI (eI l_9) (natI d13.2.1) <| fun n15 =>
      qB (ByteArray.mk (Array.mk l_0)) <|
      qO b_1 <|
      qS (eI l_2) <|
      qS (eI l_3) <|
      qS (eI l_4) <|
      qS (eI l_5) <|
      qS (eC l_6) <|
      qS (eI l_7) <|
      qS (eN l_8) <|
      qS (eI l_9) <|
      qS (eS l_10) <|
      qB (ByteArray.mk (Array.mk d13.1)) <|
      qI d13.2.1 <|
      leftK (n15, ()))
      (qB (ByteArray.mk (Array.mk l_0)) <|
      qO b_1 <|
      qS (eI l_2) <|
      qS (eI l_3) <|
      qS (eI l_4) <|
      qS (eI l_5) <|
      qS (eC l_6) <|
      qS (eI l_7) <|
      qS (eN l_8) <|
      qS (eI l_9) <|
      qS (eS l_10) <|
      qB (ByteArray.mk (Array.mk d13.1)) <|
      qI d13.2.1 <|
      leftK (0, ())))
    <| fun p16 =>
    bnd (S_ref05_Digits d13.2.1) <| fun p17 =>
    chk (leN (addN (vnum (encS (ByteArray.mk (Array.mk d13.1)))) (vnum (encS (ByteArray.mk (Array.mk p17.1))))) 9223372036854775807) <|
    chk (leN (addN (vnum (encS (ByteArray.mk (Array.mk (lapp d13.1 p17.1))))) (vnum (encS (ByteArray.mk (Array.mk [(UInt8.ofNat 32)]))))) 9223372036854775807) <|
    bnd (S_ref05_Digits p16.1) <| fun p18 =>
    chk (leN (addN (vnum (encS (ByteArray.mk (Array.mk (lapp (lapp d13.1 p17.1) [(UInt8.ofNat 32)]))))) (vnum (encS (ByteArray.mk (Array.mk p18.1))))) 9223372036854775807) <|
    dS l_10 <| fun l19 =>
    bnd (S_ref14_At l19 d13.2.1) <| fun p20 =>
    bnd (S_ref03_List p20.1 p20.2.1 p20.2.2.1 p20.2.2.2.1) <| fun p21 =>
    qB (ByteArray.mk (Array.mk l_0)) <|
    qO b_1 <|
    qS (eI l_2) <|
    qS (eI l_3) <|
    qS (eI l_4) <|
    qS (eI l_5) <|
    qS (eC l_6) <|
    qS (eI l_7) <|
    qS (eN l_8) <|
    qS (eI l_9) <|
    qS (eS l_10) <|
    qI d13.2.1 <|
    qS (eI p21.1) <|
    iter (fun (d22 : (LB × (Int × Unit))) again23 =>
     cnd (ltI d22.2.1 (vlen (eI p21.1)))
      (chk (leN (addN (vnum (encS (ByteArray.mk (Array.mk d22.1)))) (vnum (encS (ByteArray.mk (Array.mk [(UInt8.ofNat 32)]))))) 9223372036854775807) <|
      chk (leI 0 d22.2.1) <|
      getE tI (eI p21.1) (natI d22.2.1) <| fun n24 =>
      bnd (S_ref05_Digits n24) <| fun p25 =>
      chk (leN (addN (vnum (encS (ByteArray.mk (Array.mk (lapp d22.1 [(UInt8.ofNat 32)]))))) (vnum (encS (ByteArray.mk (Array.mk p25.1))))) 9223372036854775807) <|
      qB (ByteArray.mk (Array.mk l_0)) <|
      qO b_1 <|
      qS (eI l_2) <|
      qS (eI l_3) <|
      qS (eI l_4) <|
      qS (eI l_5) <|
      qS (eC l_6) <|
      qS (eI l_7) <|
      qS (eN l_8) <|
      qS (eI l_9) <|
      qS (eS l_10) <|
      qI d13.2.1 <|
      qS (eI p21.1) <|
      again23 ((lapp (lapp d22.1 [(UInt8.ofNat 32)]) p25.1), ((wrp .i64 (addI d22.2.1 1)), ())))
      (chk (leN (addN (vnum (encS (ByteArray.mk (Array.mk d22.1)))) (vnum (encS (ByteArray.mk (Array.mk [(UInt8.ofNat 10)]))))) 9223372036854775807) <|
      qB (ByteArray.mk (Array.mk l_0)) <|
      qO b_1 <|
      qS (eI l_2) <|
      qS (eI l_3) <|
      qS (eI l_4) <|
      qS (eI l_5) <|
      qS (eC l_6) <|
      qS (eI l_7) <|
      qS (eN l_8) <|
      qS (eI l_9) <|
      qS (eS l_10) <|
      again14 ((lapp d22.1 [(UInt8.ofNat 10)]), ((wrp .i64 (addI d13.2.1 1)), ())))) N ((lapp (lapp (lapp d13.1 p17.1) [(UInt8.ofNat 32)]) p18.1), (0, ())))
    (some (d13.1, ()))) N (p12.1, (0, ())))
noncomputable def q_ref18_Tables : Lift := ⟨tyX, look2 .todo (α := LoopAs) (.n 8 [(5, (.as ⟨[], [[.fix, .fix, .fix, .fix, .fix, .fix, .fix, .fix, .fix, .fix, .fix]], (.one, [.junk]) :: (.one, [.stat (.ptr 0 0)]) :: (.one, [.junk]) :: (.one, [.hole .str]) :: (.one, [.hole tI]) :: rp 55 (.one, [.junk]) ([])⟩)), (13, (.as ⟨[], [[.fix, .fix, .fix, .fix, .fix, .fix, .fix, .fix, .fix, .fix, .fix]], (.one, [.junk]) :: (.one, [.stat (.ptr 0 0)]) :: (.one, [.junk]) :: (.one, [.hole .str]) :: (.one, [.fix]) :: (.one, [.junk]) :: (.one, [.fix]) :: (.one, [.hole tI]) :: rp 52 (.one, [.junk]) ([])⟩)), (1040971, (.as ⟨[], [[.fix, .fix, .fix, .fix, .fix, .fix, .fix, .fix, .fix, .fix, .fix]], (.one, [.junk]) :: (.one, [.stat (.ptr 0 0)]) :: (.one, [.junk]) :: (.one, [.fix]) :: (.one, [.fix]) :: (.one, [.hole tI]) :: rp 54 (.one, [.junk]) ([])⟩))] .o .o), [c_ref15_Bare, c_ref13_Text, c_ref05_Digits, c_ref14_At, c_ref03_List], bsX⟩
theorem u_ref18_Tables {N : Nat} {a0 : LB} {a1 : Bool} {a2 : LI} {a3 : LI} {a4 : LI} {a5 : LI} {a6 : LC} {a7 : LI} {a8 : LN} {a9 : LI} {a10 : LS} {q : (LB × Unit)} (h : M_ref18_Tables N a0 a1 a2 a3 a4 a5 a6 a7 a8 a9 a10 = some q) : S_ref18_Tables a0 a1 a2 a3 a4 a5 a6 a7 a8 a9 a10 = some q :=
 Sof_of (Q := q_ref18_Tables) (N := N) (n := 3) (f := 8) (tin := i_ref18_Tables) (tout := o_ref18_Tables) (d := (a0, (a1, (a2, (a3, (a4, (a5, (a6, (a7, (a8, (a9, (a10, ())))))))))))) (all1 k_ref15_Bare (all1 k_ref13_Text (all1 k_ref05_Digits (all1 k_ref14_At (all1 k_ref03_List all0))))) bs_ok (by kernel_rfl) (by kernel_rfl) (by kernel_rfl) (Eq.trans (b := M_ref18_Tables N a0 a1 a2 a3 a4 a5 a6 a7 a8 a9 a10) (by kernel_rfl) h)

noncomputable def M_ref18_Head (N : Nat) (l_0 : LB) (b_1 : Bool) (l_2 : LI) (l_3 : LI) (l_4 : LI) (l_5 : LI) (l_6 : LC) (l_7 : LI) (l_8 : LN) (l_9 : LI) (l_10 : LS) : Option (LB × Unit) :=
 chk (leN (addN (vnum (encS (ByteArray.mk (Array.mk [(UInt8.ofNat 102), (UInt8.ofNat 117), (UInt8.ofNat 110), (UInt8.ofNat 99), (UInt8.ofNat 32)])))) (vnum (encS (ByteArray.mk (Array.mk l_0))))) 9223372036854775807) <|
 chk (leN (addN (vnum (encS (ByteArray.mk (Array.mk (lapp [(UInt8.ofNat 102), (UInt8.ofNat 117), (UInt8.ofNat 110), (UInt8.ofNat 99), (UInt8.ofNat 32)] l_0))))) (vnum (encS (ByteArray.mk (Array.mk [(UInt8.ofNat 32)]))))) 9223372036854775807) <|
 dI l_3 <| fun l1 =>
 bnd (S_ref11_Text l1) <| fun p2 =>
 chk (leN (addN (vnum (encS (ByteArray.mk (Array.mk (lapp (lapp [(UInt8.ofNat 102), (UInt8.ofNat 117), (UInt8.ofNat 110), (UInt8.ofNat 99), (UInt8.ofNat 32)] l_0) [(UInt8.ofNat 32)]))))) (vnum (encS (ByteArray.mk (Array.mk p2.1))))) 9223372036854775807) <|
 chk (leN (addN (vnum (encS (ByteArray.mk (Array.mk (lapp (lapp (lapp [(UInt8.ofNat 102), (UInt8.ofNat 117), (UInt8.ofNat 110), (UInt8.ofNat 99), (UInt8.ofNat 32)] l_0) [(UInt8.ofNat 32)]) p2.1))))) (vnum (encS (ByteArray.mk (Array.mk [(UInt8.ofNat 32)]))))) 9223372036854775807) <|
 dI l_4 <| fun l3 =>
 bnd (S_ref11_Text l3) <| fun p4 =>
 chk (leN (addN (vnum (encS (ByteArray.mk (Array.mk (lapp (lapp (lapp (lapp [(UInt8.ofNat 102), (UInt8.ofNat 117), (UInt8.ofNat 110), (UInt8.ofNat 99), (UInt8.ofNat 32)] l_0) [(UInt8.ofNat 32)]) p2.1) [(UInt8.ofNat 32)]))))) (vnum (encS (ByteArray.mk (Array.mk p4.1))))) 9223372036854775807) <|
 chk (leN (addN (vnum (encS (ByteArray.mk (Array.mk (lapp (lapp (lapp (lapp (lapp [(UInt8.ofNat 102), (UInt8.ofNat 117), (UInt8.ofNat 110), (UInt8.ofNat 99), (UInt8.ofNat 32)] l_0) [(UInt8.ofNat 32)]) p2.1) [(UInt8.ofNat 32)]) p4.1))))) (vnum (encS (ByteArray.mk (Array.mk [(UInt8.ofNat 32)]))))) 9223372036854775807) <|
 dI l_5 <| fun l5 =>
 bnd (S_ref11_Text l5) <| fun p6 =>
 chk (leN (addN (vnum (encS (ByteArray.mk (Array.mk (lapp (lapp (lapp (lapp (lapp (lapp [(UInt8.ofNat 102), (UInt8.ofNat 117), (UInt8.ofNat 110), (UInt8.ofNat 99), (UInt8.ofNat 32)] l_0) [(UInt8.ofNat 32)]) p2.1) [(UInt8.ofNat 32)]) p4.1) [(UInt8.ofNat 32)]))))) (vnum (encS (ByteArray.mk (Array.mk p6.1))))) 9223372036854775807) <|
 cnd b_1
  (chk (leN (addN (vnum (encS (ByteArray.mk (Array.mk (lapp (lapp (lapp (lapp (lapp (lapp (lapp [(UInt8.ofNat 102), (UInt8.ofNat 117), (UInt8.ofNat 110), (UInt8.ofNat 99), (UInt8.ofNat 32)] l_0) [(UInt8.ofNat 32)]) p2.1) [(UInt8.ofNat 32)]) p4.1) [(UInt8.ofNat 32)]) p6.1))))) (vnum (encS (ByteArray.mk (Array.mk [(UInt8.ofNat 32)]))))) 9223372036854775807) <|
  dI l_2 <| fun l7 =>
  bnd (S_ref11_Text l7) <| fun p8 =>
  chk (leN (addN (vnum (encS (ByteArray.mk (Array.mk (lapp (lapp (lapp (lapp (lapp (lapp (lapp (lapp [(UInt8.ofNat 102), (UInt8.ofNat 117), (UInt8.ofNat 110), (UInt8.ofNat 99), (UInt8.ofNat 32)] l_0) [(UInt8.ofNat 32)]) p2.1) [(UInt8.ofNat 32)]) p4.1) [(UInt8.ofNat 32)]) p6.1) [(UInt8.ofNat 32)]))))) (vnum (encS (ByteArray.mk (Array.mk p8.1))))) 9223372036854775807) <|
  some ((lapp (lapp (lapp (lapp (lapp (lapp (lapp (lapp (lapp [(UInt8.ofNat 102), (UInt8.ofNat 117), (UInt8.ofNat 110), (UInt8.ofNat 99), (UInt8.ofNat 32)] l_0) [(UInt8.ofNat 32)]) p2.1) [(UInt8.ofNat 32)]) p4.1) [(UInt8.ofNat 32)]) p6.1) [(UInt8.ofNat 32)]) p8.1), ()))
  (some ((lapp (lapp (lapp (lapp (lapp (lapp (lapp [(UInt8.ofNat 102), (UInt8.ofNat 117), (UInt8.ofNat 110), (UInt8.ofNat 99), (UInt8.ofNat 32)] l_0) [(UInt8.ofNat 32)]) p2.1) [(UInt8.ofNat 32)]) p4.1) [(UInt8.ofNat 32)]) p6.1), ()))
noncomputable def q_ref18_Head : Lift := ⟨tyX, look2 .todo (α := LoopAs) (.o), [c_ref11_Text], bsX⟩
theorem u_ref18_Head {N : Nat} {a0 : LB} {a1 : Bool} {a2 : LI} {a3 : LI} {a4 : LI} {a5 : LI} {a6 : LC} {a7 : LI} {a8 : LN} {a9 : LI} {a10 : LS} {q : (LB × Unit)} (h : M_ref18_Head N a0 a1 a2 a3 a4 a5 a6 a7 a8 a9 a10 = some q) : S_ref18_Head a0 a1 a2 a3 a4 a5 a6 a7 a8 a9 a10 = some q :=
 Sof_of (Q := q_ref18_Head) (N := N) (n := 3) (f := 10) (tin := i_ref18_Head) (tout := o_ref18_Head) (d := (a0, (a1, (a2, (a3, (a4, (a5, (a6, (a7, (a8, (a9, (a10, ())))))))))))) (all1 k_ref11_Text all0) bs_ok (by kernel_rfl) (by kernel_rfl) (by kernel_rfl) (Eq.trans (b := M_ref18_Head N a0 a1 a2 a3 a4 a5 a6 a7 a8 a9 a10) (by kernel_rfl) h)

noncomputable def M_ref12_At (N : Nat) (l_0 : LI) (n_1 : Int) : Option (Int × Unit) :=
 joinK (δ := Unit) (cnd (ltI n_1 0)
   (rightK <| some (0, ()))
   (cnd (leI (vlen (eI l_0)) n_1)
    (rightK <| some (0, ()))
    (qS (eI l_0) <|
    qI n_1 <|
    leftK ())))
 <| fun x1 =>
 chk (leI 0 n_1) <|
 getE tI (eI l_0) (natI n_1) <| fun n2 =>
 some (n2, ())
noncomputable def q_ref12_At : Lift := ⟨tyX, look2 .todo (α := LoopAs) (.n 37 [(1012292, (.as ⟨[], [], (.one, [.fix]) :: (.one, [.fix]) :: rp 15 (.one, [.junk]) ([])⟩))] .o .o), [], bsX⟩
theorem u_ref12_At {N : Nat} {a0 : LI} {a1 : Int} {q : (Int × Unit)} (h : M_ref12_At N a0 a1 = some q) : S_ref12_At a0 a1 = some q :=
 Sof_of (Q := q_ref12_At) (N := N) (n := 3) (f := 37) (tin := i_ref12_At) (tout := o_ref12_At) (d := (a0, (a1, ()))) all0 bs_ok (by kernel_rfl) (by kernel_rfl) (by kernel_rfl) (Eq.trans (b := M_ref12_At N a0 a1) (by kernel_rfl) h)

noncomputable def M_ref18_Func (N : Nat) (l_0 : LB) (b_1 : Bool) (l_2 : LI) (l_3 : LI) (l_4 : LI) (l_5 : LI) (l_6 : LC) (l_7 : LI) (l_8 : LN) (l_9 : LI) (l_10 : LS) : Option (LB × Unit) :=
 dI l_2 <| fun l1 =>
 dI l_3 <| fun l2 =>
 dI l_4 <| fun l3 =>
 dI l_5 <| fun l4 =>
 dC l_6 <| fun l5 =>
 dI l_7 <| fun l6 =>
 dN l_8 <| fun l7 =>
 dI l_9 <| fun l8 =>
 dS l_10 <| fun l9 =>
 bnd (S_ref18_Head l_0 b_1 l1 l2 l3 l4 l5 l6 l7 l8 l9) <| fun p10 =>
 chk (leN (addN (vnum (encS (ByteArray.mk (Array.mk p10.1)))) (vnum (encS (ByteArray.mk (Array.mk [(UInt8.ofNat 10)]))))) 9223372036854775807) <|
 qB (ByteArray.mk (Array.mk l_0)) <|
 qO b_1 <|
 qS (eI l_2) <|
 qS (eI l_3) <|
 qS (eI l_4) <|
 qS (eI l_5) <|
 qS (eC l_6) <|
 qS (eI l_7) <|
 qS (eN l_8) <|
 qS (eI l_9) <|
 qS (eS l_10) <|
 iter (fun (d11 : (LB × (Int × Unit))) again12 =>
  cnd (ltI d11.2.1 (vlen (eC l_6)))
   (chk (leI 0 d11.2.1) <|
   getE tC (eC l_6) (natI d11.2.1) <| fun p13 =>
   dI l_7 <| fun l14 =>
   bnd (S_ref12_At l14 d11.2.1) <| fun p15 =>
   bnd (S_ref05_Digits p15.1) <| fun p16 =>
   chk (leN (addN (vnum (encS (ByteArray.mk (Array.mk d11.1)))) (vnum (encS (ByteArray.mk (Array.mk p16.1))))) 9223372036854775807) <|
   chk (leN (addN (vnum (encS (ByteArray.mk (Array.mk (lapp d11.1 p16.1))))) (vnum (encS (ByteArray.mk (Array.mk [(UInt8.ofNat 32)]))))) 9223372036854775807) <|
   bnd (S_ref10_Text p13.1 p13.2) <| fun p17 =>
   chk (leN (addN (vnum (encS (ByteArray.mk (Array.mk (lapp (lapp d11.1 p16.1) [(UInt8.ofNat 32)]))))) (vnum (encS (ByteArray.mk (Array.mk p17.1))))) 9223372036854775807) <|
   chk (leN (addN (vnum (encS (ByteArray.mk (Array.mk (lapp (lapp (lapp d11.1 p16.1) [(UInt8.ofNat 32)]) p17.1))))) (vnum (encS (ByteArray.mk (Array.mk [(UInt8.ofNat 10)]))))) 9223372036854775807) <|
   qB (ByteArray.mk (Array.mk l_0)) <|
   qO b_1 <|
   qS (eI l_2) <|
   qS (eI l_3) <|
   qS (eI l_4) <|
   qS (eI l_5) <|
   qS (eC l_6) <|
   qS (eI l_7) <|
   qS (eN l_8) <|
   qS (eI l_9) <|
   qS (eS l_10) <|
   again12 ((lapp (lapp (lapp (lapp d11.1 p16.1) [(UInt8.ofNat 32)]) p17.1) [(UInt8.ofNat 10)]), ((wrp .i64 (addI d11.2.1 1)), ())))
   (chk (leN (addN (vnum (encS (ByteArray.mk (Array.mk d11.1)))) (vnum (encS (ByteArray.mk (Array.mk [(UInt8.ofNat 101), (UInt8.ofNat 110), (UInt8.ofNat 100), (UInt8.ofNat 10)]))))) 9223372036854775807) <|
   some ((lapp d11.1 [(UInt8.ofNat 101), (UInt8.ofNat 110), (UInt8.ofNat 100), (UInt8.ofNat 10)]), ()))) N ((lapp p10.1 [(UInt8.ofNat 10)]), (0, ()))
noncomputable def q_ref18_Func : Lift := ⟨tyX, look2 .todo (α := LoopAs) (.n 12 [(3, (.as ⟨[], [[.fix, .fix, .fix, .fix, .fix, .fix, .fix, .fix, .fix, .fix, .fix]], (.one, [.junk]) :: (.one, [.stat (.ptr 0 0)]) :: (.one, [.junk]) :: (.one, [.hole .str]) :: (.one, [.hole tI]) :: rp 28 (.one, [.junk]) ([])⟩))] .o .o), [c_ref05_Digits, c_ref18_Head, c_ref12_At, c_ref10_Text], bsX⟩
theorem u_ref18_Func {N : Nat} {a0 : LB} {a1 : Bool} {a2 : LI} {a3 : LI} {a4 : LI} {a5 : LI} {a6 : LC} {a7 : LI} {a8 : LN} {a9 : LI} {a10 : LS} {q : (LB × Unit)} (h : M_ref18_Func N a0 a1 a2 a3 a4 a5 a6 a7 a8 a9 a10 = some q) : S_ref18_Func a0 a1 a2 a3 a4 a5 a6 a7 a8 a9 a10 = some q :=
 Sof_of (Q := q_ref18_Func) (N := N) (n := 3) (f := 12) (tin := i_ref18_Func) (tout := o_ref18_Func) (d := (a0, (a1, (a2, (a3, (a4, (a5, (a6, (a7, (a8, (a9, (a10, ())))))))))))) (all1 k_ref05_Digits (all1 k_ref18_Head (all1 k_ref12_At (all1 k_ref10_Text all0)))) bs_ok (by kernel_rfl) (by kernel_rfl) (by kernel_rfl) (Eq.trans (b := M_ref18_Func N a0 a1 a2 a3 a4 a5 a6 a7 a8 a9 a10) (by kernel_rfl) h)

end Go.Proofs.YtkdnbnkbnegckaaDoor
