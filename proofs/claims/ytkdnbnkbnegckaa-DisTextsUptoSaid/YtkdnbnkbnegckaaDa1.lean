/- Functions, lifted: what the program comes to by them. -/
import Derived.Test.YtkdnbnkbnegckaaDaA
namespace Go.Proofs.Ytkdnbnkbnegckaa
open Go.RowKit
set_option maxRecDepth 100000
set_option linter.unusedVariables false
noncomputable def M_ref18_Head (N : Nat) (l_0 : LB) (b_1 : Bool) (l_2 : LI) (l_3 : LI) (l_4 : LI) (l_5 : LI) (l_6 : LC) (l_7 : LI) (l_8 : LN) (l_9 : LI) (l_10 : LS) : Option (LB × Unit) :=
 chk (leN (addN (vnum (encS (ByteArray.mk (Array.mk [(UInt8.ofNat 102), (UInt8.ofNat 117), (UInt8.ofNat 110), (UInt8.ofNat 99), (UInt8.ofNat 32)])))) (vnum (encS (ByteArray.mk (Array.mk l_0))))) 9223372036854775807) <|
 chk (leN (addN (vnum (encS (ByteArray.mk (Array.mk (lapp [(UInt8.ofNat 102), (UInt8.ofNat 117), (UInt8.ofNat 110), (UInt8.ofNat 99), (UInt8.ofNat 32)] l_0))))) (vnum (encS (ByteArray.mk (Array.mk [(UInt8.ofNat 32)]))))) 9223372036854775807) <|
 dI l_3 <| fun l1 =>
 bnd (S_ref11_Text l1) <| fun p2 =>
 chk (leN (addN (vnum (encS (ByteArray.mk (Array.mk (lapp (lapp [(UInt8.ofNat 102), (UInt8.ofNat 117), (UInt8.ofNat 110), (UInt8.ofNat 99), (UInt8.ofNat 32)] l_0) [(UInt8.ofNat 32)]))))) (vnum (encS (ByteArray.mk (Array.mk p2.1))))) 9223372036854775807) <|
 chk (leN (addN (vnum (encS (ByteArray.mk (Array.mk (lapp (lapp (lapp [(UInt8.ofNat 102), (UInt8.ofNat 117), (UInt8.ofNat 110), (UInt8.ofNat 99), (UInt8.ofNat 32)] l_0) [(UInt8.ofNat 32)]) p2.1))))) (vnum (encS (ByteArray.mk (Array.mk [(UInt8.ofNat 32)]))))) 9223372036854775807) <|
 dI l_4 <| fun l3 =>
 bnd (S_ref11_Text l3) <| fun p4 =>
 chk (leN (addN (vnum (encS (ByteArray.mk (Array.mk (lapp (lapp (lapp (lapp [(UInt8.ofNat 102), (UInt8.ofNat 117), (UInt8.ofNat 110), (UInt8.ofNat 99), (UInt8.ofNat 32)] l_0) [(UInt8.ofNat 32)]) p2.1) [(UInt8.ofNat 32)]))))) (vnum (encS (ByteArray.mk (Array.mk p4.1))))) 9223372036854775807) <|
 chk (leN (addN (vnum (encS (ByteArray.mk (Array.mk (lapp (lapp (lapp (lapp (lapp [(UInt8.ofNat 102), (UInt8.ofNat 117), (UInt8.ofNat 110), (UInt8.ofNat 99), (UInt8.ofNat 32)] l_0) [(UInt8.ofNat 32)]) p2.1) [(UInt8.ofNat 32)]) p4.1))))) (vnum (encS (ByteArray.mk (Array.mk [(UInt8.ofNat 32)]))))) 9223372036854775807) <|
 dI l_5 <| fun l5 =>
 bnd (S_ref11_Text l5) <| fun p6 =>
 chk (leN (addN (vnum (encS (ByteArray.mk (Array.mk (lapp (lapp (lapp (lapp (lapp (lapp [(UInt8.ofNat 102), (UInt8.ofNat 117), (UInt8.ofNat 110), (UInt8.ofNat 99), (UInt8.ofNat 32)] l_0) [(UInt8.ofNat 32)]) p2.1) [(UInt8.ofNat 32)]) p4.1) [(UInt8.ofNat 32)]))))) (vnum (encS (ByteArray.mk (Array.mk p6.1))))) 9223372036854775807) <|
 cnd b_1
  (chk (leN (addN (vnum (encS (ByteArray.mk (Array.mk (lapp (lapp (lapp (lapp (lapp (lapp (lapp [(UInt8.ofNat 102), (UInt8.ofNat 117), (UInt8.ofNat 110), (UInt8.ofNat 99), (UInt8.ofNat 32)] l_0) [(UInt8.ofNat 32)]) p2.1) [(UInt8.ofNat 32)]) p4.1) [(UInt8.ofNat 32)]) p6.1))))) (vnum (encS (ByteArray.mk (Array.mk [(UInt8.ofNat 32)]))))) 9223372036854775807) <|
  dI l_2 <| fun l7 =>
  bnd (S_ref11_Text l7) <| fun p8 =>
  chk (leN (addN (vnum (encS (ByteArray.mk (Array.mk (lapp (lapp (lapp (lapp (lapp (lapp (lapp (lapp [(UInt8.ofNat 102), (UInt8.ofNat 117), (UInt8.ofNat 110), (UInt8.ofNat 99), (UInt8.ofNat 32)] l_0) [(UInt8.ofNat 32)]) p2.1) [(UInt8.ofNat 32)]) p4.1) [(UInt8.ofNat 32)]) p6.1) [(UInt8.ofNat 32)]))))) (vnum (encS (ByteArray.mk (Array.mk p8.1))))) 9223372036854775807) <|
  some ((lapp (lapp (lapp (lapp (lapp (lapp (lapp (lapp (lapp [(UInt8.ofNat 102), (UInt8.ofNat 117), (UInt8.ofNat 110), (UInt8.ofNat 99), (UInt8.ofNat 32)] l_0) [(UInt8.ofNat 32)]) p2.1) [(UInt8.ofNat 32)]) p4.1) [(UInt8.ofNat 32)]) p6.1) [(UInt8.ofNat 32)]) p8.1), ()))
  (some ((lapp (lapp (lapp (lapp (lapp (lapp (lapp [(UInt8.ofNat 102), (UInt8.ofNat 117), (UInt8.ofNat 110), (UInt8.ofNat 99), (UInt8.ofNat 32)] l_0) [(UInt8.ofNat 32)]) p2.1) [(UInt8.ofNat 32)]) p4.1) [(UInt8.ofNat 32)]) p6.1), ()))
noncomputable def q_ref18_Head : Lift := ⟨tyX, look2 .todo (α := LoopAs) (.o), [c_ref11_Text], bsX⟩
theorem u_ref18_Head {N : Nat} {a0 : LB} {a1 : Bool} {a2 : LI} {a3 : LI} {a4 : LI} {a5 : LI} {a6 : LC} {a7 : LI} {a8 : LN} {a9 : LI} {a10 : LS} {q : (LB × Unit)} (h : M_ref18_Head N a0 a1 a2 a3 a4 a5 a6 a7 a8 a9 a10 = some q) : S_ref18_Head a0 a1 a2 a3 a4 a5 a6 a7 a8 a9 a10 = some q :=
 Sof_of (Q := q_ref18_Head) (N := N) (n := 3) (f := 20) (tin := i_ref18_Head) (tout := o_ref18_Head) (d := (a0, (a1, (a2, (a3, (a4, (a5, (a6, (a7, (a8, (a9, (a10, ())))))))))))) (all1 k_ref11_Text all0) bs_ok (by kernel_rfl) (by kernel_rfl) (by kernel_rfl) (Eq.trans (b := M_ref18_Head N a0 a1 a2 a3 a4 a5 a6 a7 a8 a9 a10) (by kernel_rfl) h)

noncomputable def M_ref12_At (N : Nat) (l_0 : LI) (n_1 : Int) : Option (Int × Unit) :=
 joinK (δ := Unit) (cnd (ltI n_1 0)
   (rightK <| some (0, ()))
   (cnd (leI (vlen (eI l_0)) n_1)
    (rightK <| some (0, ()))
    (qS (eI l_0) <|
    qI n_1 <|
    leftK ())))
 <| fun x1 =>
 chk (leI 0 n_1) <|
 getE tI (eI l_0) (natI n_1) <| fun n2 =>
 some (n2, ())
noncomputable def q_ref12_At : Lift := ⟨tyX, look2 .todo (α := LoopAs) (.n 22 [(1012292, (.as ⟨[], [], (.one, [.fix]) :: (.one, [.fix]) :: rp 15 (.one, [.junk]) ([])⟩))] .o .o), [], bsX⟩
theorem u_ref12_At {N : Nat} {a0 : LI} {a1 : Int} {q : (Int × Unit)} (h : M_ref12_At N a0 a1 = some q) : S_ref12_At a0 a1 = some q :=
 Sof_of (Q := q_ref12_At) (N := N) (n := 3) (f := 22) (tin := i_ref12_At) (tout := o_ref12_At) (d := (a0, (a1, ()))) all0 bs_ok (by kernel_rfl) (by kernel_rfl) (by kernel_rfl) (Eq.trans (b := M_ref12_At N a0 a1) (by kernel_rfl) h)

noncomputable def M_ref18_Func (N : Nat) (l_0 : LB) (b_1 : Bool) (l_2 : LI) (l_3 : LI) (l_4 : LI) (l_5 : LI) (l_6 : LC) (l_7 : LI) (l_8 : LN) (l_9 : LI) (l_10 : LS) : Option (LB × Unit) :=
 dI l_2 <| fun l1 =>
 dI l_3 <| fun l2 =>
 dI l_4 <| fun l3 =>
 dI l_5 <| fun l4 =>
 dC l_6 <| fun l5 =>
 dI l_7 <| fun l6 =>
 dN l_8 <| fun l7 =>
 dI l_9 <| fun l8 =>
 dS l_10 <| fun l9 =>
 bnd (S_ref18_Head l_0 b_1 l1 l2 l3 l4 l5 l6 l7 l8 l9) <| fun p10 =>
 chk (leN (addN (vnum (encS (ByteArray.mk (Array.mk p10.1)))) (vnum (encS (ByteArray.mk (Array.mk [(UInt8.ofNat 10)]))))) 9223372036854775807) <|
 qB (ByteArray.mk (Array.mk l_0)) <|
 qO b_1 <|
 qS (eI l_2) <|
 qS (eI l_3) <|
 qS (eI l_4) <|
 qS (eI l_5) <|
 qS (eC l_6) <|
 qS (eI l_7) <|
 qS (eN l_8) <|
 qS (eI l_9) <|
 qS (eS l_10) <|
 iter (fun (d11 : (LB × (Int × Unit))) again12 =>
  cnd (ltI d11.2.1 (vlen (eC l_6)))
   (chk (leI 0 d11.2.1) <|
   getE tC (eC l_6) (natI d11.2.1) <| fun p13 =>
   dI l_7 <| fun l14 =>
   bnd (S_ref12_At l14 d11.2.1) <| fun p15 =>
   bnd (S_ref05_Digits p15.1) <| fun p16 =>
   chk (leN (addN (vnum (encS (ByteArray.mk (Array.mk d11.1)))) (vnum (encS (ByteArray.mk (Array.mk p16.1))))) 9223372036854775807) <|
   chk (leN (addN (vnum (encS (ByteArray.mk (Array.mk (lapp d11.1 p16.1))))) (vnum (encS (ByteArray.mk (Array.mk [(UInt8.ofNat 32)]))))) 9223372036854775807) <|
   bnd (S_ref10_Text p13.1 p13.2) <| fun p17 =>
   chk (leN (addN (vnum (encS (ByteArray.mk (Array.mk (lapp (lapp d11.1 p16.1) [(UInt8.ofNat 32)]))))) (vnum (encS (ByteArray.mk (Array.mk p17.1))))) 9223372036854775807) <|
   chk (leN (addN (vnum (encS (ByteArray.mk (Array.mk (lapp (lapp (lapp d11.1 p16.1) [(UInt8.ofNat 32)]) p17.1))))) (vnum (encS (ByteArray.mk (Array.mk [(UInt8.ofNat 10)]))))) 9223372036854775807) <|
   qB (ByteArray.mk (Array.mk l_0)) <|
   qO b_1 <|
   qS (eI l_2) <|
   qS (eI l_3) <|
   qS (eI l_4) <|
   qS (eI l_5) <|
   qS (eC l_6) <|
   qS (eI l_7) <|
   qS (eN l_8) <|
   qS (eI l_9) <|
   qS (eS l_10) <|
   again12 ((lapp (lapp (lapp (lapp d11.1 p16.1) [(UInt8.ofNat 32)]) p17.1) [(UInt8.ofNat 10)]), ((wrp .i64 (addI d11.2.1 1)), ())))
   (chk (leN (addN (vnum (encS (ByteArray.mk (Array.mk d11.1)))) (vnum (encS (ByteArray.mk (Array.mk [(UInt8.ofNat 101), (UInt8.ofNat 110), (UInt8.ofNat 100), (UInt8.ofNat 10)]))))) 9223372036854775807) <|
   some ((lapp d11.1 [(UInt8.ofNat 101), (UInt8.ofNat 110), (UInt8.ofNat 100), (UInt8.ofNat 10)]), ()))) N ((lapp p10.1 [(UInt8.ofNat 10)]), (0, ()))
noncomputable def q_ref18_Func : Lift := ⟨tyX, look2 .todo (α := LoopAs) (.n 13 [(3, (.as ⟨[], [[.fix, .fix, .fix, .fix, .fix, .fix, .fix, .fix, .fix, .fix, .fix]], (.one, [.junk]) :: (.one, [.stat (.ptr 0 0)]) :: (.one, [.junk]) :: (.one, [.hole .str]) :: (.one, [.hole tI]) :: rp 28 (.one, [.junk]) ([])⟩))] .o .o), [c_ref18_Head, c_ref12_At, c_ref05_Digits, c_ref10_Text], bsX⟩
theorem u_ref18_Func {N : Nat} {a0 : LB} {a1 : Bool} {a2 : LI} {a3 : LI} {a4 : LI} {a5 : LI} {a6 : LC} {a7 : LI} {a8 : LN} {a9 : LI} {a10 : LS} {q : (LB × Unit)} (h : M_ref18_Func N a0 a1 a2 a3 a4 a5 a6 a7 a8 a9 a10 = some q) : S_ref18_Func a0 a1 a2 a3 a4 a5 a6 a7 a8 a9 a10 = some q :=
 Sof_of (Q := q_ref18_Func) (N := N) (n := 3) (f := 13) (tin := i_ref18_Func) (tout := o_ref18_Func) (d := (a0, (a1, (a2, (a3, (a4, (a5, (a6, (a7, (a8, (a9, (a10, ())))))))))))) (all1 k_ref18_Head (all1 k_ref12_At (all1 k_ref05_Digits (all1 k_ref10_Text all0)))) bs_ok (by kernel_rfl) (by kernel_rfl) (by kernel_rfl) (Eq.trans (b := M_ref18_Func N a0 a1 a2 a3 a4 a5 a6 a7 a8 a9 a10) (by kernel_rfl) h)

noncomputable def M_ref18_Text (N : Nat) (l_0 : LF) : Option (LB × Unit) :=
 qS (eF l_0) <|
 iter (fun (d1 : (LB × (Int × Unit))) again2 =>
  cnd (ltI d1.2.1 (vlen (eF l_0)))
   (chk (leI 0 d1.2.1) <|
   getE tF (eF l_0) (natI d1.2.1) <| fun p3 =>
   dI p3.2.2.1 <| fun l4 =>
   dI p3.2.2.2.1 <| fun l5 =>
   dI p3.2.2.2.2.1 <| fun l6 =>
   dI p3.2.2.2.2.2.1 <| fun l7 =>
   dC p3.2.2.2.2.2.2.1 <| fun l8 =>
   dI p3.2.2.2.2.2.2.2.1 <| fun l9 =>
   dN p3.2.2.2.2.2.2.2.2.1 <| fun l10 =>
   dI p3.2.2.2.2.2.2.2.2.2.1 <| fun l11 =>
   dS p3.2.2.2.2.2.2.2.2.2.2 <| fun l12 =>
   bnd (S_ref18_Func p3.1 p3.2.1 l4 l5 l6 l7 l8 l9 l10 l11 l12) <| fun p13 =>
   chk (leN (addN (vnum (encS (ByteArray.mk (Array.mk d1.1)))) (vnum (encS (ByteArray.mk (Array.mk p13.1))))) 9223372036854775807) <|
   qS (eF l_0) <|
   again2 ((lapp d1.1 p13.1), ((wrp .i64 (addI d1.2.1 1)), ())))
   (some (d1.1, ()))) N ([], (0, ()))
noncomputable def q_ref18_Text : Lift := ⟨tyX, look2 .todo (α := LoopAs) (.n 7 [(3, (.as ⟨[], [[.fix]], (.one, [.junk]) :: (.one, [.stat (.ptr 0 0)]) :: (.one, [.junk]) :: (.one, [.hole .str]) :: (.one, [.hole tI]) :: rp 16 (.one, [.junk]) ([])⟩))] .o .o), [c_ref18_Func], bsX⟩
theorem u_ref18_Text {N : Nat} {a0 : LF} {q : (LB × Unit)} (h : M_ref18_Text N a0 = some q) : S_ref18_Text a0 = some q :=
 Sof_of (Q := q_ref18_Text) (N := N) (n := 3) (f := 7) (tin := i_ref18_Text) (tout := o_ref18_Text) (d := (a0, ())) (all1 k_ref18_Func all0) bs_ok (by kernel_rfl) (by kernel_rfl) (by kernel_rfl) (Eq.trans (b := M_ref18_Text N a0) (by kernel_rfl) h)

noncomputable def M_dis_Head (N : Nat) (l_0 : LB) (b_1 : Bool) (l_2 : LI) (l_3 : LI) (l_4 : LI) (l_5 : LI) (l_6 : LC) (l_7 : LI) (l_8 : LN) (l_9 : LI) (l_10 : LS) : Option (LB × Unit) :=
 dI l_3 <| fun l1 =>
 bnd (S_sig_Text l1) <| fun p2 =>
 dI l_4 <| fun l3 =>
 bnd (S_sig_Text l3) <| fun p4 =>
 dI l_5 <| fun l5 =>
 bnd (S_sig_Text l5) <| fun p6 =>
 joinK (δ := ((List LB) × Unit)) (cnd b_1
   (dI l_2 <| fun l7 =>
   bnd (S_sig_Text l7) <| fun p8 =>
   chk (room 5 (vnum (vcut [[(C.v (Go.Value.string (ByteArray.mk (Array.mk p8.1))))]] 0 1)) 16) <|
   decL .str (vapp [[(C.v (Go.Value.string (ByteArray.mk (Array.mk [(UInt8.ofNat 102), (UInt8.ofNat 117), (UInt8.ofNat 110), (UInt8.ofNat 99)]))))], [(C.v (Go.Value.string (ByteArray.mk (Array.mk l_0))))], [(C.v (Go.Value.string (ByteArray.mk (Array.mk p2.1))))], [(C.v (Go.Value.string (ByteArray.mk (Array.mk p4.1))))], [(C.v (Go.Value.string (ByteArray.mk (Array.mk p6.1))))]] (vcut [[(C.v (Go.Value.string (ByteArray.mk (Array.mk p8.1))))]] 0 1)) <| fun l9 =>
   qB (ByteArray.mk (Array.mk l_0)) <|
   qO b_1 <|
   qS (eI l_2) <|
   qS (eI l_3) <|
   qS (eI l_4) <|
   qS (eI l_5) <|
   qS (eC l_6) <|
   qS (eI l_7) <|
   qS (eN l_8) <|
   qS (eI l_9) <|
   qS (eS l_10) <|
   chk (eqN (addN 5 (vnum (vcut [[(C.v (Go.Value.string (ByteArray.mk (Array.mk p8.1))))]] 0 1))) (vnum (vapp [[(C.v (Go.Value.string (ByteArray.mk (Array.mk [(UInt8.ofNat 102), (UInt8.ofNat 117), (UInt8.ofNat 110), (UInt8.ofNat 99)]))))], [(C.v (Go.Value.string (ByteArray.mk (Array.mk l_0))))], [(C.v (Go.Value.string (ByteArray.mk (Array.mk p2.1))))], [(C.v (Go.Value.string (ByteArray.mk (Array.mk p4.1))))], [(C.v (Go.Value.string (ByteArray.mk (Array.mk p6.1))))]] (vcut [[(C.v (Go.Value.string (ByteArray.mk (Array.mk p8.1))))]] 0 1)))) <|
   leftK (l9, ()))
   (decL .str [[(C.v (Go.Value.string (ByteArray.mk (Array.mk [(UInt8.ofNat 102), (UInt8.ofNat 117), (UInt8.ofNat 110), (UInt8.ofNat 99)]))))], [(C.v (Go.Value.string (ByteArray.mk (Array.mk l_0))))], [(C.v (Go.Value.string (ByteArray.mk (Array.mk p2.1))))], [(C.v (Go.Value.string (ByteArray.mk (Array.mk p4.1))))], [(C.v (Go.Value.string (ByteArray.mk (Array.mk p6.1))))]] <| fun l10 =>
   qB (ByteArray.mk (Array.mk l_0)) <|
   qO b_1 <|
   qS (eI l_2) <|
   qS (eI l_3) <|
   qS (eI l_4) <|
   qS (eI l_5) <|
   qS (eC l_6) <|
   qS (eI l_7) <|
   qS (eN l_8) <|
   qS (eI l_9) <|
   qS (eS l_10) <|
   leftK (l10, ())))
 <| fun p11 =>
 chk (leN (addN 0 (vnum (encL .str p11.1))) (vnum (encL .str p11.1))) <|
 decL .str (vcut (encL .str p11.1) 0 (vnum (encL .str p11.1))) <| fun l12 =>
 bnd (S_strings_Join l12 [(UInt8.ofNat 32)]) <| fun p13 =>
 some (p13.1, ())
noncomputable def q_dis_Head : Lift := ⟨tyX, look2 .todo (α := LoopAs) (.n 9 [(1016389, (.as ⟨[.mu 9 1 .str], [[.fix, .fix, .fix, .fix, .fix, .fix, .fix, .fix, .fix, .fix, .fix]], (.one, [.junk]) :: (.one, [.junk]) :: (.one, [.junk]) :: (.one, [.own 0]) :: rp 22 (.one, [.junk]) ([])⟩))] .o .o), [c_sig_Text, c_strings_Join], bsX⟩
theorem u_dis_Head {N : Nat} {a0 : LB} {a1 : Bool} {a2 : LI} {a3 : LI} {a4 : LI} {a5 : LI} {a6 : LC} {a7 : LI} {a8 : LN} {a9 : LI} {a10 : LS} {q : (LB × Unit)} (h : M_dis_Head N a0 a1 a2 a3 a4 a5 a6 a7 a8 a9 a10 = some q) : S_dis_Head a0 a1 a2 a3 a4 a5 a6 a7 a8 a9 a10 = some q :=
 Sof_of (Q := q_dis_Head) (N := N) (n := 3) (f := 9) (tin := i_dis_Head) (tout := o_dis_Head) (d := (a0, (a1, (a2, (a3, (a4, (a5, (a6, (a7, (a8, (a9, (a10, ())))))))))))) (all1 k_sig_Text (all1 k_strings_Join all0)) bs_ok (by kernel_rfl) (by kernel_rfl) (by kernel_rfl) (Eq.trans (b := M_dis_Head N a0 a1 a2 a3 a4 a5 a6 a7 a8 a9 a10) (by kernel_rfl) h)

noncomputable def M_law15_Small (N : Nat) (l_0 : LB) (b_1 : Bool) (l_2 : LI) (l_3 : LI) (l_4 : LI) (l_5 : LI) (l_6 : LC) (l_7 : LI) (l_8 : LN) (l_9 : LI) (l_10 : LS) : Option (Bool × Unit) :=
 cnd (leI (vlen (eC l_6)) 150)
  (cnd (leI (vlen (eI l_7)) 150)
   (cnd (leI (vlen (eN l_8)) 20)
    (cnd (leI (vlen (eI l_9)) 150)
     (cnd (leI (vlen (eS l_10)) 150)
      (some ((leI (wrp .i64 (addI (wrp .i64 (addI (wrp .i64 (addI (vlen (eI l_3)) (vlen (eI l_4)))) (vlen (eI l_5)))) (vlen (eI l_2)))) 300), ()))
      (some (false, ())))
     (some (false, ())))
    (some (false, ())))
   (some (false, ())))
  (some (false, ()))
noncomputable def q_law15_Small : Lift := ⟨tyX, look2 .todo (α := LoopAs) (.o), [], bsX⟩
theorem u_law15_Small {N : Nat} {a0 : LB} {a1 : Bool} {a2 : LI} {a3 : LI} {a4 : LI} {a5 : LI} {a6 : LC} {a7 : LI} {a8 : LN} {a9 : LI} {a10 : LS} {q : (Bool × Unit)} (h : M_law15_Small N a0 a1 a2 a3 a4 a5 a6 a7 a8 a9 a10 = some q) : S_law15_Small a0 a1 a2 a3 a4 a5 a6 a7 a8 a9 a10 = some q :=
 Sof_of (Q := q_law15_Small) (N := N) (n := 3) (f := 8) (tin := i_law15_Small) (tout := o_law15_Small) (d := (a0, (a1, (a2, (a3, (a4, (a5, (a6, (a7, (a8, (a9, (a10, ())))))))))))) all0 bs_ok (by kernel_rfl) (by kernel_rfl) (by kernel_rfl) (Eq.trans (b := M_law15_Small N a0 a1 a2 a3 a4 a5 a6 a7 a8 a9 a10) (by kernel_rfl) h)

noncomputable def M_law16_Small (N : Nat) (l_0 : LF) : Option (Bool × Unit) :=
 joinK (δ := Unit) (qS (eF l_0) <|
  iter (fun (d1 : (Int × Unit)) again2 =>
   joinK (δ := Unit) (cnd (ltI d1.1 (vlen (eF l_0)))
     (cnd (ltI d1.1 50)
      (qS (eF l_0) <|
      qI d1.1 <|
      leftK ())
      (rightK <| qS (eF l_0) <|
      leftK ()))
     (rightK <| qS (eF l_0) <|
     leftK ()))
   <| fun x3 =>
   chk (leI 0 d1.1) <|
   getE tF (eF l_0) (natI d1.1) <| fun p4 =>
   dI p4.2.2.1 <| fun l5 =>
   dI p4.2.2.2.1 <| fun l6 =>
   dI p4.2.2.2.2.1 <| fun l7 =>
   dI p4.2.2.2.2.2.1 <| fun l8 =>
   dC p4.2.2.2.2.2.2.1 <| fun l9 =>
   dI p4.2.2.2.2.2.2.2.1 <| fun l10 =>
   dN p4.2.2.2.2.2.2.2.2.1 <| fun l11 =>
   dI p4.2.2.2.2.2.2.2.2.2.1 <| fun l12 =>
   dS p4.2.2.2.2.2.2.2.2.2.2 <| fun l13 =>
   bnd (S_law15_Small p4.1 p4.2.1 l5 l6 l7 l8 l9 l10 l11 l12 l13) <| fun p14 =>
   cnd (notB p14.1)
    (rightK <| some (false, ()))
    (qS (eF l_0) <|
    again2 ((wrp .i64 (addI d1.1 1)), ()))) N (0, ()))
 <| fun x15 =>
 some ((leI (vlen (eF l_0)) 50), ())
noncomputable def q_law16_Small : Lift := ⟨tyX, look2 .todo (α := LoopAs) (.n 4 [(2, (.as ⟨[], [[.fix]], (.one, [.junk]) :: (.one, [.stat (.ptr 0 0)]) :: (.one, [.junk]) :: (.one, [.hole tI]) :: rp 22 (.one, [.junk]) ([])⟩)), (1012293, (.as ⟨[], [[.fix]], (.one, [.junk]) :: (.one, [.stat (.ptr 0 0)]) :: (.one, [.junk]) :: (.one, [.fix]) :: rp 22 (.one, [.junk]) ([])⟩)), (1016391, (.as ⟨[], [[.fix]], (.one, [.junk]) :: (.one, [.stat (.ptr 0 0)]) :: rp 24 (.one, [.junk]) ([])⟩))] .o .o), [c_law15_Small], bsX⟩
theorem u_law16_Small {N : Nat} {a0 : LF} {q : (Bool × Unit)} (h : M_law16_Small N a0 = some q) : S_law16_Small a0 = some q :=
 Sof_of (Q := q_law16_Small) (N := N) (n := 3) (f := 4) (tin := i_law16_Small) (tout := o_law16_Small) (d := (a0, ())) (all1 k_law15_Small all0) bs_ok (by kernel_rfl) (by kernel_rfl) (by kernel_rfl) (Eq.trans (b := M_law16_Small N a0) (by kernel_rfl) h)

noncomputable def M_lines_At (N : Nat) (l_0 : LI) (n_1 : Int) : Option (Int × Unit) :=
 joinK (δ := Unit) (cnd (ltI n_1 0)
   (rightK <| some (0, ()))
   (cnd (leI (vlen (eI l_0)) n_1)
    (rightK <| some (0, ()))
    (qS (eI l_0) <|
    qI n_1 <|
    leftK ())))
 <| fun x1 =>
 chk (leI 0 n_1) <|
 getE tI (eI l_0) (natI n_1) <| fun n2 =>
 some (n2, ())
noncomputable def q_lines_At : Lift := ⟨tyX, look2 .todo (α := LoopAs) (.n 18 [(1012292, (.as ⟨[], [], (.one, [.fix]) :: (.one, [.fix]) :: rp 15 (.one, [.junk]) ([])⟩))] .o .o), [], bsX⟩
theorem u_lines_At {N : Nat} {a0 : LI} {a1 : Int} {q : (Int × Unit)} (h : M_lines_At N a0 a1 = some q) : S_lines_At a0 a1 = some q :=
 Sof_of (Q := q_lines_At) (N := N) (n := 3) (f := 18) (tin := i_lines_At) (tout := o_lines_At) (d := (a0, (a1, ()))) all0 bs_ok (by kernel_rfl) (by kernel_rfl) (by kernel_rfl) (Eq.trans (b := M_lines_At N a0 a1) (by kernel_rfl) h)

end Go.Proofs.Ytkdnbnkbnegckaa
