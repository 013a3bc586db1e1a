/- What functions come to: templates, and contracts. -/
import Derived.Test.YtkdnbnkbnegckaaDoorSigP
import Derived.Test.YtkdnbnkbnegckaaDoorTok
namespace Go.Proofs.YtkdnbnkbnegckaaDoor
open Go.RowKit
set_option maxRecDepth 100000
def tyTab : BT (Option Ty) := .n 38 (some tC) (.n 13 (some (.pr .str tW)) (.n 7 (some (.pr tI (.pr tI (.pr .bool tY)))) (.n 4 (some .bool) (.n 3 (some tI) (.n 2 (some tI) .o .o) .o) (.n 6 (some tY) (.n 5 (some tY) .o .o) .o)) (.n 10 (some .str) (.n 9 (some .str) (.n 8 (some (.pr tI (.pr tI (.pr .bool tY)))) .o .o) .o) (.n 12 (some tW) (.n 11 (some .str) .o .o) .o))) (.n 25 (some (.sl 7 tN)) (.n 22 (some (.sl 1 tI)) (.n 21 (some (.int .i32)) (.n 14 (some (.pr .str tW)) .o .o) .o) (.n 24 (some (.sl 1 tI)) (.n 23 (some (.sl 2 tC)) .o .o) .o)) (.n 28 (some tF) (.n 27 (some tF) (.n 26 (some (.sl 4 tS)) .o .o) .o) (.n 37 (some tI) (.n 30 (some tI) .o .o) .o)))) (.n 86 (some tN) (.n 56 (some (.sl 1 .str)) (.n 44 (some (.sl 11 tF)) (.n 43 (some (.sl 11 tF)) (.n 39 (some tC) .o .o) .o) (.n 49 (some (.sl 1 tY)) (.n 45 (some (.sl 11 tF)) .o .o) .o)) (.n 62 (some tS) (.n 61 (some tS) (.n 60 (some tW) .o .o) .o) (.n 85 (some tN) (.n 73 (some tI) .o .o) .o))) (.n 117 (some tI) (.n 99 (some (.pr tY (.pr tY (.pr tY (.pr tY (.pr tY (.pr tY (.pr tY (.pr tY (.pr tY (.pr tY (.pr tY (.pr tY (.pr tY (.pr tY (.pr tY (.pr tY (.pr tY (.pr tY (.pr tY (.pr tY (.pr tY (.pr tY (.pr tY (.pr tY (.pr tY (.pr tY (.pr tY (.pr tY (.pr tY (.pr tY (.pr tY (.pr tY (.pr tY (.pr tY (.pr tY (.pr tY (.pr tY (.pr tY (.pr tY (.pr tY (.pr tY (.pr tY (.pr tY (.pr tY (.pr tY (.pr tY (.pr tY (.pr tY (.pr tY (.pr tY (.pr tY (.pr tY (.pr tY (.pr tY (.pr tY (.pr tY (.pr tY (.pr tY (.pr tY (.pr tY (.pr tY (.pr tY (.pr tY tY)))))))))))))))))))))))))))))))))))))))))))))))))))))))))))))))) (.n 96 (some tN) (.n 92 (some (.sl 1 (.int .i32))) .o .o) .o) (.n 109 (some (.int .u32)) (.n 100 (some tW) .o .o) .o)) (.n 126 (some tY) (.n 125 (some tY) (.n 119 (some (.pr tI (.pr tI (.pr tI (.pr tI (.pr tI (.pr tI (.pr tI (.pr tI (.pr tI (.pr tI (.pr tI (.pr tI (.pr tI (.pr tI (.pr tI (.pr tI (.pr tI (.pr tI (.pr tI (.pr tI (.pr tI (.pr tI (.pr tI (.pr tI (.pr tI (.pr tI (.pr tI (.pr tI tN))))))))))))))))))))))))))))) .o .o) .o) (.n 129 (some (.int .i32)) (.n 128 (some (.int .i32)) .o .o) .o))))
def tyX : TypeId → Option Ty := tyTab.get none
def bsX : FuncId → Bool := fun f => f == 21 || f == 30 || f == 55 || f == 38 || f == 33 || f == 35 || f == 34 || f == 29 || f == 42
theorem bs_ok : ∀ f a h, (annX.base f a h).isSome = true → bsX f = true := by
 intro f a h hh
 simp only [annX, annOf, baseX, noneX] at hh
 repeat' split at hh
 all_goals first
  | cases hh
  | (rename_i e; subst e; rfl)
def i_law15_Small : Tpl := ⟨[], [], [(.agg, [.hole .str, .hole .bool, .hole (.sl 1 tI), .hole (.sl 1 tI), .hole (.sl 1 tI), .hole (.sl 1 tI), .hole (.sl 2 tC), .hole (.sl 1 tI), .hole (.sl 7 tN), .hole (.sl 1 tI), .hole (.sl 4 tS)])]⟩
def o_law15_Small : Tpl := ⟨[], [], [(.one, [.hole .bool])]⟩
noncomputable def S_law15_Small (a0 : LB) (a1 : Bool) (a2 : LI) (a3 : LI) (a4 : LI) (a5 : LI) (a6 : LC) (a7 : LI) (a8 : LN) (a9 : LI) (a10 : LS) : Option (Bool × Unit) := Sof Tryd.prog annX plansX 4 i_law15_Small o_law15_Small (a0, (a1, (a2, (a3, (a4, (a5, (a6, (a7, (a8, (a9, (a10, ())))))))))))
noncomputable def c_law15_Small : Ctr := ⟨4, i_law15_Small, o_law15_Small, fun d => S_law15_Small d.1 d.2.1 d.2.2.1 d.2.2.2.1 d.2.2.2.2.1 d.2.2.2.2.2.1 d.2.2.2.2.2.2.1 d.2.2.2.2.2.2.2.1 d.2.2.2.2.2.2.2.2.1 d.2.2.2.2.2.2.2.2.2.1 d.2.2.2.2.2.2.2.2.2.2.1⟩
theorem k_law15_Small : (c_law15_Small).ok Tryd.prog annX plansX := ctr_ok (tin := i_law15_Small) (tout := o_law15_Small)
def i_ref05_May : Tpl := ⟨[], [], [(.one, [.hole .str])]⟩
def o_ref05_May : Tpl := ⟨[], [], [(.one, [.hole .bool])]⟩
noncomputable def S_ref05_May (a0 : LB) : Option (Bool × Unit) := Sof Tryd.prog annX plansX 13 i_ref05_May o_ref05_May (a0, ())
noncomputable def c_ref05_May : Ctr := ⟨13, i_ref05_May, o_ref05_May, fun d => S_ref05_May d.1⟩
theorem k_ref05_May : (c_ref05_May).ok Tryd.prog annX plansX := ctr_ok (tin := i_ref05_May) (tout := o_ref05_May)
def i_ref11_May : Tpl := ⟨[], [], [(.one, [.hole tI])]⟩
def o_ref11_May : Tpl := ⟨[], [], [(.one, [.hole .bool])]⟩
noncomputable def S_ref11_May (a0 : Int) : Option (Bool × Unit) := Sof Tryd.prog annX plansX 39 i_ref11_May o_ref11_May (a0, ())
noncomputable def c_ref11_May : Ctr := ⟨39, i_ref11_May, o_ref11_May, fun d => S_ref11_May d.1⟩
theorem k_ref11_May : (c_ref11_May).ok Tryd.prog annX plansX := ctr_ok (tin := i_ref11_May) (tout := o_ref11_May)
def i_ref11_Right : Tpl := ⟨[], [], [(.one, [.hole (.sl 1 tI)]), (.one, [.hole tI])]⟩
def o_ref11_Right : Tpl := ⟨[], [], [(.one, [.hole .bool])]⟩
noncomputable def S_ref11_Right (a0 : LI) (a1 : Int) : Option (Bool × Unit) := Sof Tryd.prog annX plansX 14 i_ref11_Right o_ref11_Right (a0, (a1, ()))
noncomputable def c_ref11_Right : Ctr := ⟨14, i_ref11_Right, o_ref11_Right, fun d => S_ref11_Right d.1 d.2.1⟩
theorem k_ref11_Right : (c_ref11_Right).ok Tryd.prog annX plansX := ctr_ok (tin := i_ref11_Right) (tout := o_ref11_Right)
def i_ref09_Operand : Tpl := ⟨[], [], [(.one, [.hole tI])]⟩
def o_ref09_Operand : Tpl := ⟨[], [], [(.one, [.hole tI])]⟩
noncomputable def S_ref09_Operand (a0 : Int) : Option (Int × Unit) := Sof Tryd.prog annX plansX 40 i_ref09_Operand o_ref09_Operand (a0, ())
noncomputable def c_ref09_Operand : Ctr := ⟨40, i_ref09_Operand, o_ref09_Operand, fun d => S_ref09_Operand d.1⟩
theorem k_ref09_Operand : (c_ref09_Operand).ok Tryd.prog annX plansX := ctr_ok (tin := i_ref09_Operand) (tout := o_ref09_Operand)
def i_ref10_most : Tpl := ⟨[], [], [(.one, [.hole tI])]⟩
def o_ref10_most : Tpl := ⟨[], [], [(.one, [.hole tI])]⟩
noncomputable def S_ref10_most (a0 : Int) : Option (Int × Unit) := Sof Tryd.prog annX plansX 41 i_ref10_most o_ref10_most (a0, ())
noncomputable def c_ref10_most : Ctr := ⟨41, i_ref10_most, o_ref10_most, fun d => S_ref10_most d.1⟩
theorem k_ref10_most : (c_ref10_most).ok Tryd.prog annX plansX := ctr_ok (tin := i_ref10_most) (tout := o_ref10_most)
def i_ref10_Right : Tpl := ⟨[], [], [(.agg, [.hole tI, .hole tI])]⟩
def o_ref10_Right : Tpl := ⟨[], [], [(.one, [.hole .bool])]⟩
noncomputable def S_ref10_Right (a0 : Int) (a1 : Int) : Option (Bool × Unit) := Sof Tryd.prog annX plansX 15 i_ref10_Right o_ref10_Right (a0, (a1, ()))
noncomputable def c_ref10_Right : Ctr := ⟨15, i_ref10_Right, o_ref10_Right, fun d => S_ref10_Right d.1 d.2.1⟩
theorem k_ref10_Right : (c_ref10_Right).ok Tryd.prog annX plansX := ctr_ok (tin := i_ref10_Right) (tout := o_ref10_Right)
def i_ref12_Right : Tpl := ⟨[], [], [(.one, [.hole (.sl 1 tI)])]⟩
def o_ref12_Right : Tpl := ⟨[], [], [(.one, [.hole .bool])]⟩
noncomputable def S_ref12_Right (a0 : LI) : Option (Bool × Unit) := Sof Tryd.prog annX plansX 16 i_ref12_Right o_ref12_Right (a0, ())
noncomputable def c_ref12_Right : Ctr := ⟨16, i_ref12_Right, o_ref12_Right, fun d => S_ref12_Right d.1⟩
theorem k_ref12_Right : (c_ref12_Right).ok Tryd.prog annX plansX := ctr_ok (tin := i_ref12_Right) (tout := o_ref12_Right)
def i_ref15_Bare : Tpl := ⟨[], [], [(.agg, [.hole .str, .hole .bool, .hole (.sl 1 tI), .hole (.sl 1 tI), .hole (.sl 1 tI), .hole (.sl 1 tI), .hole (.sl 2 tC), .hole (.sl 1 tI), .hole (.sl 7 tN), .hole (.sl 1 tI), .hole (.sl 4 tS)])]⟩
def o_ref15_Bare : Tpl := ⟨[], [], [(.one, [.hole .bool])]⟩
noncomputable def S_ref15_Bare (a0 : LB) (a1 : Bool) (a2 : LI) (a3 : LI) (a4 : LI) (a5 : LI) (a6 : LC) (a7 : LI) (a8 : LN) (a9 : LI) (a10 : LS) : Option (Bool × Unit) := Sof Tryd.prog annX plansX 28 i_ref15_Bare o_ref15_Bare (a0, (a1, (a2, (a3, (a4, (a5, (a6, (a7, (a8, (a9, (a10, ())))))))))))
noncomputable def c_ref15_Bare : Ctr := ⟨28, i_ref15_Bare, o_ref15_Bare, fun d => S_ref15_Bare d.1 d.2.1 d.2.2.1 d.2.2.2.1 d.2.2.2.2.1 d.2.2.2.2.2.1 d.2.2.2.2.2.2.1 d.2.2.2.2.2.2.2.1 d.2.2.2.2.2.2.2.2.1 d.2.2.2.2.2.2.2.2.2.1 d.2.2.2.2.2.2.2.2.2.2.1⟩
theorem k_ref15_Bare : (c_ref15_Bare).ok Tryd.prog annX plansX := ctr_ok (tin := i_ref15_Bare) (tout := o_ref15_Bare)
def i_ref13_Right : Tpl := ⟨[], [], [(.one, [.hole (.sl 7 tN)])]⟩
def o_ref13_Right : Tpl := ⟨[], [], [(.one, [.hole .bool])]⟩
noncomputable def S_ref13_Right (a0 : LN) : Option (Bool × Unit) := chk (leN a0.length 1000000000 && true) (some (rightTree (a0.map nodeOf), ()))
noncomputable def c_ref13_Right : Ctr := ⟨42, i_ref13_Right, o_ref13_Right, fun d => S_ref13_Right d.1⟩
theorem k_ref13_Right : (c_ref13_Right).ok Tryd.prog annX plansX := fun d q h args0 hw => by
 obtain ⟨h1, h2⟩ := chk_ok h
 cases h2
 simp only [Bool.and_eq_true] at h1
 refine callW_base ?_
 rw [hw]
 exact rightX_of (Nat.le_trans (of_decide_eq_true h1.1) (by decide))
def i_ref03_Range : Tpl := ⟨[], [], [(.one, [.hole tI]), (.one, [.hole tI])]⟩
def o_ref03_Range : Tpl := ⟨[], [], [(.agg, [.hole tW, .hole tW, .hole tW, .hole tW])]⟩
noncomputable def S_ref03_Range (a0 : Int) (a1 : Int) : Option (Int × (Int × (Int × (Int × Unit)))) := Sof Tryd.prog annX plansX 58 i_ref03_Range o_ref03_Range (a0, (a1, ()))
noncomputable def c_ref03_Range : Ctr := ⟨58, i_ref03_Range, o_ref03_Range, fun d => S_ref03_Range d.1 d.2.1⟩
theorem k_ref03_Range : (c_ref03_Range).ok Tryd.prog annX plansX := ctr_ok (tin := i_ref03_Range) (tout := o_ref03_Range)
def i_ref03_Sub : Tpl := ⟨[], [], [(.agg, [.hole tW, .hole tW, .hole tW, .hole tW]), (.agg, [.hole tW, .hole tW, .hole tW, .hole tW])]⟩
def o_ref03_Sub : Tpl := ⟨[], [], [(.agg, [.hole tW, .hole tW, .hole tW, .hole tW])]⟩
noncomputable def S_ref03_Sub (a0 : Int) (a1 : Int) (a2 : Int) (a3 : Int) (a4 : Int) (a5 : Int) (a6 : Int) (a7 : Int) : Option (Int × (Int × (Int × (Int × Unit)))) := Sof Tryd.prog annX plansX 68 i_ref03_Sub o_ref03_Sub (a0, (a1, (a2, (a3, (a4, (a5, (a6, (a7, ()))))))))
noncomputable def c_ref03_Sub : Ctr := ⟨68, i_ref03_Sub, o_ref03_Sub, fun d => S_ref03_Sub d.1 d.2.1 d.2.2.1 d.2.2.2.1 d.2.2.2.2.1 d.2.2.2.2.2.1 d.2.2.2.2.2.2.1 d.2.2.2.2.2.2.2.1⟩
theorem k_ref03_Sub : (c_ref03_Sub).ok Tryd.prog annX plansX := ctr_ok (tin := i_ref03_Sub) (tout := o_ref03_Sub)
def i_ref03_Inside : Tpl := ⟨[], [], [(.agg, [.hole tW, .hole tW, .hole tW, .hole tW]), (.agg, [.hole tW, .hole tW, .hole tW, .hole tW])]⟩
def o_ref03_Inside : Tpl := ⟨[], [], [(.one, [.hole .bool])]⟩
noncomputable def S_ref03_Inside (a0 : Int) (a1 : Int) (a2 : Int) (a3 : Int) (a4 : Int) (a5 : Int) (a6 : Int) (a7 : Int) : Option (Bool × Unit) := Sof Tryd.prog annX plansX 57 i_ref03_Inside o_ref03_Inside (a0, (a1, (a2, (a3, (a4, (a5, (a6, (a7, ()))))))))
noncomputable def c_ref03_Inside : Ctr := ⟨57, i_ref03_Inside, o_ref03_Inside, fun d => S_ref03_Inside d.1 d.2.1 d.2.2.1 d.2.2.2.1 d.2.2.2.2.1 d.2.2.2.2.2.1 d.2.2.2.2.2.2.1 d.2.2.2.2.2.2.2.1⟩
theorem k_ref03_Inside : (c_ref03_Inside).ok Tryd.prog annX plansX := ctr_ok (tin := i_ref03_Inside) (tout := o_ref03_Inside)
def i_ref14_Right : Tpl := ⟨[], [], [(.one, [.hole (.sl 4 tS)]), (.one, [.hole tI])]⟩
def o_ref14_Right : Tpl := ⟨[], [], [(.one, [.hole .bool])]⟩
noncomputable def S_ref14_Right (a0 : LS) (a1 : Int) : Option (Bool × Unit) := Sof Tryd.prog annX plansX 43 i_ref14_Right o_ref14_Right (a0, (a1, ()))
noncomputable def c_ref14_Right : Ctr := ⟨43, i_ref14_Right, o_ref14_Right, fun d => S_ref14_Right d.1 d.2.1⟩
theorem k_ref14_Right : (c_ref14_Right).ok Tryd.prog annX plansX := ctr_ok (tin := i_ref14_Right) (tout := o_ref14_Right)
def i_ref15_tables : Tpl := ⟨[], [], [(.agg, [.hole .str, .hole .bool, .hole (.sl 1 tI), .hole (.sl 1 tI), .hole (.sl 1 tI), .hole (.sl 1 tI), .hole (.sl 2 tC), .hole (.sl 1 tI), .hole (.sl 7 tN), .hole (.sl 1 tI), .hole (.sl 4 tS)]), (.one, [.hole tI])]⟩
def o_ref15_tables : Tpl := ⟨[], [], [(.one, [.hole .bool])]⟩
noncomputable def S_ref15_tables (a0 : LB) (a1 : Bool) (a2 : LI) (a3 : LI) (a4 : LI) (a5 : LI) (a6 : LC) (a7 : LI) (a8 : LN) (a9 : LI) (a10 : LS) (a11 : Int) : Option (Bool × Unit) := Sof Tryd.prog annX plansX 17 i_ref15_tables o_ref15_tables (a0, (a1, (a2, (a3, (a4, (a5, (a6, (a7, (a8, (a9, (a10, (a11, ()))))))))))))
noncomputable def c_ref15_tables : Ctr := ⟨17, i_ref15_tables, o_ref15_tables, fun d => S_ref15_tables d.1 d.2.1 d.2.2.1 d.2.2.2.1 d.2.2.2.2.1 d.2.2.2.2.2.1 d.2.2.2.2.2.2.1 d.2.2.2.2.2.2.2.1 d.2.2.2.2.2.2.2.2.1 d.2.2.2.2.2.2.2.2.2.1 d.2.2.2.2.2.2.2.2.2.2.1 d.2.2.2.2.2.2.2.2.2.2.2.1⟩
theorem k_ref15_tables : (c_ref15_tables).ok Tryd.prog annX plansX := ctr_ok (tin := i_ref15_tables) (tout := o_ref15_tables)
def i_ref15_Can : Tpl := ⟨[], [], [(.agg, [.hole .str, .hole .bool, .hole (.sl 1 tI), .hole (.sl 1 tI), .hole (.sl 1 tI), .hole (.sl 1 tI), .hole (.sl 2 tC), .hole (.sl 1 tI), .hole (.sl 7 tN), .hole (.sl 1 tI), .hole (.sl 4 tS)])]⟩
def o_ref15_Can : Tpl := ⟨[], [], [(.one, [.hole tI])]⟩
noncomputable def S_ref15_Can (a0 : LB) (a1 : Bool) (a2 : LI) (a3 : LI) (a4 : LI) (a5 : LI) (a6 : LC) (a7 : LI) (a8 : LN) (a9 : LI) (a10 : LS) : Option (Int × Unit) := Sof Tryd.prog annX plansX 5 i_ref15_Can o_ref15_Can (a0, (a1, (a2, (a3, (a4, (a5, (a6, (a7, (a8, (a9, (a10, ())))))))))))
noncomputable def c_ref15_Can : Ctr := ⟨5, i_ref15_Can, o_ref15_Can, fun d => S_ref15_Can d.1 d.2.1 d.2.2.1 d.2.2.2.1 d.2.2.2.2.1 d.2.2.2.2.2.1 d.2.2.2.2.2.2.1 d.2.2.2.2.2.2.2.1 d.2.2.2.2.2.2.2.2.1 d.2.2.2.2.2.2.2.2.2.1 d.2.2.2.2.2.2.2.2.2.2.1⟩
theorem k_ref15_Can : (c_ref15_Can).ok Tryd.prog annX plansX := ctr_ok (tin := i_ref15_Can) (tout := o_ref15_Can)
def i_sig_Text : Tpl := ⟨[], [], [(.one, [.hole (.sl 1 tI)])]⟩
def o_sig_Text : Tpl := ⟨[], [], [(.one, [.hole .str])]⟩
noncomputable def S_sig_Text (a0 : LI) : Option (List UInt8 × Unit) := chk (leN a0.length 1000000 && true) (some (textB a0, ()))
noncomputable def c_sig_Text : Ctr := ⟨33, i_sig_Text, o_sig_Text, fun d => S_sig_Text d.1⟩
theorem k_sig_Text : (c_sig_Text).ok Tryd.prog annX plansX := fun d q h args0 hw => by
 obtain ⟨h1, h2⟩ := chk_ok h
 cases h2
 simp only [Bool.and_eq_true] at h1
 refine callW_base ?_
 rw [hw]
 exact typesX_of (Nat.le_trans (of_decide_eq_true h1.1) (by decide))
def i_strings_Join : Tpl := ⟨[], [], [(.one, [.hole (.sl 1 .str)]), (.one, [.hole .str])]⟩
def o_strings_Join : Tpl := ⟨[], [], [(.one, [.hole .str])]⟩
noncomputable def S_strings_Join (a0 : (List LB)) (a1 : LB) : Option (List UInt8 × Unit) := chk ((leN 1 a0.length && leN a0.length 1000000) && leN (Lib.join a0 a1).length 140737488355328) (some (Lib.join a0 a1, ()))
noncomputable def c_strings_Join : Ctr := ⟨34, i_strings_Join, o_strings_Join, fun d => S_strings_Join d.1 d.2.1⟩
theorem k_strings_Join : (c_strings_Join).ok Tryd.prog annX plansX := fun d q h args0 hw => by
 obtain ⟨h1, h2⟩ := chk_ok h
 cases h2
 simp only [Bool.and_eq_true] at h1
 refine callW_base ?_
 rw [hw]
 exact joinX_of (of_decide_eq_true h1.1.1) (of_decide_eq_true h1.1.2) (of_decide_eq_true h1.2)
def i_dis_Head : Tpl := ⟨[], [], [(.agg, [.hole .str, .hole .bool, .hole (.sl 1 tI), .hole (.sl 1 tI), .hole (.sl 1 tI), .hole (.sl 1 tI), .hole (.sl 2 tC), .hole (.sl 1 tI), .hole (.sl 7 tN), .hole (.sl 1 tI), .hole (.sl 4 tS)])]⟩
def o_dis_Head : Tpl := ⟨[], [], [(.one, [.hole .str])]⟩
noncomputable def S_dis_Head (a0 : LB) (a1 : Bool) (a2 : LI) (a3 : LI) (a4 : LI) (a5 : LI) (a6 : LC) (a7 : LI) (a8 : LN) (a9 : LI) (a10 : LS) : Option (LB × Unit) := Sof Tryd.prog annX plansX 9 i_dis_Head o_dis_Head (a0, (a1, (a2, (a3, (a4, (a5, (a6, (a7, (a8, (a9, (a10, ())))))))))))
noncomputable def c_dis_Head : Ctr := ⟨9, i_dis_Head, o_dis_Head, fun d => S_dis_Head d.1 d.2.1 d.2.2.1 d.2.2.2.1 d.2.2.2.2.1 d.2.2.2.2.2.1 d.2.2.2.2.2.2.1 d.2.2.2.2.2.2.2.1 d.2.2.2.2.2.2.2.2.1 d.2.2.2.2.2.2.2.2.2.1 d.2.2.2.2.2.2.2.2.2.2.1⟩
theorem k_dis_Head : (c_dis_Head).ok Tryd.prog annX plansX := ctr_ok (tin := i_dis_Head) (tout := o_dis_Head)
def i_lines_At : Tpl := ⟨[], [], [(.one, [.hole (.sl 1 tI)]), (.one, [.hole tI])]⟩
def o_lines_At : Tpl := ⟨[], [], [(.one, [.hole tI])]⟩
noncomputable def S_lines_At (a0 : LI) (a1 : Int) : Option (Int × Unit) := Sof Tryd.prog annX plansX 22 i_lines_At o_lines_At (a0, (a1, ()))
noncomputable def c_lines_At : Ctr := ⟨22, i_lines_At, o_lines_At, fun d => S_lines_At d.1 d.2.1⟩
theorem k_lines_At : (c_lines_At).ok Tryd.prog annX plansX := ctr_ok (tin := i_lines_At) (tout := o_lines_At)
def i_fnc_Bare : Tpl := ⟨[], [], [(.agg, [.hole .str, .hole .bool, .hole (.sl 1 tI), .hole (.sl 1 tI), .hole (.sl 1 tI), .hole (.sl 1 tI), .hole (.sl 2 tC), .hole (.sl 1 tI), .hole (.sl 7 tN), .hole (.sl 1 tI), .hole (.sl 4 tS)])]⟩
def o_fnc_Bare : Tpl := ⟨[], [], [(.one, [.hole .bool])]⟩
noncomputable def S_fnc_Bare (a0 : LB) (a1 : Bool) (a2 : LI) (a3 : LI) (a4 : LI) (a5 : LI) (a6 : LC) (a7 : LI) (a8 : LN) (a9 : LI) (a10 : LS) : Option (Bool × Unit) := Sof Tryd.prog annX plansX 20 i_fnc_Bare o_fnc_Bare (a0, (a1, (a2, (a3, (a4, (a5, (a6, (a7, (a8, (a9, (a10, ())))))))))))
noncomputable def c_fnc_Bare : Ctr := ⟨20, i_fnc_Bare, o_fnc_Bare, fun d => S_fnc_Bare d.1 d.2.1 d.2.2.1 d.2.2.2.1 d.2.2.2.2.1 d.2.2.2.2.2.1 d.2.2.2.2.2.2.1 d.2.2.2.2.2.2.2.1 d.2.2.2.2.2.2.2.2.1 d.2.2.2.2.2.2.2.2.2.1 d.2.2.2.2.2.2.2.2.2.2.1⟩
theorem k_fnc_Bare : (c_fnc_Bare).ok Tryd.prog annX plansX := ctr_ok (tin := i_fnc_Bare) (tout := o_fnc_Bare)
def i_maps_At : Tpl := ⟨[], [], [(.one, [.hole (.sl 4 tS)]), (.one, [.hole tI])]⟩
def o_maps_At : Tpl := ⟨[], [], [(.agg, [.hole tW, .hole tW, .hole tW, .hole tW])]⟩
noncomputable def S_maps_At (a0 : LS) (a1 : Int) : Option (Int × (Int × (Int × (Int × Unit)))) := Sof Tryd.prog annX plansX 24 i_maps_At o_maps_At (a0, (a1, ()))
noncomputable def c_maps_At : Ctr := ⟨24, i_maps_At, o_maps_At, fun d => S_maps_At d.1 d.2.1⟩
theorem k_maps_At : (c_maps_At).ok Tryd.prog annX plansX := ctr_ok (tin := i_maps_At) (tout := o_maps_At)
def i_ref13_Text : Tpl := ⟨[], [], [(.one, [.hole (.sl 7 tN)])]⟩
def o_ref13_Text : Tpl := ⟨[], [], [(.one, [.hole .str])]⟩
open Classical in
noncomputable def S_ref13_Text (a0 : LN) : Option (List UInt8 × Unit) := if a0.length ≤ 100000 ∧ (∀ n ∈ a0.map nodeOf, Node64 n) ∧ rightTree (a0.map nodeOf) = true then some (treeText (a0.map nodeOf) a0.length, ()) else none
noncomputable def c_ref13_Text : Ctr := ⟨29, i_ref13_Text, o_ref13_Text, fun d => S_ref13_Text d.1⟩
theorem k_ref13_Text : (c_ref13_Text).ok Tryd.prog annX plansX := fun d q h args0 hw => by
 obtain ⟨l, u⟩ := d
 have h : S_ref13_Text l = some q := h
 unfold S_ref13_Text at h
 split at h
 case isFalse => cases h
 rename_i hh
 cases h
 refine callW_base ?_
 rw [hw]
 exact treeXt_of hh.1 hh.2.1 hh.2.2
def i_ref05_Digits : Tpl := ⟨[], [], [(.one, [.hole tI])]⟩
def o_ref05_Digits : Tpl := ⟨[], [], [(.one, [.hole .str])]⟩
noncomputable def S_ref05_Digits (a0 : Int) : Option (List UInt8 × Unit) := chk (leI (-9223372036854775808) a0 && leI a0 9223372036854775807) (some (decB a0, ()))
noncomputable def c_ref05_Digits : Ctr := ⟨30, i_ref05_Digits, o_ref05_Digits, fun d => S_ref05_Digits d.1⟩
theorem k_ref05_Digits : (c_ref05_Digits).ok Tryd.prog annX plansX := fun d q h args0 hw => by
 obtain ⟨h1, h2⟩ := chk_ok h
 cases h2
 simp only [Bool.and_eq_true] at h1
 refine callW_base ?_
 rw [hw]
 exact digX_of (of_decide_eq_true h1.1) (of_decide_eq_true h1.2)
def i_ref14_At : Tpl := ⟨[], [], [(.one, [.hole (.sl 4 tS)]), (.one, [.hole tI])]⟩
def o_ref14_At : Tpl := ⟨[], [], [(.agg, [.hole tW, .hole tW, .hole tW, .hole tW])]⟩
noncomputable def S_ref14_At (a0 : LS) (a1 : Int) : Option (Int × (Int × (Int × (Int × Unit)))) := Sof Tryd.prog annX plansX 32 i_ref14_At o_ref14_At (a0, (a1, ()))
noncomputable def c_ref14_At : Ctr := ⟨32, i_ref14_At, o_ref14_At, fun d => S_ref14_At d.1 d.2.1⟩
theorem k_ref14_At : (c_ref14_At).ok Tryd.prog annX plansX := ctr_ok (tin := i_ref14_At) (tout := o_ref14_At)
def i_ref03_Has : Tpl := ⟨[], [], [(.agg, [.hole tW, .hole tW, .hole tW, .hole tW]), (.one, [.hole tI])]⟩
def o_ref03_Has : Tpl := ⟨[], [], [(.one, [.hole .bool])]⟩
noncomputable def S_ref03_Has (a0 : Int) (a1 : Int) (a2 : Int) (a3 : Int) (a4 : Int) : Option (Bool × Unit) := Sof Tryd.prog annX plansX 52 i_ref03_Has o_ref03_Has (a0, (a1, (a2, (a3, (a4, ())))))
noncomputable def c_ref03_Has : Ctr := ⟨52, i_ref03_Has, o_ref03_Has, fun d => S_ref03_Has d.1 d.2.1 d.2.2.1 d.2.2.2.1 d.2.2.2.2.1⟩
theorem k_ref03_Has : (c_ref03_Has).ok Tryd.prog annX plansX := ctr_ok (tin := i_ref03_Has) (tout := o_ref03_Has)
def i_ref03_List : Tpl := ⟨[], [], [(.agg, [.hole tW, .hole tW, .hole tW, .hole tW])]⟩
def o_ref03_List : Tpl := ⟨[], [], [(.one, [.hole (.sl 1 tI)])]⟩
noncomputable def S_ref03_List (a0 : Int) (a1 : Int) (a2 : Int) (a3 : Int) : Option (LI × Unit) := Sof Tryd.prog annX plansX 31 i_ref03_List o_ref03_List (a0, (a1, (a2, (a3, ()))))
noncomputable def c_ref03_List : Ctr := ⟨31, i_ref03_List, o_ref03_List, fun d => S_ref03_List d.1 d.2.1 d.2.2.1 d.2.2.2.1⟩
theorem k_ref03_List : (c_ref03_List).ok Tryd.prog annX plansX := ctr_ok (tin := i_ref03_List) (tout := o_ref03_List)
def i_ref18_Tables : Tpl := ⟨[], [], [(.agg, [.hole .str, .hole .bool, .hole (.sl 1 tI), .hole (.sl 1 tI), .hole (.sl 1 tI), .hole (.sl 1 tI), .hole (.sl 2 tC), .hole (.sl 1 tI), .hole (.sl 7 tN), .hole (.sl 1 tI), .hole (.sl 4 tS)])]⟩
def o_ref18_Tables : Tpl := ⟨[], [], [(.one, [.hole .str])]⟩
noncomputable def S_ref18_Tables (a0 : LB) (a1 : Bool) (a2 : LI) (a3 : LI) (a4 : LI) (a5 : LI) (a6 : LC) (a7 : LI) (a8 : LN) (a9 : LI) (a10 : LS) : Option (LB × Unit) := Sof Tryd.prog annX plansX 8 i_ref18_Tables o_ref18_Tables (a0, (a1, (a2, (a3, (a4, (a5, (a6, (a7, (a8, (a9, (a10, ())))))))))))
noncomputable def c_ref18_Tables : Ctr := ⟨8, i_ref18_Tables, o_ref18_Tables, fun d => S_ref18_Tables d.1 d.2.1 d.2.2.1 d.2.2.2.1 d.2.2.2.2.1 d.2.2.2.2.2.1 d.2.2.2.2.2.2.1 d.2.2.2.2.2.2.2.1 d.2.2.2.2.2.2.2.2.1 d.2.2.2.2.2.2.2.2.2.1 d.2.2.2.2.2.2.2.2.2.2.1⟩
theorem k_ref18_Tables : (c_ref18_Tables).ok Tryd.prog annX plansX := ctr_ok (tin := i_ref18_Tables) (tout := o_ref18_Tables)
def i_ref11_Text : Tpl := ⟨[], [], [(.one, [.hole (.sl 1 tI)])]⟩
def o_ref11_Text : Tpl := ⟨[], [], [(.one, [.hole .str])]⟩
noncomputable def S_ref11_Text (a0 : LI) : Option (List UInt8 × Unit) := chk (leN a0.length 1000000 && true) (some (textB a0, ()))
noncomputable def c_ref11_Text : Ctr := ⟨35, i_ref11_Text, o_ref11_Text, fun d => S_ref11_Text d.1⟩
theorem k_ref11_Text : (c_ref11_Text).ok Tryd.prog annX plansX := fun d q h args0 hw => by
 obtain ⟨h1, h2⟩ := chk_ok h
 cases h2
 simp only [Bool.and_eq_true] at h1
 refine callW_base ?_
 rw [hw]
 exact typesX_of (Nat.le_trans (of_decide_eq_true h1.1) (by decide))
def i_ref18_Head : Tpl := ⟨[], [], [(.agg, [.hole .str, .hole .bool, .hole (.sl 1 tI), .hole (.sl 1 tI), .hole (.sl 1 tI), .hole (.sl 1 tI), .hole (.sl 2 tC), .hole (.sl 1 tI), .hole (.sl 7 tN), .hole (.sl 1 tI), .hole (.sl 4 tS)])]⟩
def o_ref18_Head : Tpl := ⟨[], [], [(.one, [.hole .str])]⟩
noncomputable def S_ref18_Head (a0 : LB) (a1 : Bool) (a2 : LI) (a3 : LI) (a4 : LI) (a5 : LI) (a6 : LC) (a7 : LI) (a8 : LN) (a9 : LI) (a10 : LS) : Option (LB × Unit) := Sof Tryd.prog annX plansX 10 i_ref18_Head o_ref18_Head (a0, (a1, (a2, (a3, (a4, (a5, (a6, (a7, (a8, (a9, (a10, ())))))))))))
noncomputable def c_ref18_Head : Ctr := ⟨10, i_ref18_Head, o_ref18_Head, fun d => S_ref18_Head d.1 d.2.1 d.2.2.1 d.2.2.2.1 d.2.2.2.2.1 d.2.2.2.2.2.1 d.2.2.2.2.2.2.1 d.2.2.2.2.2.2.2.1 d.2.2.2.2.2.2.2.2.1 d.2.2.2.2.2.2.2.2.2.1 d.2.2.2.2.2.2.2.2.2.2.1⟩
theorem k_ref18_Head : (c_ref18_Head).ok Tryd.prog annX plansX := ctr_ok (tin := i_ref18_Head) (tout := o_ref18_Head)
def i_ref12_At : Tpl := ⟨[], [], [(.one, [.hole (.sl 1 tI)]), (.one, [.hole tI])]⟩
def o_ref12_At : Tpl := ⟨[], [], [(.one, [.hole tI])]⟩
noncomputable def S_ref12_At (a0 : LI) (a1 : Int) : Option (Int × Unit) := Sof Tryd.prog annX plansX 37 i_ref12_At o_ref12_At (a0, (a1, ()))
noncomputable def c_ref12_At : Ctr := ⟨37, i_ref12_At, o_ref12_At, fun d => S_ref12_At d.1 d.2.1⟩
theorem k_ref12_At : (c_ref12_At).ok Tryd.prog annX plansX := ctr_ok (tin := i_ref12_At) (tout := o_ref12_At)
def i_ref10_Text : Tpl := ⟨[], [], [(.agg, [.hole tI, .hole tI])]⟩
def o_ref10_Text : Tpl := ⟨[], [], [(.one, [.hole .str])]⟩
noncomputable def S_ref10_Text (a0 : Int) (a1 : Int) : Option (List UInt8 × Unit) := chk (leI (-9223372036854775808) a1 && leI a1 9223372036854775807) (some (textI (a0, a1), ()))
noncomputable def c_ref10_Text : Ctr := ⟨38, i_ref10_Text, o_ref10_Text, fun d => S_ref10_Text d.1 d.2.1⟩
theorem k_ref10_Text : (c_ref10_Text).ok Tryd.prog annX plansX := fun d q h args0 hw => by
 obtain ⟨h1, h2⟩ := chk_ok h
 cases h2
 simp only [Bool.and_eq_true] at h1
 refine callW_base ?_
 rw [hw]
 exact instrX_of (of_decide_eq_true h1.1) (of_decide_eq_true h1.2)
def i_ref18_Func : Tpl := ⟨[], [], [(.agg, [.hole .str, .hole .bool, .hole (.sl 1 tI), .hole (.sl 1 tI), .hole (.sl 1 tI), .hole (.sl 1 tI), .hole (.sl 2 tC), .hole (.sl 1 tI), .hole (.sl 7 tN), .hole (.sl 1 tI), .hole (.sl 4 tS)])]⟩
def o_ref18_Func : Tpl := ⟨[], [], [(.one, [.hole .str])]⟩
noncomputable def S_ref18_Func (a0 : LB) (a1 : Bool) (a2 : LI) (a3 : LI) (a4 : LI) (a5 : LI) (a6 : LC) (a7 : LI) (a8 : LN) (a9 : LI) (a10 : LS) : Option (LB × Unit) := Sof Tryd.prog annX plansX 12 i_ref18_Func o_ref18_Func (a0, (a1, (a2, (a3, (a4, (a5, (a6, (a7, (a8, (a9, (a10, ())))))))))))
noncomputable def c_ref18_Func : Ctr := ⟨12, i_ref18_Func, o_ref18_Func, fun d => S_ref18_Func d.1 d.2.1 d.2.2.1 d.2.2.2.1 d.2.2.2.2.1 d.2.2.2.2.2.1 d.2.2.2.2.2.2.1 d.2.2.2.2.2.2.2.1 d.2.2.2.2.2.2.2.2.1 d.2.2.2.2.2.2.2.2.2.1 d.2.2.2.2.2.2.2.2.2.2.1⟩
theorem k_ref18_Func : (c_ref18_Func).ok Tryd.prog annX plansX := ctr_ok (tin := i_ref18_Func) (tout := o_ref18_Func)
theorem all0 : ∀ c ∈ ([] : List Ctr), c.ok Tryd.prog annX plansX := fun _ h => by simp at h
theorem all1 {c : Ctr} {cs : List Ctr} (h : c.ok Tryd.prog annX plansX) (hs : ∀ c ∈ cs, c.ok Tryd.prog annX plansX) : ∀ d ∈ c :: cs, d.ok Tryd.prog annX plansX := fun d hd => by
 rcases List.mem_cons.1 hd with rfl | h2
 · exact h
 · exact hs d h2
end Go.Proofs.YtkdnbnkbnegckaaDoor
