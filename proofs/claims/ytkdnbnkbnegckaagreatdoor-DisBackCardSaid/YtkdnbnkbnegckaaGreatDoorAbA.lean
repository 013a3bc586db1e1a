/- What functions come to: templates, and contracts. -/
import Derived.Test.YtkdnbnkbnegckaaGreatDoorSigW
import Derived.Test.YtkdnbnkbnegckaaGreatDoorTok
namespace Go.Proofs.YtkdnbnkbnegckaaGreatDoor
open Go.RowKit
set_option maxRecDepth 100000
def tyTab : BT (Option Ty) := .n 41 (some (.sl 11 tF)) (.n 21 (some (.int .i32)) (.n 8 (some (.pr tI (.pr tI (.pr .bool tY)))) (.n 5 (some tY) (.n 3 (some tI) (.n 2 (some tI) .o .o) (.n 4 (some .bool) .o .o)) (.n 7 (some (.pr tI (.pr tI (.pr .bool tY)))) (.n 6 (some tY) .o .o) .o)) (.n 12 (some tW) (.n 10 (some .str) (.n 9 (some .str) .o .o) (.n 11 (some .str) .o .o)) (.n 14 (some (.pr .str tW)) (.n 13 (some (.pr .str tW)) .o .o) .o))) (.n 31 (some (.sl 1 tI)) (.n 26 (some tI) (.n 24 (some tC) (.n 23 (some tI) .o .o) (.n 25 (some tC) .o .o)) (.n 30 (some (.sl 2 tC)) (.n 29 (some (.sl 1 tI)) .o .o) .o)) (.n 34 (some tF) (.n 33 (some (.sl 4 tS)) (.n 32 (some (.sl 7 tN)) .o .o) .o) (.n 40 (some (.sl 11 tF)) (.n 35 (some tF) .o .o) .o)))) (.n 128 (some (.sl 1 (.int .i32))) (.n 99 (some tI) (.n 74 (some (.pr (.sl 11 tF) .bool)) (.n 56 (some (.sl 1 .str)) (.n 42 (some (.sl 11 tF)) .o .o) (.n 62 (some (.pr (.sl 1 tI) (.pr (.sl 1 tI) (.pr (.sl 1 tI) (.sl 1 tI))))) .o .o)) (.n 83 (some (.sl 1 tY)) (.n 75 (some (.pr (.sl 11 tF) .bool)) .o .o) .o)) (.n 104 (some tS) (.n 102 (some tN) (.n 101 (some tN) .o .o) (.n 103 (some tW) .o .o)) (.n 125 (some tI) (.n 105 (some tS) .o .o) .o))) (.n 168 (some (.pr tY tY)) (.n 155 (some (.int .u32)) (.n 146 (some (.pr tI (.pr tI (.pr tI (.pr tI (.pr tI (.pr tI (.pr tI (.pr tI (.pr tI (.pr tI (.pr tI (.pr tI (.pr tI (.pr tI (.pr tI (.pr tI (.pr tI (.pr tI (.pr tI (.pr tI (.pr tI (.pr tI (.pr tI (.pr tI (.pr tI (.pr tI (.pr tI (.pr tI tN))))))))))))))))))))))))))))) (.n 145 (some tW) .o .o) (.n 148 (some tN) .o .o)) (.n 167 (some (.pr tY tY)) (.n 166 (some (.pr tY (.pr tY (.pr tY (.pr tY (.pr tY (.pr tY (.pr tY (.pr tY (.pr tY (.pr tY (.pr tY (.pr tY (.pr tY (.pr tY (.pr tY (.pr tY (.pr tY (.pr tY (.pr tY (.pr tY (.pr tY (.pr tY (.pr tY (.pr tY (.pr tY (.pr tY (.pr tY (.pr tY (.pr tY (.pr tY (.pr tY (.pr tY (.pr tY (.pr tY (.pr tY (.pr tY (.pr tY (.pr tY (.pr tY (.pr tY (.pr tY (.pr tY (.pr tY (.pr tY (.pr tY (.pr tY (.pr tY (.pr tY (.pr tY (.pr tY (.pr tY (.pr tY (.pr tY (.pr tY (.pr tY (.pr tY (.pr tY (.pr tY (.pr tY (.pr tY (.pr tY (.pr tY (.pr tY (.pr tY (.pr tY (.pr tY (.pr tY (.pr tY (.pr tY (.pr tY (.pr tY (.pr tY (.pr tY (.pr tY (.pr tY (.pr tY (.pr tY (.pr tY (.pr tY (.pr tY (.pr tY (.pr tY (.pr tY (.pr tY (.pr tY (.pr tY (.pr tY (.pr tY (.pr tY (.pr tY (.pr tY (.pr tY (.pr tY (.pr tY (.pr tY (.pr tY (.pr tY (.pr tY (.pr tY (.pr tY (.pr tY (.pr tY (.pr tY (.pr tY (.pr tY (.pr tY (.pr tY (.pr tY (.pr tY (.pr tY (.pr tY (.pr tY (.pr tY (.pr tY (.pr tY (.pr tY (.pr tY (.pr tY (.pr tY (.pr tY (.pr tY (.pr tY (.pr tY (.pr tY (.pr tY (.pr tY (.pr tY (.pr tY (.pr tY (.pr tY (.pr tY (.pr tY (.pr tY (.pr tY (.pr tY (.pr tY (.pr tY (.pr tY (.pr tY (.pr tY (.pr tY (.pr tY (.pr tY (.pr tY (.pr tY (.pr tY (.pr tY (.pr tY (.pr tY (.pr tY (.pr tY (.pr tY (.pr tY (.pr tY (.pr tY (.pr tY (.pr tY (.pr tY (.pr tY (.pr tY (.pr tY (.pr tY (.pr tY (.pr tY (.pr tY (.pr tY (.pr tY (.pr tY (.pr tY (.pr tY (.pr tY (.pr tY (.pr tY (.pr tY (.pr tY (.pr tY (.pr tY (.pr tY (.pr tY (.pr tY (.pr tY (.pr tY (.pr tY (.pr tY (.pr tY (.pr tY (.pr tY (.pr tY (.pr tY (.pr tY (.pr tY (.pr tY (.pr tY (.pr tY (.pr tY (.pr tY (.pr tY (.pr tY (.pr tY (.pr tY (.pr tY (.pr tY (.pr tY (.pr tY (.pr tY (.pr tY (.pr tY (.pr tY (.pr tY (.pr tY (.pr tY (.pr tY (.pr tY (.pr tY (.pr tY (.pr tY (.pr tY (.pr tY (.pr tY (.pr tY (.pr tY (.pr tY (.pr tY (.pr tY (.pr tY (.pr tY (.pr tY (.pr tY (.pr tY (.pr tY (.pr tY (.pr tY (.pr tY (.pr tY (.pr tY (.pr tY (.pr tY (.pr tY (.pr tY (.pr tY (.pr tY (.pr tY (.pr tY (.pr tY (.pr tY (.pr tY (.pr tY (.pr tY (.pr tY (.pr tY (.pr tY (.pr tY (.pr tY (.pr tY (.pr tY tY)))))))))))))))))))))))))))))))))))))))))))))))))))))))))))))))))))))))))))))))))))))))))))))))))))))))))))))))))))))))))))))))))))))))))))))))))))))))))))))))))))))))))))))))))))))))))))))))))))))))))))))))))))))))))))))))))))))))))))))))))))))))))))))))) .o .o) .o)) (.n 181 (some tY) (.n 180 (some tY) (.n 169 (some (.pr tY (.pr tY (.pr tY (.pr tY (.pr tY (.pr tY (.pr tY (.pr tY (.pr tY (.pr tY (.pr tY (.pr tY (.pr tY (.pr tY (.pr tY (.pr tY (.pr tY (.pr tY (.pr tY (.pr tY (.pr tY (.pr tY (.pr tY (.pr tY (.pr tY (.pr tY (.pr tY (.pr tY (.pr tY (.pr tY (.pr tY tY)))))))))))))))))))))))))))))))) .o .o) .o) (.n 184 (some (.int .i32)) (.n 183 (some (.int .i32)) .o .o) .o))))
def tyX : TypeId → Option Ty := tyTab.get none
def bsX : FuncId → Bool := fun f => f == 48 || f == 52 || f == 72 || f == 58 || f == 63 || f == 68
theorem bs_ok : ∀ f a h, (annX.base f a h).isSome = true → bsX f = true := by
 intro f a h hh
 simp only [annX, annOf, baseX, noneX] at hh
 repeat' split at hh
 all_goals first
  | cases hh
  | (rename_i e; subst e; rfl)
def i_asm_words : Tpl := ⟨[], [], [(.one, [.hole .str])]⟩
def o_asm_words : Tpl := ⟨[], [], [(.one, [.hole (.sl 1 .str)])]⟩
noncomputable def S_asm_words (a0 : LB) : Option ((List LB) × Unit) := Sof Tryz.prog annX plansX 23 i_asm_words o_asm_words (a0, ())
noncomputable def c_asm_words : Ctr := ⟨23, i_asm_words, o_asm_words, fun d => S_asm_words d.1⟩
theorem k_asm_words : (c_asm_words).ok Tryz.prog annX plansX := ctr_ok (tin := i_asm_words) (tout := o_asm_words)
def i_ref11_Same : Tpl := ⟨[], [], [(.one, [.hole (.sl 1 tI)]), (.one, [.hole (.sl 1 tI)])]⟩
def o_ref11_Same : Tpl := ⟨[], [], [(.one, [.hole .bool])]⟩
noncomputable def S_ref11_Same (a0 : LI) (a1 : LI) : Option (Bool × Unit) := Sof Tryz.prog annX plansX 29 i_ref11_Same o_ref11_Same (a0, (a1, ()))
noncomputable def c_ref11_Same : Ctr := ⟨29, i_ref11_Same, o_ref11_Same, fun d => S_ref11_Same d.1 d.2.1⟩
theorem k_ref11_Same : (c_ref11_Same).ok Tryz.prog annX plansX := ctr_ok (tin := i_ref11_Same) (tout := o_ref11_Same)
def i_ref15_Code : Tpl := ⟨[], [], [(.one, [.hole (.sl 2 tC)]), (.one, [.hole (.sl 2 tC)])]⟩
def o_ref15_Code : Tpl := ⟨[], [], [(.one, [.hole .bool])]⟩
noncomputable def S_ref15_Code (a0 : LC) (a1 : LC) : Option (Bool × Unit) := Sof Tryz.prog annX plansX 30 i_ref15_Code o_ref15_Code (a0, (a1, ()))
noncomputable def c_ref15_Code : Ctr := ⟨30, i_ref15_Code, o_ref15_Code, fun d => S_ref15_Code d.1 d.2.1⟩
theorem k_ref15_Code : (c_ref15_Code).ok Tryz.prog annX plansX := ctr_ok (tin := i_ref15_Code) (tout := o_ref15_Code)
def i_ref04_Ints : Tpl := ⟨[], [], [(.one, [.hole (.sl 1 tI)]), (.one, [.hole (.sl 1 tI)])]⟩
def o_ref04_Ints : Tpl := ⟨[], [], [(.one, [.hole .bool])]⟩
noncomputable def S_ref04_Ints (a0 : LI) (a1 : LI) : Option (Bool × Unit) := Sof Tryz.prog annX plansX 31 i_ref04_Ints o_ref04_Ints (a0, (a1, ()))
noncomputable def c_ref04_Ints : Ctr := ⟨31, i_ref04_Ints, o_ref04_Ints, fun d => S_ref04_Ints d.1 d.2.1⟩
theorem k_ref04_Ints : (c_ref04_Ints).ok Tryz.prog annX plansX := ctr_ok (tin := i_ref04_Ints) (tout := o_ref04_Ints)
def i_ref13_Same : Tpl := ⟨[], [], [(.one, [.hole (.sl 7 tN)]), (.one, [.hole (.sl 7 tN)])]⟩
def o_ref13_Same : Tpl := ⟨[], [], [(.one, [.hole .bool])]⟩
noncomputable def S_ref13_Same (a0 : LN) (a1 : LN) : Option (Bool × Unit) := Sof Tryz.prog annX plansX 32 i_ref13_Same o_ref13_Same (a0, (a1, ()))
noncomputable def c_ref13_Same : Ctr := ⟨32, i_ref13_Same, o_ref13_Same, fun d => S_ref13_Same d.1 d.2.1⟩
theorem k_ref13_Same : (c_ref13_Same).ok Tryz.prog annX plansX := ctr_ok (tin := i_ref13_Same) (tout := o_ref13_Same)
def i_ref14_Same : Tpl := ⟨[], [], [(.one, [.hole (.sl 4 tS)]), (.one, [.hole (.sl 4 tS)])]⟩
def o_ref14_Same : Tpl := ⟨[], [], [(.one, [.hole .bool])]⟩
noncomputable def S_ref14_Same (a0 : LS) (a1 : LS) : Option (Bool × Unit) := Sof Tryz.prog annX plansX 33 i_ref14_Same o_ref14_Same (a0, (a1, ()))
noncomputable def c_ref14_Same : Ctr := ⟨33, i_ref14_Same, o_ref14_Same, fun d => S_ref14_Same d.1 d.2.1⟩
theorem k_ref14_Same : (c_ref14_Same).ok Tryz.prog annX plansX := ctr_ok (tin := i_ref14_Same) (tout := o_ref14_Same)
def i_ref15_Same : Tpl := ⟨[], [], [(.agg, [.hole .str, .hole .bool, .hole (.sl 1 tI), .hole (.sl 1 tI), .hole (.sl 1 tI), .hole (.sl 1 tI), .hole (.sl 2 tC), .hole (.sl 1 tI), .hole (.sl 7 tN), .hole (.sl 1 tI), .hole (.sl 4 tS)]), (.agg, [.hole .str, .hole .bool, .hole (.sl 1 tI), .hole (.sl 1 tI), .hole (.sl 1 tI), .hole (.sl 1 tI), .hole (.sl 2 tC), .hole (.sl 1 tI), .hole (.sl 7 tN), .hole (.sl 1 tI), .hole (.sl 4 tS)])]⟩
def o_ref15_Same : Tpl := ⟨[], [], [(.one, [.hole .bool])]⟩
noncomputable def S_ref15_Same (a0 : LB) (a1 : Bool) (a2 : LI) (a3 : LI) (a4 : LI) (a5 : LI) (a6 : LC) (a7 : LI) (a8 : LN) (a9 : LI) (a10 : LS) (a11 : LB) (a12 : Bool) (a13 : LI) (a14 : LI) (a15 : LI) (a16 : LI) (a17 : LC) (a18 : LI) (a19 : LN) (a20 : LI) (a21 : LS) : Option (Bool × Unit) := Sof Tryz.prog annX plansX 10 i_ref15_Same o_ref15_Same (a0, (a1, (a2, (a3, (a4, (a5, (a6, (a7, (a8, (a9, (a10, (a11, (a12, (a13, (a14, (a15, (a16, (a17, (a18, (a19, (a20, (a21, ()))))))))))))))))))))))
noncomputable def c_ref15_Same : Ctr := ⟨10, i_ref15_Same, o_ref15_Same, fun d => S_ref15_Same d.1 d.2.1 d.2.2.1 d.2.2.2.1 d.2.2.2.2.1 d.2.2.2.2.2.1 d.2.2.2.2.2.2.1 d.2.2.2.2.2.2.2.1 d.2.2.2.2.2.2.2.2.1 d.2.2.2.2.2.2.2.2.2.1 d.2.2.2.2.2.2.2.2.2.2.1 d.2.2.2.2.2.2.2.2.2.2.2.1 d.2.2.2.2.2.2.2.2.2.2.2.2.1 d.2.2.2.2.2.2.2.2.2.2.2.2.2.1 d.2.2.2.2.2.2.2.2.2.2.2.2.2.2.1 d.2.2.2.2.2.2.2.2.2.2.2.2.2.2.2.1 d.2.2.2.2.2.2.2.2.2.2.2.2.2.2.2.2.1 d.2.2.2.2.2.2.2.2.2.2.2.2.2.2.2.2.2.1 d.2.2.2.2.2.2.2.2.2.2.2.2.2.2.2.2.2.2.1 d.2.2.2.2.2.2.2.2.2.2.2.2.2.2.2.2.2.2.2.1 d.2.2.2.2.2.2.2.2.2.2.2.2.2.2.2.2.2.2.2.2.1 d.2.2.2.2.2.2.2.2.2.2.2.2.2.2.2.2.2.2.2.2.2.1⟩
theorem k_ref15_Same : (c_ref15_Same).ok Tryz.prog annX plansX := ctr_ok (tin := i_ref15_Same) (tout := o_ref15_Same)
def i_law15_Small : Tpl := ⟨[], [], [(.agg, [.hole .str, .hole .bool, .hole (.sl 1 tI), .hole (.sl 1 tI), .hole (.sl 1 tI), .hole (.sl 1 tI), .hole (.sl 2 tC), .hole (.sl 1 tI), .hole (.sl 7 tN), .hole (.sl 1 tI), .hole (.sl 4 tS)])]⟩
def o_law15_Small : Tpl := ⟨[], [], [(.one, [.hole .bool])]⟩
noncomputable def S_law15_Small (a0 : LB) (a1 : Bool) (a2 : LI) (a3 : LI) (a4 : LI) (a5 : LI) (a6 : LC) (a7 : LI) (a8 : LN) (a9 : LI) (a10 : LS) : Option (Bool × Unit) := Sof Tryz.prog annX plansX 34 i_law15_Small o_law15_Small (a0, (a1, (a2, (a3, (a4, (a5, (a6, (a7, (a8, (a9, (a10, ())))))))))))
noncomputable def c_law15_Small : Ctr := ⟨34, i_law15_Small, o_law15_Small, fun d => S_law15_Small d.1 d.2.1 d.2.2.1 d.2.2.2.1 d.2.2.2.2.1 d.2.2.2.2.2.1 d.2.2.2.2.2.2.1 d.2.2.2.2.2.2.2.1 d.2.2.2.2.2.2.2.2.1 d.2.2.2.2.2.2.2.2.2.1 d.2.2.2.2.2.2.2.2.2.2.1⟩
theorem k_law15_Small : (c_law15_Small).ok Tryz.prog annX plansX := ctr_ok (tin := i_law15_Small) (tout := o_law15_Small)
def i_law16_Small : Tpl := ⟨[], [], [(.agg, [.hole (.sl 11 tF)])]⟩
def o_law16_Small : Tpl := ⟨[], [], [(.one, [.hole .bool])]⟩
noncomputable def S_law16_Small (a0 : LF) : Option (Bool × Unit) := Sof Tryz.prog annX plansX 11 i_law16_Small o_law16_Small (a0, ())
noncomputable def c_law16_Small : Ctr := ⟨11, i_law16_Small, o_law16_Small, fun d => S_law16_Small d.1⟩
theorem k_law16_Small : (c_law16_Small).ok Tryz.prog annX plansX := ctr_ok (tin := i_law16_Small) (tout := o_law16_Small)
def i_ref05_May : Tpl := ⟨[], [], [(.one, [.hole .str])]⟩
def o_ref05_May : Tpl := ⟨[], [], [(.one, [.hole .bool])]⟩
noncomputable def S_ref05_May (a0 : LB) : Option (Bool × Unit) := Sof Tryz.prog annX plansX 27 i_ref05_May o_ref05_May (a0, ())
noncomputable def c_ref05_May : Ctr := ⟨27, i_ref05_May, o_ref05_May, fun d => S_ref05_May d.1⟩
theorem k_ref05_May : (c_ref05_May).ok Tryz.prog annX plansX := ctr_ok (tin := i_ref05_May) (tout := o_ref05_May)
def i_ref11_May : Tpl := ⟨[], [], [(.one, [.hole tI])]⟩
def o_ref11_May : Tpl := ⟨[], [], [(.one, [.hole .bool])]⟩
noncomputable def S_ref11_May (a0 : Int) : Option (Bool × Unit) := Sof Tryz.prog annX plansX 83 i_ref11_May o_ref11_May (a0, ())
noncomputable def c_ref11_May : Ctr := ⟨83, i_ref11_May, o_ref11_May, fun d => S_ref11_May d.1⟩
theorem k_ref11_May : (c_ref11_May).ok Tryz.prog annX plansX := ctr_ok (tin := i_ref11_May) (tout := o_ref11_May)
def i_ref11_Right : Tpl := ⟨[], [], [(.one, [.hole (.sl 1 tI)]), (.one, [.hole tI])]⟩
def o_ref11_Right : Tpl := ⟨[], [], [(.one, [.hole .bool])]⟩
noncomputable def S_ref11_Right (a0 : LI) (a1 : Int) : Option (Bool × Unit) := Sof Tryz.prog annX plansX 59 i_ref11_Right o_ref11_Right (a0, (a1, ()))
noncomputable def c_ref11_Right : Ctr := ⟨59, i_ref11_Right, o_ref11_Right, fun d => S_ref11_Right d.1 d.2.1⟩
theorem k_ref11_Right : (c_ref11_Right).ok Tryz.prog annX plansX := ctr_ok (tin := i_ref11_Right) (tout := o_ref11_Right)
def i_ref09_Operand : Tpl := ⟨[], [], [(.one, [.hole tI])]⟩
def o_ref09_Operand : Tpl := ⟨[], [], [(.one, [.hole tI])]⟩
noncomputable def S_ref09_Operand (a0 : Int) : Option (Int × Unit) := Sof Tryz.prog annX plansX 54 i_ref09_Operand o_ref09_Operand (a0, ())
noncomputable def c_ref09_Operand : Ctr := ⟨54, i_ref09_Operand, o_ref09_Operand, fun d => S_ref09_Operand d.1⟩
theorem k_ref09_Operand : (c_ref09_Operand).ok Tryz.prog annX plansX := ctr_ok (tin := i_ref09_Operand) (tout := o_ref09_Operand)
def i_ref10_most : Tpl := ⟨[], [], [(.one, [.hole tI])]⟩
def o_ref10_most : Tpl := ⟨[], [], [(.one, [.hole tI])]⟩
noncomputable def S_ref10_most (a0 : Int) : Option (Int × Unit) := Sof Tryz.prog annX plansX 81 i_ref10_most o_ref10_most (a0, ())
noncomputable def c_ref10_most : Ctr := ⟨81, i_ref10_most, o_ref10_most, fun d => S_ref10_most d.1⟩
theorem k_ref10_most : (c_ref10_most).ok Tryz.prog annX plansX := ctr_ok (tin := i_ref10_most) (tout := o_ref10_most)
def i_ref10_Right : Tpl := ⟨[], [], [(.agg, [.hole tI, .hole tI])]⟩
def o_ref10_Right : Tpl := ⟨[], [], [(.one, [.hole .bool])]⟩
noncomputable def S_ref10_Right (a0 : Int) (a1 : Int) : Option (Bool × Unit) := Sof Tryz.prog annX plansX 55 i_ref10_Right o_ref10_Right (a0, (a1, ()))
noncomputable def c_ref10_Right : Ctr := ⟨55, i_ref10_Right, o_ref10_Right, fun d => S_ref10_Right d.1 d.2.1⟩
theorem k_ref10_Right : (c_ref10_Right).ok Tryz.prog annX plansX := ctr_ok (tin := i_ref10_Right) (tout := o_ref10_Right)
def i_ref12_Right : Tpl := ⟨[], [], [(.one, [.hole (.sl 1 tI)])]⟩
def o_ref12_Right : Tpl := ⟨[], [], [(.one, [.hole .bool])]⟩
noncomputable def S_ref12_Right (a0 : LI) : Option (Bool × Unit) := Sof Tryz.prog annX plansX 60 i_ref12_Right o_ref12_Right (a0, ())
noncomputable def c_ref12_Right : Ctr := ⟨60, i_ref12_Right, o_ref12_Right, fun d => S_ref12_Right d.1⟩
theorem k_ref12_Right : (c_ref12_Right).ok Tryz.prog annX plansX := ctr_ok (tin := i_ref12_Right) (tout := o_ref12_Right)
def i_ref15_Bare : Tpl := ⟨[], [], [(.agg, [.hole .str, .hole .bool, .hole (.sl 1 tI), .hole (.sl 1 tI), .hole (.sl 1 tI), .hole (.sl 1 tI), .hole (.sl 2 tC), .hole (.sl 1 tI), .hole (.sl 7 tN), .hole (.sl 1 tI), .hole (.sl 4 tS)])]⟩
def o_ref15_Bare : Tpl := ⟨[], [], [(.one, [.hole .bool])]⟩
noncomputable def S_ref15_Bare (a0 : LB) (a1 : Bool) (a2 : LI) (a3 : LI) (a4 : LI) (a5 : LI) (a6 : LC) (a7 : LI) (a8 : LN) (a9 : LI) (a10 : LS) : Option (Bool × Unit) := Sof Tryz.prog annX plansX 14 i_ref15_Bare o_ref15_Bare (a0, (a1, (a2, (a3, (a4, (a5, (a6, (a7, (a8, (a9, (a10, ())))))))))))
noncomputable def c_ref15_Bare : Ctr := ⟨14, i_ref15_Bare, o_ref15_Bare, fun d => S_ref15_Bare d.1 d.2.1 d.2.2.1 d.2.2.2.1 d.2.2.2.2.1 d.2.2.2.2.2.1 d.2.2.2.2.2.2.1 d.2.2.2.2.2.2.2.1 d.2.2.2.2.2.2.2.2.1 d.2.2.2.2.2.2.2.2.2.1 d.2.2.2.2.2.2.2.2.2.2.1⟩
theorem k_ref15_Bare : (c_ref15_Bare).ok Tryz.prog annX plansX := ctr_ok (tin := i_ref15_Bare) (tout := o_ref15_Bare)
def i_ref13_Right : Tpl := ⟨[], [], [(.one, [.hole (.sl 7 tN)])]⟩
def o_ref13_Right : Tpl := ⟨[], [], [(.one, [.hole .bool])]⟩
noncomputable def S_ref13_Right (a0 : LN) : Option (Bool × Unit) := Sof Tryz.prog annX plansX 84 i_ref13_Right o_ref13_Right (a0, ())
noncomputable def c_ref13_Right : Ctr := ⟨84, i_ref13_Right, o_ref13_Right, fun d => S_ref13_Right d.1⟩
theorem k_ref13_Right : (c_ref13_Right).ok Tryz.prog annX plansX := ctr_ok (tin := i_ref13_Right) (tout := o_ref13_Right)
def i_ref03_Range : Tpl := ⟨[], [], [(.one, [.hole tI]), (.one, [.hole tI])]⟩
def o_ref03_Range : Tpl := ⟨[], [], [(.agg, [.hole tW, .hole tW, .hole tW, .hole tW])]⟩
noncomputable def S_ref03_Range (a0 : Int) (a1 : Int) : Option (Int × (Int × (Int × (Int × Unit)))) := Sof Tryz.prog annX plansX 106 i_ref03_Range o_ref03_Range (a0, (a1, ()))
noncomputable def c_ref03_Range : Ctr := ⟨106, i_ref03_Range, o_ref03_Range, fun d => S_ref03_Range d.1 d.2.1⟩
theorem k_ref03_Range : (c_ref03_Range).ok Tryz.prog annX plansX := ctr_ok (tin := i_ref03_Range) (tout := o_ref03_Range)
def i_ref03_Sub : Tpl := ⟨[], [], [(.agg, [.hole tW, .hole tW, .hole tW, .hole tW]), (.agg, [.hole tW, .hole tW, .hole tW, .hole tW])]⟩
def o_ref03_Sub : Tpl := ⟨[], [], [(.agg, [.hole tW, .hole tW, .hole tW, .hole tW])]⟩
noncomputable def S_ref03_Sub (a0 : Int) (a1 : Int) (a2 : Int) (a3 : Int) (a4 : Int) (a5 : Int) (a6 : Int) (a7 : Int) : Option (Int × (Int × (Int × (Int × Unit)))) := Sof Tryz.prog annX plansX 122 i_ref03_Sub o_ref03_Sub (a0, (a1, (a2, (a3, (a4, (a5, (a6, (a7, ()))))))))
noncomputable def c_ref03_Sub : Ctr := ⟨122, i_ref03_Sub, o_ref03_Sub, fun d => S_ref03_Sub d.1 d.2.1 d.2.2.1 d.2.2.2.1 d.2.2.2.2.1 d.2.2.2.2.2.1 d.2.2.2.2.2.2.1 d.2.2.2.2.2.2.2.1⟩
theorem k_ref03_Sub : (c_ref03_Sub).ok Tryz.prog annX plansX := ctr_ok (tin := i_ref03_Sub) (tout := o_ref03_Sub)
def i_ref03_Inside : Tpl := ⟨[], [], [(.agg, [.hole tW, .hole tW, .hole tW, .hole tW]), (.agg, [.hole tW, .hole tW, .hole tW, .hole tW])]⟩
def o_ref03_Inside : Tpl := ⟨[], [], [(.one, [.hole .bool])]⟩
noncomputable def S_ref03_Inside (a0 : Int) (a1 : Int) (a2 : Int) (a3 : Int) (a4 : Int) (a5 : Int) (a6 : Int) (a7 : Int) : Option (Bool × Unit) := Sof Tryz.prog annX plansX 105 i_ref03_Inside o_ref03_Inside (a0, (a1, (a2, (a3, (a4, (a5, (a6, (a7, ()))))))))
noncomputable def c_ref03_Inside : Ctr := ⟨105, i_ref03_Inside, o_ref03_Inside, fun d => S_ref03_Inside d.1 d.2.1 d.2.2.1 d.2.2.2.1 d.2.2.2.2.1 d.2.2.2.2.2.1 d.2.2.2.2.2.2.1 d.2.2.2.2.2.2.2.1⟩
theorem k_ref03_Inside : (c_ref03_Inside).ok Tryz.prog annX plansX := ctr_ok (tin := i_ref03_Inside) (tout := o_ref03_Inside)
def i_ref14_Right : Tpl := ⟨[], [], [(.one, [.hole (.sl 4 tS)]), (.one, [.hole tI])]⟩
def o_ref14_Right : Tpl := ⟨[], [], [(.one, [.hole .bool])]⟩
noncomputable def S_ref14_Right (a0 : LS) (a1 : Int) : Option (Bool × Unit) := Sof Tryz.prog annX plansX 85 i_ref14_Right o_ref14_Right (a0, (a1, ()))
noncomputable def c_ref14_Right : Ctr := ⟨85, i_ref14_Right, o_ref14_Right, fun d => S_ref14_Right d.1 d.2.1⟩
theorem k_ref14_Right : (c_ref14_Right).ok Tryz.prog annX plansX := ctr_ok (tin := i_ref14_Right) (tout := o_ref14_Right)
def i_ref15_tables : Tpl := ⟨[], [], [(.agg, [.hole .str, .hole .bool, .hole (.sl 1 tI), .hole (.sl 1 tI), .hole (.sl 1 tI), .hole (.sl 1 tI), .hole (.sl 2 tC), .hole (.sl 1 tI), .hole (.sl 7 tN), .hole (.sl 1 tI), .hole (.sl 4 tS)]), (.one, [.hole tI])]⟩
def o_ref15_tables : Tpl := ⟨[], [], [(.one, [.hole .bool])]⟩
noncomputable def S_ref15_tables (a0 : LB) (a1 : Bool) (a2 : LI) (a3 : LI) (a4 : LI) (a5 : LI) (a6 : LC) (a7 : LI) (a8 : LN) (a9 : LI) (a10 : LS) (a11 : Int) : Option (Bool × Unit) := Sof Tryz.prog annX plansX 61 i_ref15_tables o_ref15_tables (a0, (a1, (a2, (a3, (a4, (a5, (a6, (a7, (a8, (a9, (a10, (a11, ()))))))))))))
noncomputable def c_ref15_tables : Ctr := ⟨61, i_ref15_tables, o_ref15_tables, fun d => S_ref15_tables d.1 d.2.1 d.2.2.1 d.2.2.2.1 d.2.2.2.2.1 d.2.2.2.2.2.1 d.2.2.2.2.2.2.1 d.2.2.2.2.2.2.2.1 d.2.2.2.2.2.2.2.2.1 d.2.2.2.2.2.2.2.2.2.1 d.2.2.2.2.2.2.2.2.2.2.1 d.2.2.2.2.2.2.2.2.2.2.2.1⟩
theorem k_ref15_tables : (c_ref15_tables).ok Tryz.prog annX plansX := ctr_ok (tin := i_ref15_tables) (tout := o_ref15_tables)
def i_ref16_Names : Tpl := ⟨[], [], [(.agg, [.hole (.sl 11 tF)])]⟩
def o_ref16_Names : Tpl := ⟨[], [], [(.one, [.hole (.sl 1 .str)])]⟩
noncomputable def S_ref16_Names (a0 : LF) : Option ((List LB) × Unit) := Sof Tryz.prog annX plansX 37 i_ref16_Names o_ref16_Names (a0, ())
noncomputable def c_ref16_Names : Ctr := ⟨37, i_ref16_Names, o_ref16_Names, fun d => S_ref16_Names d.1⟩
theorem k_ref16_Names : (c_ref16_Names).ok Tryz.prog annX plansX := ctr_ok (tin := i_ref16_Names) (tout := o_ref16_Names)
def i_ref05_Find : Tpl := ⟨[], [], [(.one, [.hole (.sl 1 .str)]), (.one, [.hole .str])]⟩
def o_ref05_Find : Tpl := ⟨[], [], [(.one, [.hole tI])]⟩
noncomputable def S_ref05_Find (a0 : (List LB)) (a1 : LB) : Option (Int × Unit) := Sof Tryz.prog annX plansX 62 i_ref05_Find o_ref05_Find (a0, (a1, ()))
noncomputable def c_ref05_Find : Ctr := ⟨62, i_ref05_Find, o_ref05_Find, fun d => S_ref05_Find d.1 d.2.1⟩
theorem k_ref05_Find : (c_ref05_Find).ok Tryz.prog annX plansX := ctr_ok (tin := i_ref05_Find) (tout := o_ref05_Find)
def i_ref05_Unlike : Tpl := ⟨[], [], [(.one, [.hole (.sl 1 .str)])]⟩
def o_ref05_Unlike : Tpl := ⟨[], [], [(.one, [.hole .bool])]⟩
noncomputable def S_ref05_Unlike (a0 : (List LB)) : Option (Bool × Unit) := Sof Tryz.prog annX plansX 36 i_ref05_Unlike o_ref05_Unlike (a0, ())
noncomputable def c_ref05_Unlike : Ctr := ⟨36, i_ref05_Unlike, o_ref05_Unlike, fun d => S_ref05_Unlike d.1⟩
theorem k_ref05_Unlike : (c_ref05_Unlike).ok Tryz.prog annX plansX := ctr_ok (tin := i_ref05_Unlike) (tout := o_ref05_Unlike)
def i_ref16_Same : Tpl := ⟨[], [], [(.agg, [.hole (.sl 11 tF)]), (.agg, [.hole (.sl 11 tF)])]⟩
def o_ref16_Same : Tpl := ⟨[], [], [(.one, [.hole .bool])]⟩
noncomputable def S_ref16_Same (a0 : LF) (a1 : LF) : Option (Bool × Unit) := Sof Tryz.prog annX plansX 17 i_ref16_Same o_ref16_Same (a0, (a1, ()))
noncomputable def c_ref16_Same : Ctr := ⟨17, i_ref16_Same, o_ref16_Same, fun d => S_ref16_Same d.1 d.2.1⟩
theorem k_ref16_Same : (c_ref16_Same).ok Tryz.prog annX plansX := ctr_ok (tin := i_ref16_Same) (tout := o_ref16_Same)
def i__instr_operand_most : Tpl := ⟨[], [], [(.one, [.hole tI])]⟩
def o__instr_operand_most : Tpl := ⟨[], [], [(.one, [.hole tI])]⟩
noncomputable def S__instr_operand_most (a0 : Int) : Option (Int × Unit) := Sof Tryz.prog annX plansX 104 i__instr_operand_most o__instr_operand_most (a0, ())
noncomputable def c__instr_operand_most : Ctr := ⟨104, i__instr_operand_most, o__instr_operand_most, fun d => S__instr_operand_most d.1⟩
theorem k__instr_operand_most : (c__instr_operand_most).ok Tryz.prog annX plansX := ctr_ok (tin := i__instr_operand_most) (tout := o__instr_operand_most)
def i__instr_operand_may : Tpl := ⟨[], [], [(.one, [.hole tI]), (.one, [.hole tI])]⟩
def o__instr_operand_may : Tpl := ⟨[], [], [(.one, [.hole .bool])]⟩
noncomputable def S__instr_operand_may (a0 : Int) (a1 : Int) : Option (Bool × Unit) := Sof Tryz.prog annX plansX 78 i__instr_operand_may o__instr_operand_may (a0, (a1, ()))
noncomputable def c__instr_operand_may : Ctr := ⟨78, i__instr_operand_may, o__instr_operand_may, fun d => S__instr_operand_may d.1 d.2.1⟩
theorem k__instr_operand_may : (c__instr_operand_may).ok Tryz.prog annX plansX := ctr_ok (tin := i__instr_operand_may) (tout := o__instr_operand_may)
def i_ops_is : Tpl := ⟨[], [], [(.one, [.hole tI])]⟩
def o_ops_is : Tpl := ⟨[], [], [(.one, [.hole .bool])]⟩
noncomputable def S_ops_is (a0 : Int) : Option (Bool × Unit) := Sof Tryz.prog annX plansX 103 i_ops_is o_ops_is (a0, ())
noncomputable def c_ops_is : Ctr := ⟨103, i_ops_is, o_ops_is, fun d => S_ops_is d.1⟩
theorem k_ops_is : (c_ops_is).ok Tryz.prog annX plansX := ctr_ok (tin := i_ops_is) (tout := o_ops_is)
def i_ops_Operand : Tpl := ⟨[], [], [(.one, [.hole tI])]⟩
def o_ops_Operand : Tpl := ⟨[], [], [(.one, [.hole tI])]⟩
noncomputable def S_ops_Operand (a0 : Int) : Option (Int × Unit) := Sof Tryz.prog annX plansX 77 i_ops_Operand o_ops_Operand (a0, ())
noncomputable def c_ops_Operand : Ctr := ⟨77, i_ops_Operand, o_ops_Operand, fun d => S_ops_Operand d.1⟩
theorem k_ops_Operand : (c_ops_Operand).ok Tryz.prog annX plansX := ctr_ok (tin := i_ops_Operand) (tout := o_ops_Operand)
def i_instr_Right : Tpl := ⟨[], [], [(.agg, [.hole tI, .hole tI])]⟩
def o_instr_Right : Tpl := ⟨[], [], [(.one, [.hole .bool])]⟩
noncomputable def S_instr_Right (a0 : Int) (a1 : Int) : Option (Bool × Unit) := Sof Tryz.prog annX plansX 51 i_instr_Right o_instr_Right (a0, (a1, ()))
noncomputable def c_instr_Right : Ctr := ⟨51, i_instr_Right, o_instr_Right, fun d => S_instr_Right d.1 d.2.1⟩
theorem k_instr_Right : (c_instr_Right).ok Tryz.prog annX plansX := ctr_ok (tin := i_instr_Right) (tout := o_instr_Right)
def i_fnc_Can_1 : Tpl := ⟨[], [], [(.agg, [.hole tI, .hole tI])]⟩
def o_fnc_Can_1 : Tpl := ⟨[], [], [(.one, [.hole .bool])]⟩
noncomputable def S_fnc_Can_1 (a0 : Int) (a1 : Int) : Option (Bool × Unit) := Sof Tryz.prog annX plansX 90 i_fnc_Can_1 o_fnc_Can_1 (a0, (a1, ()))
noncomputable def c_fnc_Can_1 : Ctr := ⟨90, i_fnc_Can_1, o_fnc_Can_1, fun d => S_fnc_Can_1 d.1 d.2.1⟩
theorem k_fnc_Can_1 : (c_fnc_Can_1).ok Tryz.prog annX plansX := ctr_ok (tin := i_fnc_Can_1) (tout := o_fnc_Can_1)
def i_names_first : Tpl := ⟨[], [], [(.one, [.hole tY])]⟩
def o_names_first : Tpl := ⟨[], [], [(.one, [.hole .bool])]⟩
noncomputable def S_names_first (a0 : UInt8) : Option (Bool × Unit) := Sof Tryz.prog annX plansX 56 i_names_first o_names_first (a0, ())
noncomputable def c_names_first : Ctr := ⟨56, i_names_first, o_names_first, fun d => S_names_first d.1⟩
theorem k_names_first : (c_names_first).ok Tryz.prog annX plansX := ctr_ok (tin := i_names_first) (tout := o_names_first)
def i_names_other : Tpl := ⟨[], [], [(.one, [.hole tY])]⟩
def o_names_other : Tpl := ⟨[], [], [(.one, [.hole .bool])]⟩
noncomputable def S_names_other (a0 : UInt8) : Option (Bool × Unit) := Sof Tryz.prog annX plansX 57 i_names_other o_names_other (a0, ())
noncomputable def c_names_other : Ctr := ⟨57, i_names_other, o_names_other, fun d => S_names_other d.1⟩
theorem k_names_other : (c_names_other).ok Tryz.prog annX plansX := ctr_ok (tin := i_names_other) (tout := o_names_other)
def i_names_May : Tpl := ⟨[], [], [(.one, [.hole .str])]⟩
def o_names_May : Tpl := ⟨[], [], [(.one, [.hole .bool])]⟩
noncomputable def S_names_May (a0 : LB) : Option (Bool × Unit) := Sof Tryz.prog annX plansX 24 i_names_May o_names_May (a0, ())
noncomputable def c_names_May : Ctr := ⟨24, i_names_May, o_names_May, fun d => S_names_May d.1⟩
theorem k_names_May : (c_names_May).ok Tryz.prog annX plansX := ctr_ok (tin := i_names_May) (tout := o_names_May)
def i_sig_May : Tpl := ⟨[], [], [(.one, [.hole tI])]⟩
def o_sig_May : Tpl := ⟨[], [], [(.one, [.hole .bool])]⟩
noncomputable def S_sig_May (a0 : Int) : Option (Bool × Unit) := Sof Tryz.prog annX plansX 127 i_sig_May o_sig_May (a0, ())
noncomputable def c_sig_May : Ctr := ⟨127, i_sig_May, o_sig_May, fun d => S_sig_May d.1⟩
theorem k_sig_May : (c_sig_May).ok Tryz.prog annX plansX := ctr_ok (tin := i_sig_May) (tout := o_sig_May)
def i_sig_Right_1 : Tpl := ⟨[], [], [(.one, [.hole tI])]⟩
def o_sig_Right_1 : Tpl := ⟨[], [], [(.one, [.hole .bool])]⟩
noncomputable def S_sig_Right_1 (a0 : Int) : Option (Bool × Unit) := Sof Tryz.prog annX plansX 126 i_sig_Right_1 o_sig_Right_1 (a0, ())
noncomputable def c_sig_Right_1 : Ctr := ⟨126, i_sig_Right_1, o_sig_Right_1, fun d => S_sig_Right_1 d.1⟩
theorem k_sig_Right_1 : (c_sig_Right_1).ok Tryz.prog annX plansX := ctr_ok (tin := i_sig_Right_1) (tout := o_sig_Right_1)
def i_sig_Right : Tpl := ⟨[], [], [(.one, [.hole (.sl 1 tI)]), (.one, [.hole tI])]⟩
def o_sig_Right : Tpl := ⟨[], [], [(.one, [.hole .bool])]⟩
noncomputable def S_sig_Right (a0 : LI) (a1 : Int) : Option (Bool × Unit) := Sof Tryz.prog annX plansX 112 i_sig_Right o_sig_Right (a0, (a1, ()))
noncomputable def c_sig_Right : Ctr := ⟨112, i_sig_Right, o_sig_Right, fun d => S_sig_Right d.1 d.2.1⟩
theorem k_sig_Right : (c_sig_Right).ok Tryz.prog annX plansX := ctr_ok (tin := i_sig_Right) (tout := o_sig_Right)
def i_fnc_types : Tpl := ⟨[], [], [(.agg, [.hole .str, .hole .bool, .hole (.sl 1 tI), .hole (.sl 1 tI), .hole (.sl 1 tI), .hole (.sl 1 tI), .hole (.sl 2 tC), .hole (.sl 1 tI), .hole (.sl 7 tN), .hole (.sl 1 tI), .hole (.sl 4 tS)])]⟩
def o_fnc_types : Tpl := ⟨[], [], [(.one, [.hole .bool])]⟩
noncomputable def S_fnc_types (a0 : LB) (a1 : Bool) (a2 : LI) (a3 : LI) (a4 : LI) (a5 : LI) (a6 : LC) (a7 : LI) (a8 : LN) (a9 : LI) (a10 : LS) : Option (Bool × Unit) := Sof Tryz.prog annX plansX 91 i_fnc_types o_fnc_types (a0, (a1, (a2, (a3, (a4, (a5, (a6, (a7, (a8, (a9, (a10, ())))))))))))
noncomputable def c_fnc_types : Ctr := ⟨91, i_fnc_types, o_fnc_types, fun d => S_fnc_types d.1 d.2.1 d.2.2.1 d.2.2.2.1 d.2.2.2.2.1 d.2.2.2.2.2.1 d.2.2.2.2.2.2.1 d.2.2.2.2.2.2.2.1 d.2.2.2.2.2.2.2.2.1 d.2.2.2.2.2.2.2.2.2.1 d.2.2.2.2.2.2.2.2.2.2.1⟩
theorem k_fnc_types : (c_fnc_types).ok Tryz.prog annX plansX := ctr_ok (tin := i_fnc_types) (tout := o_fnc_types)
def i_fnc_many : Tpl := ⟨[], [], [(.agg, [.hole .str, .hole .bool, .hole (.sl 1 tI), .hole (.sl 1 tI), .hole (.sl 1 tI), .hole (.sl 1 tI), .hole (.sl 2 tC), .hole (.sl 1 tI), .hole (.sl 7 tN), .hole (.sl 1 tI), .hole (.sl 4 tS)])]⟩
def o_fnc_many : Tpl := ⟨[], [], [(.one, [.hole tI])]⟩
noncomputable def S_fnc_many (a0 : LB) (a1 : Bool) (a2 : LI) (a3 : LI) (a4 : LI) (a5 : LI) (a6 : LC) (a7 : LI) (a8 : LN) (a9 : LI) (a10 : LS) : Option (Int × Unit) := Sof Tryz.prog annX plansX 92 i_fnc_many o_fnc_many (a0, (a1, (a2, (a3, (a4, (a5, (a6, (a7, (a8, (a9, (a10, ())))))))))))
noncomputable def c_fnc_many : Ctr := ⟨92, i_fnc_many, o_fnc_many, fun d => S_fnc_many d.1 d.2.1 d.2.2.1 d.2.2.2.1 d.2.2.2.2.1 d.2.2.2.2.2.1 d.2.2.2.2.2.2.1 d.2.2.2.2.2.2.2.1 d.2.2.2.2.2.2.2.2.1 d.2.2.2.2.2.2.2.2.2.1 d.2.2.2.2.2.2.2.2.2.2.1⟩
theorem k_fnc_many : (c_fnc_many).ok Tryz.prog annX plansX := ctr_ok (tin := i_fnc_many) (tout := o_fnc_many)
def i_lines_Right_1 : Tpl := ⟨[], [], [(.one, [.hole tI])]⟩
def o_lines_Right_1 : Tpl := ⟨[], [], [(.one, [.hole .bool])]⟩
noncomputable def S_lines_Right_1 (a0 : Int) : Option (Bool × Unit) := Sof Tryz.prog annX plansX 114 i_lines_Right_1 o_lines_Right_1 (a0, ())
noncomputable def c_lines_Right_1 : Ctr := ⟨114, i_lines_Right_1, o_lines_Right_1, fun d => S_lines_Right_1 d.1⟩
theorem k_lines_Right_1 : (c_lines_Right_1).ok Tryz.prog annX plansX := ctr_ok (tin := i_lines_Right_1) (tout := o_lines_Right_1)
def i_lines_Right : Tpl := ⟨[], [], [(.one, [.hole (.sl 1 tI)])]⟩
def o_lines_Right : Tpl := ⟨[], [], [(.one, [.hole .bool])]⟩
noncomputable def S_lines_Right (a0 : LI) : Option (Bool × Unit) := Sof Tryz.prog annX plansX 94 i_lines_Right o_lines_Right (a0, ())
noncomputable def c_lines_Right : Ctr := ⟨94, i_lines_Right, o_lines_Right, fun d => S_lines_Right d.1⟩
theorem k_lines_Right : (c_lines_Right).ok Tryz.prog annX plansX := ctr_ok (tin := i_lines_Right) (tout := o_lines_Right)
def i_fnc_Bare : Tpl := ⟨[], [], [(.agg, [.hole .str, .hole .bool, .hole (.sl 1 tI), .hole (.sl 1 tI), .hole (.sl 1 tI), .hole (.sl 1 tI), .hole (.sl 2 tC), .hole (.sl 1 tI), .hole (.sl 7 tN), .hole (.sl 1 tI), .hole (.sl 4 tS)])]⟩
def o_fnc_Bare : Tpl := ⟨[], [], [(.one, [.hole .bool])]⟩
noncomputable def S_fnc_Bare (a0 : LB) (a1 : Bool) (a2 : LI) (a3 : LI) (a4 : LI) (a5 : LI) (a6 : LC) (a7 : LI) (a8 : LN) (a9 : LI) (a10 : LS) : Option (Bool × Unit) := Sof Tryz.prog annX plansX 116 i_fnc_Bare o_fnc_Bare (a0, (a1, (a2, (a3, (a4, (a5, (a6, (a7, (a8, (a9, (a10, ())))))))))))
noncomputable def c_fnc_Bare : Ctr := ⟨116, i_fnc_Bare, o_fnc_Bare, fun d => S_fnc_Bare d.1 d.2.1 d.2.2.1 d.2.2.2.1 d.2.2.2.2.1 d.2.2.2.2.2.1 d.2.2.2.2.2.2.1 d.2.2.2.2.2.2.2.1 d.2.2.2.2.2.2.2.2.1 d.2.2.2.2.2.2.2.2.2.1 d.2.2.2.2.2.2.2.2.2.2.1⟩
theorem k_fnc_Bare : (c_fnc_Bare).ok Tryz.prog annX plansX := ctr_ok (tin := i_fnc_Bare) (tout := o_fnc_Bare)
def i_fnc_tables_1 : Tpl := ⟨[], [[.hole .str, .hole .bool, .hole (.sl 1 tI), .hole (.sl 1 tI), .hole (.sl 1 tI), .hole (.sl 1 tI), .hole (.sl 2 tC), .hole (.sl 1 tI), .hole (.sl 7 tN), .hole (.sl 1 tI), .hole (.sl 4 tS)]], [(.one, [.hole tI]), (.one, [.stat (.ptr 0 0)])]⟩
def o_fnc_tables_1 : Tpl := ⟨[], [[.hole .str, .hole .bool, .hole (.sl 1 tI), .hole (.sl 1 tI), .hole (.sl 1 tI), .hole (.sl 1 tI), .hole (.sl 2 tC), .hole (.sl 1 tI), .hole (.sl 7 tN), .hole (.sl 1 tI), .hole (.sl 4 tS)]], [(.one, [.hole .bool])]⟩
noncomputable def S_fnc_tables_1 (a0 : LB) (a1 : Bool) (a2 : LI) (a3 : LI) (a4 : LI) (a5 : LI) (a6 : LC) (a7 : LI) (a8 : LN) (a9 : LI) (a10 : LS) (a11 : Int) : Option (LB × (Bool × (LI × (LI × (LI × (LI × (LC × (LI × (LN × (LI × (LS × (Bool × Unit)))))))))))) := Sof Tryz.prog annX plansX 117 i_fnc_tables_1 o_fnc_tables_1 (a0, (a1, (a2, (a3, (a4, (a5, (a6, (a7, (a8, (a9, (a10, (a11, ()))))))))))))
def i_tree_within : Tpl := ⟨[], [], [(.one, [.hole tI]), (.one, [.hole tI]), (.one, [.hole tI])]⟩
def o_tree_within : Tpl := ⟨[], [], [(.one, [.hole .bool])]⟩
noncomputable def S_tree_within (a0 : Int) (a1 : Int) (a2 : Int) : Option (Bool × Unit) := Sof Tryz.prog annX plansX 133 i_tree_within o_tree_within (a0, (a1, (a2, ())))
def i_tree_Right : Tpl := ⟨[], [], [(.one, [.hole (.sl 7 tN)])]⟩
def o_tree_Right : Tpl := ⟨[], [], [(.one, [.hole .bool])]⟩
noncomputable def S_tree_Right (a0 : LN) : Option (Bool × Unit) := Sof Tryz.prog annX plansX 118 i_tree_Right o_tree_Right (a0, ())
noncomputable def c_tree_Right : Ctr := ⟨118, i_tree_Right, o_tree_Right, fun d => S_tree_Right d.1⟩
theorem k_tree_Right : (c_tree_Right).ok Tryz.prog annX plansX := ctr_ok (tin := i_tree_Right) (tout := o_tree_Right)
def i_slots_Sub_1 : Tpl := ⟨[], [], [(.one, [.hole tW]), (.one, [.hole tW])]⟩
def o_slots_Sub_1 : Tpl := ⟨[], [], [(.one, [.hole tW])]⟩
noncomputable def S_slots_Sub_1 (a0 : Int) (a1 : Int) : Option (Int × Unit) := Sof Tryz.prog annX plansX 139 i_slots_Sub_1 o_slots_Sub_1 (a0, (a1, ()))
noncomputable def c_slots_Sub_1 : Ctr := ⟨139, i_slots_Sub_1, o_slots_Sub_1, fun d => S_slots_Sub_1 d.1 d.2.1⟩
theorem k_slots_Sub_1 : (c_slots_Sub_1).ok Tryz.prog annX plansX := ctr_ok (tin := i_slots_Sub_1) (tout := o_slots_Sub_1)
def i_slots_Sub : Tpl := ⟨[], [], [(.agg, [.hole tW, .hole tW, .hole tW, .hole tW]), (.agg, [.hole tW, .hole tW, .hole tW, .hole tW])]⟩
def o_slots_Sub : Tpl := ⟨[], [], [(.agg, [.hole tW, .hole tW, .hole tW, .hole tW])]⟩
noncomputable def S_slots_Sub (a0 : Int) (a1 : Int) (a2 : Int) (a3 : Int) (a4 : Int) (a5 : Int) (a6 : Int) (a7 : Int) : Option (Int × (Int × (Int × (Int × Unit)))) := Sof Tryz.prog annX plansX 136 i_slots_Sub o_slots_Sub (a0, (a1, (a2, (a3, (a4, (a5, (a6, (a7, ()))))))))
def i_fnc_tables : Tpl := ⟨[], [], [(.agg, [.hole .str, .hole .bool, .hole (.sl 1 tI), .hole (.sl 1 tI), .hole (.sl 1 tI), .hole (.sl 1 tI), .hole (.sl 2 tC), .hole (.sl 1 tI), .hole (.sl 7 tN), .hole (.sl 1 tI), .hole (.sl 4 tS)])]⟩
def o_fnc_tables : Tpl := ⟨[], [], [(.one, [.hole .bool])]⟩
noncomputable def S_fnc_tables (a0 : LB) (a1 : Bool) (a2 : LI) (a3 : LI) (a4 : LI) (a5 : LI) (a6 : LC) (a7 : LI) (a8 : LN) (a9 : LI) (a10 : LS) : Option (Bool × Unit) := Sof Tryz.prog annX plansX 95 i_fnc_tables o_fnc_tables (a0, (a1, (a2, (a3, (a4, (a5, (a6, (a7, (a8, (a9, (a10, ())))))))))))
noncomputable def c_fnc_tables : Ctr := ⟨95, i_fnc_tables, o_fnc_tables, fun d => S_fnc_tables d.1 d.2.1 d.2.2.1 d.2.2.2.1 d.2.2.2.2.1 d.2.2.2.2.2.1 d.2.2.2.2.2.2.1 d.2.2.2.2.2.2.2.1 d.2.2.2.2.2.2.2.2.1 d.2.2.2.2.2.2.2.2.2.1 d.2.2.2.2.2.2.2.2.2.2.1⟩
theorem k_fnc_tables : (c_fnc_tables).ok Tryz.prog annX plansX := ctr_ok (tin := i_fnc_tables) (tout := o_fnc_tables)
def i_fnc_Can : Tpl := ⟨[], [], [(.agg, [.hole .str, .hole .bool, .hole (.sl 1 tI), .hole (.sl 1 tI), .hole (.sl 1 tI), .hole (.sl 1 tI), .hole (.sl 2 tC), .hole (.sl 1 tI), .hole (.sl 7 tN), .hole (.sl 1 tI), .hole (.sl 4 tS)])]⟩
def o_fnc_Can : Tpl := ⟨[], [], [(.one, [.hole tI])]⟩
noncomputable def S_fnc_Can (a0 : LB) (a1 : Bool) (a2 : LI) (a3 : LI) (a4 : LI) (a5 : LI) (a6 : LC) (a7 : LI) (a8 : LN) (a9 : LI) (a10 : LS) : Option (Int × Unit) := Sof Tryz.prog annX plansX 67 i_fnc_Can o_fnc_Can (a0, (a1, (a2, (a3, (a4, (a5, (a6, (a7, (a8, (a9, (a10, ())))))))))))
noncomputable def c_fnc_Can : Ctr := ⟨67, i_fnc_Can, o_fnc_Can, fun d => S_fnc_Can d.1 d.2.1 d.2.2.1 d.2.2.2.1 d.2.2.2.2.1 d.2.2.2.2.2.1 d.2.2.2.2.2.2.1 d.2.2.2.2.2.2.2.1 d.2.2.2.2.2.2.2.2.1 d.2.2.2.2.2.2.2.2.2.1 d.2.2.2.2.2.2.2.2.2.2.1⟩
theorem k_fnc_Can : (c_fnc_Can).ok Tryz.prog annX plansX := ctr_ok (tin := i_fnc_Can) (tout := o_fnc_Can)
def i_file_called : Tpl := ⟨[], [], [(.agg, [.hole (.sl 11 tF)])]⟩
def o_file_called : Tpl := ⟨[], [], [(.one, [.hole (.sl 1 .str)])]⟩
noncomputable def S_file_called (a0 : LF) : Option ((List LB) × Unit) := Sof Tryz.prog annX plansX 69 i_file_called o_file_called (a0, ())
noncomputable def c_file_called : Ctr := ⟨69, i_file_called, o_file_called, fun d => S_file_called d.1⟩
theorem k_file_called : (c_file_called).ok Tryz.prog annX plansX := ctr_ok (tin := i_file_called) (tout := o_file_called)
def i_names_Unlike : Tpl := ⟨[], [], [(.one, [.hole (.sl 1 .str)])]⟩
def o_names_Unlike : Tpl := ⟨[], [], [(.one, [.hole .bool])]⟩
theorem strsOf_enc : ∀ {l : List LB}, strsOf (encL .str l) = some l
 | [] => rfl
 | s :: l => by
  show (strsOf (encL .str l)).map (s :: ·) = _
  rw [strsOf_enc]
  rfl
theorem unlikeX_enc {l : List LB} {h : Hp} (h1 : l.length ≤ 1000000) (h2 : (l.all fun s => decide (s.length ≤ 1000000)) = true) : unlikeX [⟨.one, [.c (.fz 1 (encL .str l))]⟩] h = some (⟨.one, [.c (.v (.bool (decide l.Nodup)))]⟩, h) := by
 simp only [unlikeX, strsOf_enc]
 exact if_pos ⟨h1, h2⟩
noncomputable def S_names_Unlike (a0 : List LB) : Option (Bool × Unit) := chk (leN a0.length 1000000 && a0.all fun s => decide (s.length ≤ 1000000)) (some (decide a0.Nodup, ()))
noncomputable def c_names_Unlike : Ctr := ⟨68, i_names_Unlike, o_names_Unlike, fun d => S_names_Unlike d.1⟩
theorem k_names_Unlike : (c_names_Unlike).ok Tryz.prog annX plansX := fun d q h args0 hw => by
 obtain ⟨h1, h2⟩ := chk_ok h
 cases h2
 refine callW_base ?_
 rw [hw]
 rw [Bool.and_eq_true] at h1
 exact unlikeX_enc (leN_ok.1 h1.1) h1.2
def i_sig_Text : Tpl := ⟨[], [], [(.one, [.hole (.sl 1 tI)])]⟩
def o_sig_Text : Tpl := ⟨[], [], [(.one, [.hole .str])]⟩
noncomputable def S_sig_Text (a0 : LI) : Option (List UInt8 × Unit) := chk (leN a0.length 1000000 && true) (some (textB a0, ()))
noncomputable def c_sig_Text : Ctr := ⟨58, i_sig_Text, o_sig_Text, fun d => S_sig_Text d.1⟩
theorem k_sig_Text : (c_sig_Text).ok Tryz.prog annX plansX := fun d q h args0 hw => by
 obtain ⟨h1, h2⟩ := chk_ok h
 cases h2
 simp only [Bool.and_eq_true] at h1
 refine callW_base ?_
 rw [hw]
 exact typesX_of (Nat.le_trans (of_decide_eq_true h1.1) (by decide))
def i_strings_Join : Tpl := ⟨[], [], [(.one, [.hole (.sl 1 .str)]), (.one, [.hole .str])]⟩
def o_strings_Join : Tpl := ⟨[], [], [(.one, [.hole .str])]⟩
noncomputable def S_strings_Join (a0 : (List LB)) (a1 : LB) : Option (List UInt8 × Unit) := chk ((leN 1 a0.length && leN a0.length 1000000) && leN (Lib.join a0 a1).length 140737488355328) (some (Lib.join a0 a1, ()))
noncomputable def c_strings_Join : Ctr := ⟨63, i_strings_Join, o_strings_Join, fun d => S_strings_Join d.1 d.2.1⟩
theorem k_strings_Join : (c_strings_Join).ok Tryz.prog annX plansX := fun d q h args0 hw => by
 obtain ⟨h1, h2⟩ := chk_ok h
 cases h2
 simp only [Bool.and_eq_true] at h1
 refine callW_base ?_
 rw [hw]
 exact joinX_of (of_decide_eq_true h1.1.1) (of_decide_eq_true h1.1.2) (of_decide_eq_true h1.2)
def i_dis_Head : Tpl := ⟨[], [], [(.agg, [.hole .str, .hole .bool, .hole (.sl 1 tI), .hole (.sl 1 tI), .hole (.sl 1 tI), .hole (.sl 1 tI), .hole (.sl 2 tC), .hole (.sl 1 tI), .hole (.sl 7 tN), .hole (.sl 1 tI), .hole (.sl 4 tS)])]⟩
def o_dis_Head : Tpl := ⟨[], [], [(.one, [.hole .str])]⟩
noncomputable def S_dis_Head (a0 : LB) (a1 : Bool) (a2 : LI) (a3 : LI) (a4 : LI) (a5 : LI) (a6 : LC) (a7 : LI) (a8 : LN) (a9 : LI) (a10 : LS) : Option (LB × Unit) := Sof Tryz.prog annX plansX 38 i_dis_Head o_dis_Head (a0, (a1, (a2, (a3, (a4, (a5, (a6, (a7, (a8, (a9, (a10, ())))))))))))
noncomputable def c_dis_Head : Ctr := ⟨38, i_dis_Head, o_dis_Head, fun d => S_dis_Head d.1 d.2.1 d.2.2.1 d.2.2.2.1 d.2.2.2.2.1 d.2.2.2.2.2.1 d.2.2.2.2.2.2.1 d.2.2.2.2.2.2.2.1 d.2.2.2.2.2.2.2.2.1 d.2.2.2.2.2.2.2.2.2.1 d.2.2.2.2.2.2.2.2.2.2.1⟩
theorem k_dis_Head : (c_dis_Head).ok Tryz.prog annX plansX := ctr_ok (tin := i_dis_Head) (tout := o_dis_Head)
def i_lines_At : Tpl := ⟨[], [], [(.one, [.hole (.sl 1 tI)]), (.one, [.hole tI])]⟩
def o_lines_At : Tpl := ⟨[], [], [(.one, [.hole tI])]⟩
noncomputable def S_lines_At (a0 : LI) (a1 : Int) : Option (Int × Unit) := Sof Tryz.prog annX plansX 71 i_lines_At o_lines_At (a0, (a1, ()))
noncomputable def c_lines_At : Ctr := ⟨71, i_lines_At, o_lines_At, fun d => S_lines_At d.1 d.2.1⟩
theorem k_lines_At : (c_lines_At).ok Tryz.prog annX plansX := ctr_ok (tin := i_lines_At) (tout := o_lines_At)
theorem all0 : ∀ c ∈ ([] : List Ctr), c.ok Tryz.prog annX plansX := fun _ h => by simp at h
theorem all1 {c : Ctr} {cs : List Ctr} (h : c.ok Tryz.prog annX plansX) (hs : ∀ c ∈ cs, c.ok Tryz.prog annX plansX) : ∀ d ∈ c :: cs, d.ok Tryz.prog annX plansX := fun d hd => by
 rcases List.mem_cons.1 hd with rfl | h2
 · exact h
 · exact hs d h2
end Go.Proofs.YtkdnbnkbnegckaaGreatDoor
