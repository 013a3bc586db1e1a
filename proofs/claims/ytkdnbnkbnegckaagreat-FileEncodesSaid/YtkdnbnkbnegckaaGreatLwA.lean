/- What functions come to: templates, and contracts. -/
import Derived.Test.YtkdnbnkbnegckaaGreatEvQ
import Derived.Test.YtkdnbnkbnegckaaGreatTok
namespace Go.Proofs.YtkdnbnkbnegckaaGreat
open Go.RowKit
set_option maxRecDepth 100000
def tyTab : BT (Option Ty) := .n 65 (some (.pr (.sl 1 tY) (.pr .bool tI))) (.n 25 (some (.sl 1 tI)) (.n 9 (some .str) (.n 5 (some tY) (.n 3 (some tI) (.n 2 (some tI) .o .o) (.n 4 (some .bool) .o .o)) (.n 7 (some (.pr tI (.pr tI (.pr .bool tY)))) (.n 6 (some tY) .o .o) (.n 8 (some (.pr tI (.pr tI (.pr .bool tY)))) .o .o))) (.n 13 (some (.pr .str tW)) (.n 11 (some .str) (.n 10 (some .str) .o .o) (.n 12 (some tW) .o .o)) (.n 21 (some (.int .i32)) (.n 14 (some (.pr .str tW)) .o .o) (.n 22 (some (.sl 1 tY)) .o .o)))) (.n 33 (some (.pr (.sl 1 tY) tI)) (.n 29 (some (.sl 4 tS)) (.n 27 (some (.sl 1 tI)) (.n 26 (some (.sl 2 tC)) .o .o) (.n 28 (some (.sl 7 tN)) .o .o)) (.n 31 (some tF) (.n 30 (some tF) .o .o) (.n 32 (some tI) .o .o))) (.n 51 (some (.sl 11 tF)) (.n 49 (some (.sl 11 tF)) (.n 34 (some (.pr (.sl 1 tY) tI)) .o .o) (.n 50 (some (.sl 11 tF)) .o .o)) (.n 63 (some (.pr (.sl 1 tY) .bool)) (.n 62 (some (.pr (.sl 1 tY) .bool)) .o .o) (.n 64 (some (.pr (.sl 1 tY) (.pr .bool tI))) .o .o))))) (.n 157 (some (.sl 2 tC)) (.n 117 (some tS) (.n 102 (some tW) (.n 77 (some tC) (.n 76 (some tI) .o .o) (.n 78 (some tC) .o .o)) (.n 114 (some tN) (.n 110 (some tI) .o .o) (.n 115 (some tN) .o .o))) (.n 150 (some tW) (.n 123 (some (.sl 1 .str)) (.n 118 (some tS) .o .o) (.n 132 (some tN) .o .o)) (.n 155 (some (.pr tW (.pr tW (.pr tW (.pr tW tI))))) (.n 153 (some (.sl 5 (.pr tW (.pr tW (.pr tW (.pr tW tI)))))) .o .o) (.n 156 (some (.pr tW (.pr tW (.pr tW (.pr tW tI))))) .o .o)))) (.n 196 (some tC) (.n 190 (some (.sl 2 tC)) (.n 160 (some tC) (.n 159 (some tC) .o .o) (.n 185 (some tI) .o .o)) (.n 193 (some tC) (.n 192 (some tC) .o .o) (.n 194 (some (.sl 2 tC)) .o .o))) (.n 219 (some tY) (.n 217 (some (.int .u32)) (.n 204 (some (.pr tI (.pr tI (.pr tI (.pr tI (.pr tI (.pr tI (.pr tI (.pr tI (.pr tI (.pr tI (.pr tI (.pr tI (.pr tI (.pr tI (.pr tI (.pr tI (.pr tI (.pr tI (.pr tI (.pr tI (.pr tI (.pr tI (.pr tI (.pr tI (.pr tI (.pr tI (.pr tI (.pr tI tN))))))))))))))))))))))))))))) .o .o) (.n 218 (some tY) .o .o)) (.n 223 (some (.int .i32)) (.n 222 (some (.int .i32)) .o .o) .o))))
def tyX : TypeId → Option Ty := tyTab.get none
def bsX : FuncId → Bool := fun f => f == 33 || f == 68 || f == 69 || f == 70 || f == 71 || f == 72 || f == 76
theorem bs_ok : ∀ f a h, (annX.base f a h).isSome = true → bsX f = true := by
 intro f a h hh
 simp only [annX, annOf, baseX, baseC] at hh
 repeat' split at hh
 all_goals first
  | cases hh
  | (rename_i e; subst e; rfl)
def i_slices_Clone_byte_byte : Tpl := ⟨[], [], [(.one, [.hole (.sl 1 tY)])]⟩
def o_slices_Clone_byte_byte : Tpl := ⟨[], [], [(.one, [.hole (.sl 1 tY)])]⟩
noncomputable def S_slices_Clone_byte_byte (a0 : List UInt8) : Option (LB × Unit) := chk (leN a0.length 140737488351232) (some (a0, ()))
noncomputable def c_slices_Clone_byte_byte : Ctr := ⟨33, i_slices_Clone_byte_byte, o_slices_Clone_byte_byte, fun d => S_slices_Clone_byte_byte d.1⟩
theorem k_slices_Clone_byte_byte : (c_slices_Clone_byte_byte).ok Tryz.prog annX plansX := fun d q h args0 hw => by
 obtain ⟨h1, h2⟩ := chk_ok h
 cases h2
 refine callW_base ?_
 rw [hw]
 have h3 : (eY d.1).length ≤ 140737488351232 := Nat.le_trans (Nat.le_of_eq (show (mapE (enc tY) d.1).length = List.length d.1 from List.length_map _)) (leN_ok.1 h1)
 show (if 1 = 1 ∧ (eY d.1).length ≤ 140737488351232 then _ else none) = _
 exact (if_pos ⟨rfl, h3⟩).trans rfl
def i_cursor_New : Tpl := ⟨[], [], [(.one, [.hole (.sl 1 tY)])]⟩
def o_cursor_New : Tpl := ⟨[], [[.hole (.sl 1 tY), .hole .bool, .hole tI]], [(.one, [.stat (.ptr 0 0)])]⟩
noncomputable def S_cursor_New (a0 : LB) : Option (LB × (Bool × (Int × Unit))) := Sof Tryz.prog annX plansX 10 i_cursor_New o_cursor_New (a0, ())
noncomputable def c_cursor_New : Ctr := ⟨10, i_cursor_New, o_cursor_New, fun d => S_cursor_New d.1⟩
theorem k_cursor_New : (c_cursor_New).ok Tryz.prog annX plansX := ctr_ok (tin := i_cursor_New) (tout := o_cursor_New)
def i_ref02_fail : Tpl := ⟨[], [], [(.agg, [.hole (.sl 1 tY), .hole tI]), (.one, [.hole tI])]⟩
def o_ref02_fail : Tpl := ⟨[], [], [(.agg, [.hole (.sl 1 tY), .hole tI])]⟩
noncomputable def S_ref02_fail (a0 : LB) (a1 : Int) (a2 : Int) : Option (LB × (Int × Unit)) := Sof Tryz.prog annX plansX 83 i_ref02_fail o_ref02_fail (a0, (a1, (a2, ())))
noncomputable def c_ref02_fail : Ctr := ⟨83, i_ref02_fail, o_ref02_fail, fun d => S_ref02_fail d.1 d.2.1 d.2.2.1⟩
theorem k_ref02_fail : (c_ref02_fail).ok Tryz.prog annX plansX := ctr_ok (tin := i_ref02_fail) (tout := o_ref02_fail)
def i_ref05_May : Tpl := ⟨[], [], [(.one, [.hole .str])]⟩
def o_ref05_May : Tpl := ⟨[], [], [(.one, [.hole .bool])]⟩
noncomputable def S_ref05_May (a0 : LB) : Option (Bool × Unit) := Sof Tryz.prog annX plansX 35 i_ref05_May o_ref05_May (a0, ())
noncomputable def c_ref05_May : Ctr := ⟨35, i_ref05_May, o_ref05_May, fun d => S_ref05_May d.1⟩
theorem k_ref05_May : (c_ref05_May).ok Tryz.prog annX plansX := ctr_ok (tin := i_ref05_May) (tout := o_ref05_May)
def i_ref02_Fail : Tpl := ⟨[], [], [(.agg, [.hole (.sl 1 tY), .hole tI]), (.one, [.hole tI])]⟩
def o_ref02_Fail : Tpl := ⟨[], [], [(.agg, [.hole (.sl 1 tY), .hole tI])]⟩
noncomputable def S_ref02_Fail (a0 : LB) (a1 : Int) (a2 : Int) : Option (LB × (Int × Unit)) := Sof Tryz.prog annX plansX 36 i_ref02_Fail o_ref02_Fail (a0, (a1, (a2, ())))
def i_ref09_Operand : Tpl := ⟨[], [], [(.one, [.hole tI])]⟩
def o_ref09_Operand : Tpl := ⟨[], [], [(.one, [.hole tI])]⟩
noncomputable def S_ref09_Operand (a0 : Int) : Option (Int × Unit) := Sof Tryz.prog annX plansX 85 i_ref09_Operand o_ref09_Operand (a0, ())
noncomputable def c_ref09_Operand : Ctr := ⟨85, i_ref09_Operand, o_ref09_Operand, fun d => S_ref09_Operand d.1⟩
theorem k_ref09_Operand : (c_ref09_Operand).ok Tryz.prog annX plansX := ctr_ok (tin := i_ref09_Operand) (tout := o_ref09_Operand)
def i_ref10_most : Tpl := ⟨[], [], [(.one, [.hole tI])]⟩
def o_ref10_most : Tpl := ⟨[], [], [(.one, [.hole tI])]⟩
noncomputable def S_ref10_most (a0 : Int) : Option (Int × Unit) := Sof Tryz.prog annX plansX 114 i_ref10_most o_ref10_most (a0, ())
noncomputable def c_ref10_most : Ctr := ⟨114, i_ref10_most, o_ref10_most, fun d => S_ref10_most d.1⟩
theorem k_ref10_most : (c_ref10_most).ok Tryz.prog annX plansX := ctr_ok (tin := i_ref10_most) (tout := o_ref10_most)
def i_ref10_Right : Tpl := ⟨[], [], [(.agg, [.hole tI, .hole tI])]⟩
def o_ref10_Right : Tpl := ⟨[], [], [(.one, [.hole .bool])]⟩
noncomputable def S_ref10_Right (a0 : Int) (a1 : Int) : Option (Bool × Unit) := Sof Tryz.prog annX plansX 57 i_ref10_Right o_ref10_Right (a0, (a1, ()))
noncomputable def c_ref10_Right : Ctr := ⟨57, i_ref10_Right, o_ref10_Right, fun d => S_ref10_Right d.1 d.2.1⟩
theorem k_ref10_Right : (c_ref10_Right).ok Tryz.prog annX plansX := ctr_ok (tin := i_ref10_Right) (tout := o_ref10_Right)
def i_ref13_Right : Tpl := ⟨[], [], [(.one, [.hole (.sl 7 tN)])]⟩
def o_ref13_Right : Tpl := ⟨[], [], [(.one, [.hole .bool])]⟩
noncomputable def S_ref13_Right (a0 : LN) : Option (Bool × Unit) := Sof Tryz.prog annX plansX 87 i_ref13_Right o_ref13_Right (a0, ())
noncomputable def c_ref13_Right : Ctr := ⟨87, i_ref13_Right, o_ref13_Right, fun d => S_ref13_Right d.1⟩
theorem k_ref13_Right : (c_ref13_Right).ok Tryz.prog annX plansX := ctr_ok (tin := i_ref13_Right) (tout := o_ref13_Right)
def i_ref03_Range : Tpl := ⟨[], [], [(.one, [.hole tI]), (.one, [.hole tI])]⟩
def o_ref03_Range : Tpl := ⟨[], [], [(.agg, [.hole tW, .hole tW, .hole tW, .hole tW])]⟩
noncomputable def S_ref03_Range (a0 : Int) (a1 : Int) : Option (Int × (Int × (Int × (Int × Unit)))) := Sof Tryz.prog annX plansX 89 i_ref03_Range o_ref03_Range (a0, (a1, ()))
noncomputable def c_ref03_Range : Ctr := ⟨89, i_ref03_Range, o_ref03_Range, fun d => S_ref03_Range d.1 d.2.1⟩
theorem k_ref03_Range : (c_ref03_Range).ok Tryz.prog annX plansX := ctr_ok (tin := i_ref03_Range) (tout := o_ref03_Range)
def i_ref03_Sub : Tpl := ⟨[], [], [(.agg, [.hole tW, .hole tW, .hole tW, .hole tW]), (.agg, [.hole tW, .hole tW, .hole tW, .hole tW])]⟩
def o_ref03_Sub : Tpl := ⟨[], [], [(.agg, [.hole tW, .hole tW, .hole tW, .hole tW])]⟩
noncomputable def S_ref03_Sub (a0 : Int) (a1 : Int) (a2 : Int) (a3 : Int) (a4 : Int) (a5 : Int) (a6 : Int) (a7 : Int) : Option (Int × (Int × (Int × (Int × Unit)))) := Sof Tryz.prog annX plansX 134 i_ref03_Sub o_ref03_Sub (a0, (a1, (a2, (a3, (a4, (a5, (a6, (a7, ()))))))))
noncomputable def c_ref03_Sub : Ctr := ⟨134, i_ref03_Sub, o_ref03_Sub, fun d => S_ref03_Sub d.1 d.2.1 d.2.2.1 d.2.2.2.1 d.2.2.2.2.1 d.2.2.2.2.2.1 d.2.2.2.2.2.2.1 d.2.2.2.2.2.2.2.1⟩
theorem k_ref03_Sub : (c_ref03_Sub).ok Tryz.prog annX plansX := ctr_ok (tin := i_ref03_Sub) (tout := o_ref03_Sub)
def i_ref03_Inside : Tpl := ⟨[], [], [(.agg, [.hole tW, .hole tW, .hole tW, .hole tW]), (.agg, [.hole tW, .hole tW, .hole tW, .hole tW])]⟩
def o_ref03_Inside : Tpl := ⟨[], [], [(.one, [.hole .bool])]⟩
noncomputable def S_ref03_Inside (a0 : Int) (a1 : Int) (a2 : Int) (a3 : Int) (a4 : Int) (a5 : Int) (a6 : Int) (a7 : Int) : Option (Bool × Unit) := Sof Tryz.prog annX plansX 88 i_ref03_Inside o_ref03_Inside (a0, (a1, (a2, (a3, (a4, (a5, (a6, (a7, ()))))))))
noncomputable def c_ref03_Inside : Ctr := ⟨88, i_ref03_Inside, o_ref03_Inside, fun d => S_ref03_Inside d.1 d.2.1 d.2.2.1 d.2.2.2.1 d.2.2.2.2.1 d.2.2.2.2.2.1 d.2.2.2.2.2.2.1 d.2.2.2.2.2.2.2.1⟩
theorem k_ref03_Inside : (c_ref03_Inside).ok Tryz.prog annX plansX := ctr_ok (tin := i_ref03_Inside) (tout := o_ref03_Inside)
def i_cursor_Cursor_Err : Tpl := ⟨[], [[.hole (.sl 1 tY), .hole .bool, .hole tI]], [(.one, [.stat (.ptr 0 0)])]⟩
def o_cursor_Cursor_Err : Tpl := ⟨[], [[.hole (.sl 1 tY), .hole .bool, .hole tI]], [(.one, [.hole tI])]⟩
noncomputable def S_cursor_Cursor_Err (a0 : LB) (a1 : Bool) (a2 : Int) : Option (LB × (Bool × (Int × (Int × Unit)))) := Sof Tryz.prog annX plansX 14 i_cursor_Cursor_Err o_cursor_Cursor_Err (a0, (a1, (a2, ())))
noncomputable def c_cursor_Cursor_Err : Ctr := ⟨14, i_cursor_Cursor_Err, o_cursor_Cursor_Err, fun d => S_cursor_Cursor_Err d.1 d.2.1 d.2.2.1⟩
theorem k_cursor_Cursor_Err : (c_cursor_Cursor_Err).ok Tryz.prog annX plansX := ctr_ok (tin := i_cursor_Cursor_Err) (tout := o_cursor_Cursor_Err)
def i_uvar_Get : Tpl := ⟨[], [], [(.one, [.hole (.sl 1 tY)])]⟩
def o_uvar_Get : Tpl := ⟨[], [], [(.tup [(false, 1), (false, 1), (false, 1)], [.hole tW, .hole tI, .hole tI])]⟩
noncomputable def S_uvar_Get (a0 : LB) : Option (Int × (Int × (Int × Unit))) := Sof Tryz.prog annX plansX 171 i_uvar_Get o_uvar_Get (a0, ())
noncomputable def c_uvar_Get : Ctr := ⟨171, i_uvar_Get, o_uvar_Get, fun d => S_uvar_Get d.1⟩
theorem k_uvar_Get : (c_uvar_Get).ok Tryz.prog annX plansX := ctr_ok (tin := i_uvar_Get) (tout := o_uvar_Get)
def i_cursor_Cursor_Fail : Tpl := ⟨[], [[.hole (.sl 1 tY), .hole .bool, .hole tI]], [(.one, [.stat (.ptr 0 0)]), (.one, [.hole tI])]⟩
def o_cursor_Cursor_Fail : Tpl := ⟨[], [[.hole (.sl 1 tY), .hole .bool, .hole tI]], [(.tup [], [])]⟩
noncomputable def S_cursor_Cursor_Fail (a0 : LB) (a1 : Bool) (a2 : Int) (a3 : Int) : Option (LB × (Bool × (Int × Unit))) := Sof Tryz.prog annX plansX 135 i_cursor_Cursor_Fail o_cursor_Cursor_Fail (a0, (a1, (a2, (a3, ()))))
noncomputable def c_cursor_Cursor_Fail : Ctr := ⟨135, i_cursor_Cursor_Fail, o_cursor_Cursor_Fail, fun d => S_cursor_Cursor_Fail d.1 d.2.1 d.2.2.1 d.2.2.2.1⟩
theorem k_cursor_Cursor_Fail : (c_cursor_Cursor_Fail).ok Tryz.prog annX plansX := ctr_ok (tin := i_cursor_Cursor_Fail) (tout := o_cursor_Cursor_Fail)
def i_cursor_Cursor_Bits : Tpl := ⟨[], [[.hole (.sl 1 tY), .hole .bool, .hole tI]], [(.one, [.stat (.ptr 0 0)])]⟩
def o_cursor_Cursor_Bits : Tpl := ⟨[], [[.hole (.sl 1 tY), .hole .bool, .hole tI]], [(.one, [.hole tW])]⟩
noncomputable def S_cursor_Cursor_Bits (a0 : LB) (a1 : Bool) (a2 : Int) : Option (LB × (Bool × (Int × (Int × Unit)))) := Sof Tryz.prog annX plansX 142 i_cursor_Cursor_Bits o_cursor_Cursor_Bits (a0, (a1, (a2, ())))
noncomputable def c_cursor_Cursor_Bits : Ctr := ⟨142, i_cursor_Cursor_Bits, o_cursor_Cursor_Bits, fun d => S_cursor_Cursor_Bits d.1 d.2.1 d.2.2.1⟩
theorem k_cursor_Cursor_Bits : (c_cursor_Cursor_Bits).ok Tryz.prog annX plansX := ctr_ok (tin := i_cursor_Cursor_Bits) (tout := o_cursor_Cursor_Bits)
def i_cursor_Cursor_Num : Tpl := ⟨[], [[.hole (.sl 1 tY), .hole .bool, .hole tI]], [(.one, [.stat (.ptr 0 0)]), (.one, [.hole tI])]⟩
def o_cursor_Cursor_Num : Tpl := ⟨[], [[.hole (.sl 1 tY), .hole .bool, .hole tI]], [(.one, [.hole tI])]⟩
noncomputable def S_cursor_Cursor_Num (a0 : LB) (a1 : Bool) (a2 : Int) (a3 : Int) : Option (LB × (Bool × (Int × (Int × Unit)))) := Sof Tryz.prog annX plansX 96 i_cursor_Cursor_Num o_cursor_Cursor_Num (a0, (a1, (a2, (a3, ()))))
noncomputable def c_cursor_Cursor_Num : Ctr := ⟨96, i_cursor_Cursor_Num, o_cursor_Cursor_Num, fun d => S_cursor_Cursor_Num d.1 d.2.1 d.2.2.1 d.2.2.2.1⟩
theorem k_cursor_Cursor_Num : (c_cursor_Cursor_Num).ok Tryz.prog annX plansX := ctr_ok (tin := i_cursor_Cursor_Num) (tout := o_cursor_Cursor_Num)
def i_cursor_Cursor_Text : Tpl := ⟨[], [[.hole (.sl 1 tY), .hole .bool, .hole tI]], [(.one, [.stat (.ptr 0 0)]), (.one, [.hole tI])]⟩
def o_cursor_Cursor_Text : Tpl := ⟨[], [[.hole (.sl 1 tY), .hole .bool, .hole tI]], [(.one, [.hole .str])]⟩
noncomputable def S_cursor_Cursor_Text (a0 : LB) (a1 : Bool) (a2 : Int) (a3 : Int) : Option (LB × (Bool × (Int × (LB × Unit)))) := Sof Tryz.prog annX plansX 90 i_cursor_Cursor_Text o_cursor_Cursor_Text (a0, (a1, (a2, (a3, ()))))
noncomputable def c_cursor_Cursor_Text : Ctr := ⟨90, i_cursor_Cursor_Text, o_cursor_Cursor_Text, fun d => S_cursor_Cursor_Text d.1 d.2.1 d.2.2.1 d.2.2.2.1⟩
theorem k_cursor_Cursor_Text : (c_cursor_Cursor_Text).ok Tryz.prog annX plansX := ctr_ok (tin := i_cursor_Cursor_Text) (tout := o_cursor_Cursor_Text)
def i_names_first : Tpl := ⟨[], [], [(.one, [.hole tY])]⟩
def o_names_first : Tpl := ⟨[], [], [(.one, [.hole .bool])]⟩
noncomputable def S_names_first (a0 : UInt8) : Option (Bool × Unit) := Sof Tryz.prog annX plansX 137 i_names_first o_names_first (a0, ())
noncomputable def c_names_first : Ctr := ⟨137, i_names_first, o_names_first, fun d => S_names_first d.1⟩
theorem k_names_first : (c_names_first).ok Tryz.prog annX plansX := ctr_ok (tin := i_names_first) (tout := o_names_first)
def i_names_other : Tpl := ⟨[], [], [(.one, [.hole tY])]⟩
def o_names_other : Tpl := ⟨[], [], [(.one, [.hole .bool])]⟩
noncomputable def S_names_other (a0 : UInt8) : Option (Bool × Unit) := Sof Tryz.prog annX plansX 138 i_names_other o_names_other (a0, ())
noncomputable def c_names_other : Ctr := ⟨138, i_names_other, o_names_other, fun d => S_names_other d.1⟩
theorem k_names_other : (c_names_other).ok Tryz.prog annX plansX := ctr_ok (tin := i_names_other) (tout := o_names_other)
def i_names_May : Tpl := ⟨[], [], [(.one, [.hole .str])]⟩
def o_names_May : Tpl := ⟨[], [], [(.one, [.hole .bool])]⟩
noncomputable def S_names_May (a0 : LB) : Option (Bool × Unit) := Sof Tryz.prog annX plansX 92 i_names_May o_names_May (a0, ())
noncomputable def c_names_May : Ctr := ⟨92, i_names_May, o_names_May, fun d => S_names_May d.1⟩
theorem k_names_May : (c_names_May).ok Tryz.prog annX plansX := ctr_ok (tin := i_names_May) (tout := o_names_May)
def i_fnc_reader_ask : Tpl := ⟨[], [[.stat (.ptr 1 0), .hole .str, .hole .bool, .hole (.sl 1 tI), .hole (.sl 1 tI), .hole (.sl 1 tI), .hole (.sl 1 tI), .stat (.c (.v (.slice none 0 0))), .hole (.sl 1 tI), .hole (.sl 7 tN), .hole (.sl 1 tI), .hole (.sl 4 tS), .hole tY, .hole tI], [.hole (.sl 1 tY), .hole .bool, .hole tI]], [(.one, [.stat (.ptr 0 0)]), (.one, [.hole .bool]), (.one, [.hole tI])]⟩
def o_fnc_reader_ask : Tpl := ⟨[], [[.stat (.ptr 1 0), .hole .str, .hole .bool, .hole (.sl 1 tI), .hole (.sl 1 tI), .hole (.sl 1 tI), .hole (.sl 1 tI), .stat (.c (.v (.slice none 0 0))), .hole (.sl 1 tI), .hole (.sl 7 tN), .hole (.sl 1 tI), .hole (.sl 4 tS), .hole tY, .hole tI], [.hole (.sl 1 tY), .hole .bool, .hole tI]], [(.tup [], [])]⟩
noncomputable def S_fnc_reader_ask (a0 : LB) (a1 : Bool) (a2 : LI) (a3 : LI) (a4 : LI) (a5 : LI) (a6 : LI) (a7 : LN) (a8 : LI) (a9 : LS) (a10 : UInt8) (a11 : Int) (a12 : LB) (a13 : Bool) (a14 : Int) (a15 : Bool) (a16 : Int) : Option (LB × (Bool × (LI × (LI × (LI × (LI × (LI × (LN × (LI × (LS × (UInt8 × (Int × (LB × (Bool × (Int × Unit))))))))))))))) := Sof Tryz.prog annX plansX 91 i_fnc_reader_ask o_fnc_reader_ask (a0, (a1, (a2, (a3, (a4, (a5, (a6, (a7, (a8, (a9, (a10, (a11, (a12, (a13, (a14, (a15, (a16, ())))))))))))))))))
noncomputable def c_fnc_reader_ask : Ctr := ⟨91, i_fnc_reader_ask, o_fnc_reader_ask, fun d => S_fnc_reader_ask d.1 d.2.1 d.2.2.1 d.2.2.2.1 d.2.2.2.2.1 d.2.2.2.2.2.1 d.2.2.2.2.2.2.1 d.2.2.2.2.2.2.2.1 d.2.2.2.2.2.2.2.2.1 d.2.2.2.2.2.2.2.2.2.1 d.2.2.2.2.2.2.2.2.2.2.1 d.2.2.2.2.2.2.2.2.2.2.2.1 d.2.2.2.2.2.2.2.2.2.2.2.2.1 d.2.2.2.2.2.2.2.2.2.2.2.2.2.1 d.2.2.2.2.2.2.2.2.2.2.2.2.2.2.1 d.2.2.2.2.2.2.2.2.2.2.2.2.2.2.2.1 d.2.2.2.2.2.2.2.2.2.2.2.2.2.2.2.2.1⟩
theorem k_fnc_reader_ask : (c_fnc_reader_ask).ok Tryz.prog annX plansX := ctr_ok (tin := i_fnc_reader_ask) (tout := o_fnc_reader_ask)
def i_cursor_Cursor_Byte : Tpl := ⟨[], [[.hole (.sl 1 tY), .hole .bool, .hole tI]], [(.one, [.stat (.ptr 0 0)])]⟩
def o_cursor_Cursor_Byte : Tpl := ⟨[], [[.hole (.sl 1 tY), .hole .bool, .hole tI]], [(.one, [.hole tY])]⟩
noncomputable def S_cursor_Cursor_Byte (a0 : LB) (a1 : Bool) (a2 : Int) : Option (LB × (Bool × (Int × (UInt8 × Unit)))) := Sof Tryz.prog annX plansX 93 i_cursor_Cursor_Byte o_cursor_Cursor_Byte (a0, (a1, (a2, ())))
noncomputable def c_cursor_Cursor_Byte : Ctr := ⟨93, i_cursor_Cursor_Byte, o_cursor_Cursor_Byte, fun d => S_cursor_Cursor_Byte d.1 d.2.1 d.2.2.1⟩
theorem k_cursor_Cursor_Byte : (c_cursor_Cursor_Byte).ok Tryz.prog annX plansX := ctr_ok (tin := i_cursor_Cursor_Byte) (tout := o_cursor_Cursor_Byte)
def i_sig_May : Tpl := ⟨[], [], [(.one, [.hole tI])]⟩
def o_sig_May : Tpl := ⟨[], [], [(.one, [.hole .bool])]⟩
noncomputable def S_sig_May (a0 : Int) : Option (Bool × Unit) := Sof Tryz.prog annX plansX 141 i_sig_May o_sig_May (a0, ())
noncomputable def c_sig_May : Ctr := ⟨141, i_sig_May, o_sig_May, fun d => S_sig_May d.1⟩
theorem k_sig_May : (c_sig_May).ok Tryz.prog annX plansX := ctr_ok (tin := i_sig_May) (tout := o_sig_May)
def i_sig_Take : Tpl := ⟨[], [[.hole (.sl 1 tY), .hole .bool, .hole tI]], [(.one, [.stat (.ptr 0 0)]), (.one, [.hole tI])]⟩
def o_sig_Take : Tpl := ⟨[], [[.hole (.sl 1 tY), .hole .bool, .hole tI]], [(.one, [.hole (.sl 1 tI)])]⟩
noncomputable def S_sig_Take (a0 : LB) (a1 : Bool) (a2 : Int) (a3 : Int) : Option (LB × (Bool × (Int × (LI × Unit)))) := Sof Tryz.prog annX plansX 94 i_sig_Take o_sig_Take (a0, (a1, (a2, (a3, ()))))
noncomputable def c_sig_Take : Ctr := ⟨94, i_sig_Take, o_sig_Take, fun d => S_sig_Take d.1 d.2.1 d.2.2.1 d.2.2.2.1⟩
theorem k_sig_Take : (c_sig_Take).ok Tryz.prog annX plansX := ctr_ok (tin := i_sig_Take) (tout := o_sig_Take)
def i_fnc_many : Tpl := ⟨[], [], [(.agg, [.hole .str, .hole .bool, .hole (.sl 1 tI), .hole (.sl 1 tI), .hole (.sl 1 tI), .hole (.sl 1 tI), .hole (.sl 2 tC), .hole (.sl 1 tI), .hole (.sl 7 tN), .hole (.sl 1 tI), .hole (.sl 4 tS)])]⟩
def o_fnc_many : Tpl := ⟨[], [], [(.one, [.hole tI])]⟩
noncomputable def S_fnc_many (a0 : LB) (a1 : Bool) (a2 : LI) (a3 : LI) (a4 : LI) (a5 : LI) (a6 : LC) (a7 : LI) (a8 : LN) (a9 : LI) (a10 : LS) : Option (Int × Unit) := Sof Tryz.prog annX plansX 95 i_fnc_many o_fnc_many (a0, (a1, (a2, (a3, (a4, (a5, (a6, (a7, (a8, (a9, (a10, ())))))))))))
noncomputable def c_fnc_many : Ctr := ⟨95, i_fnc_many, o_fnc_many, fun d => S_fnc_many d.1 d.2.1 d.2.2.1 d.2.2.2.1 d.2.2.2.2.1 d.2.2.2.2.2.1 d.2.2.2.2.2.2.1 d.2.2.2.2.2.2.2.1 d.2.2.2.2.2.2.2.2.1 d.2.2.2.2.2.2.2.2.2.1 d.2.2.2.2.2.2.2.2.2.2.1⟩
theorem k_fnc_many : (c_fnc_many).ok Tryz.prog annX plansX := ctr_ok (tin := i_fnc_many) (tout := o_fnc_many)
def i_fnc_reader_head : Tpl := ⟨[], [[.stat (.ptr 1 0), .hole .str, .hole .bool, .hole (.sl 1 tI), .hole (.sl 1 tI), .hole (.sl 1 tI), .hole (.sl 1 tI), .stat (.c (.v (.slice none 0 0))), .hole (.sl 1 tI), .hole (.sl 7 tN), .hole (.sl 1 tI), .hole (.sl 4 tS), .hole tY, .hole tI], [.hole (.sl 1 tY), .hole .bool, .hole tI]], [(.one, [.stat (.ptr 0 0)])]⟩
def o_fnc_reader_head : Tpl := ⟨[], [[.stat (.ptr 1 0), .hole .str, .hole .bool, .hole (.sl 1 tI), .hole (.sl 1 tI), .hole (.sl 1 tI), .hole (.sl 1 tI), .stat (.c (.v (.slice none 0 0))), .hole (.sl 1 tI), .hole (.sl 7 tN), .hole (.sl 1 tI), .hole (.sl 4 tS), .hole tY, .hole tI], [.hole (.sl 1 tY), .hole .bool, .hole tI]], [(.tup [], [])]⟩
noncomputable def S_fnc_reader_head (a0 : LB) (a1 : Bool) (a2 : LI) (a3 : LI) (a4 : LI) (a5 : LI) (a6 : LI) (a7 : LN) (a8 : LI) (a9 : LS) (a10 : UInt8) (a11 : Int) (a12 : LB) (a13 : Bool) (a14 : Int) : Option (LB × (Bool × (LI × (LI × (LI × (LI × (LI × (LN × (LI × (LS × (UInt8 × (Int × (LB × (Bool × (Int × Unit))))))))))))))) := Sof Tryz.prog annX plansX 50 i_fnc_reader_head o_fnc_reader_head (a0, (a1, (a2, (a3, (a4, (a5, (a6, (a7, (a8, (a9, (a10, (a11, (a12, (a13, (a14, ())))))))))))))))
noncomputable def c_fnc_reader_head : Ctr := ⟨50, i_fnc_reader_head, o_fnc_reader_head, fun d => S_fnc_reader_head d.1 d.2.1 d.2.2.1 d.2.2.2.1 d.2.2.2.2.1 d.2.2.2.2.2.1 d.2.2.2.2.2.2.1 d.2.2.2.2.2.2.2.1 d.2.2.2.2.2.2.2.2.1 d.2.2.2.2.2.2.2.2.2.1 d.2.2.2.2.2.2.2.2.2.2.1 d.2.2.2.2.2.2.2.2.2.2.2.1 d.2.2.2.2.2.2.2.2.2.2.2.2.1 d.2.2.2.2.2.2.2.2.2.2.2.2.2.1 d.2.2.2.2.2.2.2.2.2.2.2.2.2.2.1⟩
theorem k_fnc_reader_head : (c_fnc_reader_head).ok Tryz.prog annX plansX := ctr_ok (tin := i_fnc_reader_head) (tout := o_fnc_reader_head)
def i_ops_is : Tpl := ⟨[], [], [(.one, [.hole tI])]⟩
def o_ops_is : Tpl := ⟨[], [], [(.one, [.hole .bool])]⟩
noncomputable def S_ops_is (a0 : Int) : Option (Bool × Unit) := Sof Tryz.prog annX plansX 168 i_ops_is o_ops_is (a0, ())
noncomputable def c_ops_is : Ctr := ⟨168, i_ops_is, o_ops_is, fun d => S_ops_is d.1⟩
theorem k_ops_is : (c_ops_is).ok Tryz.prog annX plansX := ctr_ok (tin := i_ops_is) (tout := o_ops_is)
def i_ops_Operand : Tpl := ⟨[], [], [(.one, [.hole tI])]⟩
def o_ops_Operand : Tpl := ⟨[], [], [(.one, [.hole tI])]⟩
noncomputable def S_ops_Operand (a0 : Int) : Option (Int × Unit) := Sof Tryz.prog annX plansX 149 i_ops_Operand o_ops_Operand (a0, ())
noncomputable def c_ops_Operand : Ctr := ⟨149, i_ops_Operand, o_ops_Operand, fun d => S_ops_Operand d.1⟩
theorem k_ops_Operand : (c_ops_Operand).ok Tryz.prog annX plansX := ctr_ok (tin := i_ops_Operand) (tout := o_ops_Operand)
def i_instr_has : Tpl := ⟨[], [], [(.one, [.hole tI])]⟩
def o_instr_has : Tpl := ⟨[], [], [(.one, [.hole .bool])]⟩
noncomputable def S_instr_has (a0 : Int) : Option (Bool × Unit) := Sof Tryz.prog annX plansX 118 i_instr_has o_instr_has (a0, ())
noncomputable def c_instr_has : Ctr := ⟨118, i_instr_has, o_instr_has, fun d => S_instr_has d.1⟩
theorem k_instr_has : (c_instr_has).ok Tryz.prog annX plansX := ctr_ok (tin := i_instr_has) (tout := o_instr_has)
def i_uvar_Unfold : Tpl := ⟨[], [], [(.one, [.hole tW])]⟩
def o_uvar_Unfold : Tpl := ⟨[], [], [(.one, [.hole tI])]⟩
noncomputable def S_uvar_Unfold (a0 : Int) : Option (Int × Unit) := Sof Tryz.prog annX plansX 163 i_uvar_Unfold o_uvar_Unfold (a0, ())
noncomputable def c_uvar_Unfold : Ctr := ⟨163, i_uvar_Unfold, o_uvar_Unfold, fun d => S_uvar_Unfold d.1⟩
theorem k_uvar_Unfold : (c_uvar_Unfold).ok Tryz.prog annX plansX := ctr_ok (tin := i_uvar_Unfold) (tout := o_uvar_Unfold)
def i_cursor_Cursor_Int : Tpl := ⟨[], [[.hole (.sl 1 tY), .hole .bool, .hole tI]], [(.one, [.stat (.ptr 0 0)])]⟩
def o_cursor_Cursor_Int : Tpl := ⟨[], [[.hole (.sl 1 tY), .hole .bool, .hole tI]], [(.one, [.hole tI])]⟩
noncomputable def S_cursor_Cursor_Int (a0 : LB) (a1 : Bool) (a2 : Int) : Option (LB × (Bool × (Int × (Int × Unit)))) := Sof Tryz.prog annX plansX 143 i_cursor_Cursor_Int o_cursor_Cursor_Int (a0, (a1, (a2, ())))
noncomputable def c_cursor_Cursor_Int : Ctr := ⟨143, i_cursor_Cursor_Int, o_cursor_Cursor_Int, fun d => S_cursor_Cursor_Int d.1 d.2.1 d.2.2.1⟩
theorem k_cursor_Cursor_Int : (c_cursor_Cursor_Int).ok Tryz.prog annX plansX := ctr_ok (tin := i_cursor_Cursor_Int) (tout := o_cursor_Cursor_Int)
def i__instr_operand_most : Tpl := ⟨[], [], [(.one, [.hole tI])]⟩
def o__instr_operand_most : Tpl := ⟨[], [], [(.one, [.hole tI])]⟩
noncomputable def S__instr_operand_most (a0 : Int) : Option (Int × Unit) := Sof Tryz.prog annX plansX 167 i__instr_operand_most o__instr_operand_most (a0, ())
noncomputable def c__instr_operand_most : Ctr := ⟨167, i__instr_operand_most, o__instr_operand_most, fun d => S__instr_operand_most d.1⟩
theorem k__instr_operand_most : (c__instr_operand_most).ok Tryz.prog annX plansX := ctr_ok (tin := i__instr_operand_most) (tout := o__instr_operand_most)
def i__instr_operand_may : Tpl := ⟨[], [], [(.one, [.hole tI]), (.one, [.hole tI])]⟩
def o__instr_operand_may : Tpl := ⟨[], [], [(.one, [.hole .bool])]⟩
noncomputable def S__instr_operand_may (a0 : Int) (a1 : Int) : Option (Bool × Unit) := Sof Tryz.prog annX plansX 148 i__instr_operand_may o__instr_operand_may (a0, (a1, ()))
noncomputable def c__instr_operand_may : Ctr := ⟨148, i__instr_operand_may, o__instr_operand_may, fun d => S__instr_operand_may d.1 d.2.1⟩
theorem k__instr_operand_may : (c__instr_operand_may).ok Tryz.prog annX plansX := ctr_ok (tin := i__instr_operand_may) (tout := o__instr_operand_may)
def i_instr_Right : Tpl := ⟨[], [], [(.agg, [.hole tI, .hole tI])]⟩
def o_instr_Right : Tpl := ⟨[], [], [(.one, [.hole .bool])]⟩
noncomputable def S_instr_Right (a0 : Int) (a1 : Int) : Option (Bool × Unit) := Sof Tryz.prog annX plansX 103 i_instr_Right o_instr_Right (a0, (a1, ()))
noncomputable def c_instr_Right : Ctr := ⟨103, i_instr_Right, o_instr_Right, fun d => S_instr_Right d.1 d.2.1⟩
theorem k_instr_Right : (c_instr_Right).ok Tryz.prog annX plansX := ctr_ok (tin := i_instr_Right) (tout := o_instr_Right)
def i_instr_Take : Tpl := ⟨[], [[.hole (.sl 1 tY), .hole .bool, .hole tI]], [(.one, [.stat (.ptr 0 0)])]⟩
def o_instr_Take : Tpl := ⟨[], [[.hole (.sl 1 tY), .hole .bool, .hole tI]], [(.agg, [.hole tI, .hole tI])]⟩
noncomputable def S_instr_Take (a0 : LB) (a1 : Bool) (a2 : Int) : Option (LB × (Bool × (Int × (Int × (Int × Unit))))) := Sof Tryz.prog annX plansX 97 i_instr_Take o_instr_Take (a0, (a1, (a2, ())))
noncomputable def c_instr_Take : Ctr := ⟨97, i_instr_Take, o_instr_Take, fun d => S_instr_Take d.1 d.2.1 d.2.2.1⟩
theorem k_instr_Take : (c_instr_Take).ok Tryz.prog annX plansX := ctr_ok (tin := i_instr_Take) (tout := o_instr_Take)
def i_runs_run : Tpl := ⟨[], [[.hole (.sl 1 tY), .hole .bool, .hole tI]], [(.one, [.stat (.ptr 0 0)]), (.one, [.hole tI])]⟩
def o_runs_run : Tpl := ⟨[], [[.hole (.sl 1 tY), .hole .bool, .hole tI]], [(.tup [(true, 2), (false, 1)], [.hole tI, .hole tI, .hole .bool])]⟩
noncomputable def S_runs_run (a0 : LB) (a1 : Bool) (a2 : Int) (a3 : Int) : Option (LB × (Bool × (Int × (Int × (Int × (Bool × Unit)))))) := Sof Tryz.prog annX plansX 146 i_runs_run o_runs_run (a0, (a1, (a2, (a3, ()))))
noncomputable def c_runs_run : Ctr := ⟨146, i_runs_run, o_runs_run, fun d => S_runs_run d.1 d.2.1 d.2.2.1 d.2.2.2.1⟩
theorem k_runs_run : (c_runs_run).ok Tryz.prog annX plansX := ctr_ok (tin := i_runs_run) (tout := o_runs_run)
def i_runs_Take : Tpl := ⟨[], [[.hole (.sl 1 tY), .hole .bool, .hole tI]], [(.one, [.stat (.ptr 0 0)]), (.one, [.hole tI]), (.one, [.hole tI]), (.one, [.hole tI])]⟩
def o_runs_Take : Tpl := ⟨[], [[.hole (.sl 1 tY), .hole .bool, .hole tI]], [(.one, [.hole (.sl 1 tI)])]⟩
noncomputable def S_runs_Take (a0 : LB) (a1 : Bool) (a2 : Int) (a3 : Int) (a4 : Int) (a5 : Int) : Option (LB × (Bool × (Int × (LI × Unit)))) := Sof Tryz.prog annX plansX 100 i_runs_Take o_runs_Take (a0, (a1, (a2, (a3, (a4, (a5, ()))))))
noncomputable def c_runs_Take : Ctr := ⟨100, i_runs_Take, o_runs_Take, fun d => S_runs_Take d.1 d.2.1 d.2.2.1 d.2.2.2.1 d.2.2.2.2.1 d.2.2.2.2.2.1⟩
theorem k_runs_Take : (c_runs_Take).ok Tryz.prog annX plansX := ctr_ok (tin := i_runs_Take) (tout := o_runs_Take)
def i_lines_Take : Tpl := ⟨[], [[.hole (.sl 1 tY), .hole .bool, .hole tI]], [(.one, [.stat (.ptr 0 0)]), (.one, [.hole tI])]⟩
def o_lines_Take : Tpl := ⟨[], [[.hole (.sl 1 tY), .hole .bool, .hole tI]], [(.one, [.hole (.sl 1 tI)])]⟩
noncomputable def S_lines_Take (a0 : LB) (a1 : Bool) (a2 : Int) (a3 : Int) : Option (LB × (Bool × (Int × (LI × Unit)))) := Sof Tryz.prog annX plansX 98 i_lines_Take o_lines_Take (a0, (a1, (a2, (a3, ()))))
noncomputable def c_lines_Take : Ctr := ⟨98, i_lines_Take, o_lines_Take, fun d => S_lines_Take d.1 d.2.1 d.2.2.1 d.2.2.2.1⟩
theorem k_lines_Take : (c_lines_Take).ok Tryz.prog annX plansX := ctr_ok (tin := i_lines_Take) (tout := o_lines_Take)
def i_fnc_reader_code : Tpl := ⟨[], [[.stat (.ptr 1 0), .hole .str, .hole .bool, .hole (.sl 1 tI), .hole (.sl 1 tI), .hole (.sl 1 tI), .hole (.sl 1 tI), .stat (.c (.v (.slice none 0 0))), .hole (.sl 1 tI), .hole (.sl 7 tN), .hole (.sl 1 tI), .hole (.sl 4 tS), .hole tY, .hole tI], [.hole (.sl 1 tY), .hole .bool, .hole tI]], [(.one, [.stat (.ptr 0 0)])]⟩
def o_fnc_reader_code : Tpl := ⟨[.mu 78 2 tC], [[.stat (.ptr 1 0), .hole .str, .hole .bool, .hole (.sl 1 tI), .hole (.sl 1 tI), .hole (.sl 1 tI), .hole (.sl 1 tI), .own 0, .hole (.sl 1 tI), .hole (.sl 7 tN), .hole (.sl 1 tI), .hole (.sl 4 tS), .hole tY, .hole tI], [.hole (.sl 1 tY), .hole .bool, .hole tI]], [(.tup [], [])]⟩
noncomputable def S_fnc_reader_code (a0 : LB) (a1 : Bool) (a2 : LI) (a3 : LI) (a4 : LI) (a5 : LI) (a6 : LI) (a7 : LN) (a8 : LI) (a9 : LS) (a10 : UInt8) (a11 : Int) (a12 : LB) (a13 : Bool) (a14 : Int) : Option (LC × (LB × (Bool × (LI × (LI × (LI × (LI × (LI × (LN × (LI × (LS × (UInt8 × (Int × (LB × (Bool × (Int × Unit)))))))))))))))) := Sof Tryz.prog annX plansX 51 i_fnc_reader_code o_fnc_reader_code (a0, (a1, (a2, (a3, (a4, (a5, (a6, (a7, (a8, (a9, (a10, (a11, (a12, (a13, (a14, ())))))))))))))))
noncomputable def c_fnc_reader_code : Ctr := ⟨51, i_fnc_reader_code, o_fnc_reader_code, fun d => S_fnc_reader_code d.1 d.2.1 d.2.2.1 d.2.2.2.1 d.2.2.2.2.1 d.2.2.2.2.2.1 d.2.2.2.2.2.2.1 d.2.2.2.2.2.2.2.1 d.2.2.2.2.2.2.2.2.1 d.2.2.2.2.2.2.2.2.2.1 d.2.2.2.2.2.2.2.2.2.2.1 d.2.2.2.2.2.2.2.2.2.2.2.1 d.2.2.2.2.2.2.2.2.2.2.2.2.1 d.2.2.2.2.2.2.2.2.2.2.2.2.2.1 d.2.2.2.2.2.2.2.2.2.2.2.2.2.2.1⟩
theorem k_fnc_reader_code : (c_fnc_reader_code).ok Tryz.prog annX plansX := ctr_ok (tin := i_fnc_reader_code) (tout := o_fnc_reader_code)
def i_tree_take : Tpl := ⟨[], [[.hole (.sl 1 tY), .hole .bool, .hole tI]], [(.one, [.stat (.ptr 0 0)])]⟩
def o_tree_take : Tpl := ⟨[], [[.hole (.sl 1 tY), .hole .bool, .hole tI]], [(.agg, [.hole tI, .hole tI, .hole tI, .hole tI, .hole tI, .hole tI, .hole tI])]⟩
noncomputable def S_tree_take (a0 : LB) (a1 : Bool) (a2 : Int) : Option (LB × (Bool × (Int × (Int × (Int × (Int × (Int × (Int × (Int × (Int × Unit)))))))))) := Sof Tryz.prog annX plansX 144 i_tree_take o_tree_take (a0, (a1, (a2, ())))
noncomputable def c_tree_take : Ctr := ⟨144, i_tree_take, o_tree_take, fun d => S_tree_take d.1 d.2.1 d.2.2.1⟩
theorem k_tree_take : (c_tree_take).ok Tryz.prog annX plansX := ctr_ok (tin := i_tree_take) (tout := o_tree_take)
def i_tree_within : Tpl := ⟨[], [], [(.one, [.hole tI]), (.one, [.hole tI]), (.one, [.hole tI])]⟩
def o_tree_within : Tpl := ⟨[], [], [(.one, [.hole .bool])]⟩
noncomputable def S_tree_within (a0 : Int) (a1 : Int) (a2 : Int) : Option (Bool × Unit) := Sof Tryz.prog annX plansX 172 i_tree_within o_tree_within (a0, (a1, (a2, ())))
noncomputable def c_tree_within : Ctr := ⟨172, i_tree_within, o_tree_within, fun d => S_tree_within d.1 d.2.1 d.2.2.1⟩
theorem k_tree_within : (c_tree_within).ok Tryz.prog annX plansX := ctr_ok (tin := i_tree_within) (tout := o_tree_within)
def i_tree_may : Tpl := ⟨[], [], [(.agg, [.hole tI, .hole tI, .hole tI, .hole tI, .hole tI, .hole tI, .hole tI]), (.one, [.hole tI]), (.one, [.hole tI])]⟩
def o_tree_may : Tpl := ⟨[], [], [(.one, [.hole .bool])]⟩
noncomputable def S_tree_may (a0 : Int) (a1 : Int) (a2 : Int) (a3 : Int) (a4 : Int) (a5 : Int) (a6 : Int) (a7 : Int) (a8 : Int) : Option (Bool × Unit) := Sof Tryz.prog annX plansX 164 i_tree_may o_tree_may (a0, (a1, (a2, (a3, (a4, (a5, (a6, (a7, (a8, ())))))))))
noncomputable def c_tree_may : Ctr := ⟨164, i_tree_may, o_tree_may, fun d => S_tree_may d.1 d.2.1 d.2.2.1 d.2.2.2.1 d.2.2.2.2.1 d.2.2.2.2.2.1 d.2.2.2.2.2.2.1 d.2.2.2.2.2.2.2.1 d.2.2.2.2.2.2.2.2.1⟩
theorem k_tree_may : (c_tree_may).ok Tryz.prog annX plansX := ctr_ok (tin := i_tree_may) (tout := o_tree_may)
def i_tree_Right : Tpl := ⟨[], [], [(.one, [.hole (.sl 7 tN)])]⟩
def o_tree_Right : Tpl := ⟨[], [], [(.one, [.hole .bool])]⟩
noncomputable def S_tree_Right (a0 : LN) : Option (Bool × Unit) := Sof Tryz.prog annX plansX 145 i_tree_Right o_tree_Right (a0, ())
noncomputable def c_tree_Right : Ctr := ⟨145, i_tree_Right, o_tree_Right, fun d => S_tree_Right d.1⟩
theorem k_tree_Right : (c_tree_Right).ok Tryz.prog annX plansX := ctr_ok (tin := i_tree_Right) (tout := o_tree_Right)
def i_tree_Take : Tpl := ⟨[], [[.hole (.sl 1 tY), .hole .bool, .hole tI]], [(.one, [.stat (.ptr 0 0)])]⟩
def o_tree_Take : Tpl := ⟨[], [[.hole (.sl 1 tY), .hole .bool, .hole tI]], [(.one, [.hole (.sl 7 tN)])]⟩
noncomputable def S_tree_Take (a0 : LB) (a1 : Bool) (a2 : Int) : Option (LB × (Bool × (Int × (LN × Unit)))) := Sof Tryz.prog annX plansX 99 i_tree_Take o_tree_Take (a0, (a1, (a2, ())))
noncomputable def c_tree_Take : Ctr := ⟨99, i_tree_Take, o_tree_Take, fun d => S_tree_Take d.1 d.2.1 d.2.2.1⟩
theorem k_tree_Take : (c_tree_Take).ok Tryz.prog annX plansX := ctr_ok (tin := i_tree_Take) (tout := o_tree_Take)
def i__maps_counted_api_Set_like : Tpl := ⟨[], [], [(.agg, [.hole tW, .hole tW, .hole tW, .hole tW, .hole tI]), (.agg, [.hole tW, .hole tW, .hole tW, .hole tW])]⟩
def o__maps_counted_api_Set_like : Tpl := ⟨[], [], [(.one, [.hole .bool])]⟩
noncomputable def S__maps_counted_api_Set_like (a0 : Int) (a1 : Int) (a2 : Int) (a3 : Int) (a4 : Int) (a5 : Int) (a6 : Int) (a7 : Int) (a8 : Int) : Option (Bool × Unit) := Sof Tryz.prog annX plansX 165 i__maps_counted_api_Set_like o__maps_counted_api_Set_like (a0, (a1, (a2, (a3, (a4, (a5, (a6, (a7, (a8, ())))))))))
noncomputable def c__maps_counted_api_Set_like : Ctr := ⟨165, i__maps_counted_api_Set_like, o__maps_counted_api_Set_like, fun d => S__maps_counted_api_Set_like d.1 d.2.1 d.2.2.1 d.2.2.2.1 d.2.2.2.2.1 d.2.2.2.2.2.1 d.2.2.2.2.2.2.1 d.2.2.2.2.2.2.2.1 d.2.2.2.2.2.2.2.2.1⟩
theorem k__maps_counted_api_Set_like : (c__maps_counted_api_Set_like).ok Tryz.prog annX plansX := ctr_ok (tin := i__maps_counted_api_Set_like) (tout := o__maps_counted_api_Set_like)
def i_slots_is : Tpl := ⟨[], [], [(.one, [.hole tI])]⟩
def o_slots_is : Tpl := ⟨[], [], [(.one, [.hole .bool])]⟩
noncomputable def S_slots_is (a0 : Int) : Option (Bool × Unit) := Sof Tryz.prog annX plansX 179 i_slots_is o_slots_is (a0, ())
noncomputable def c_slots_is : Ctr := ⟨179, i_slots_is, o_slots_is, fun d => S_slots_is d.1⟩
theorem k_slots_is : (c_slots_is).ok Tryz.prog annX plansX := ctr_ok (tin := i_slots_is) (tout := o_slots_is)
def i_slots_With : Tpl := ⟨[], [], [(.agg, [.hole tW, .hole tW, .hole tW, .hole tW]), (.one, [.hole tI])]⟩
def o_slots_With : Tpl := ⟨[], [], [(.agg, [.hole tW, .hole tW, .hole tW, .hole tW])]⟩
noncomputable def S_slots_With (a0 : Int) (a1 : Int) (a2 : Int) (a3 : Int) (a4 : Int) : Option (Int × (Int × (Int × (Int × Unit)))) := Sof Tryz.prog annX plansX 176 i_slots_With o_slots_With (a0, (a1, (a2, (a3, (a4, ())))))
noncomputable def c_slots_With : Ctr := ⟨176, i_slots_With, o_slots_With, fun d => S_slots_With d.1 d.2.1 d.2.2.1 d.2.2.2.1 d.2.2.2.2.1⟩
theorem k_slots_With : (c_slots_With).ok Tryz.prog annX plansX := ctr_ok (tin := i_slots_With) (tout := o_slots_With)
def i_slots_Range : Tpl := ⟨[], [], [(.one, [.hole tI]), (.one, [.hole tI])]⟩
def o_slots_Range : Tpl := ⟨[], [], [(.agg, [.hole tW, .hole tW, .hole tW, .hole tW])]⟩
noncomputable def S_slots_Range (a0 : Int) (a1 : Int) : Option (Int × (Int × (Int × (Int × Unit)))) := Sof Tryz.prog annX plansX 174 i_slots_Range o_slots_Range (a0, (a1, ()))
noncomputable def c_slots_Range : Ctr := ⟨174, i_slots_Range, o_slots_Range, fun d => S_slots_Range d.1 d.2.1⟩
theorem k_slots_Range : (c_slots_Range).ok Tryz.prog annX plansX := ctr_ok (tin := i_slots_Range) (tout := o_slots_Range)
def i_slots_Sub_1 : Tpl := ⟨[], [], [(.one, [.hole tW]), (.one, [.hole tW])]⟩
def o_slots_Sub_1 : Tpl := ⟨[], [], [(.one, [.hole tW])]⟩
noncomputable def S_slots_Sub_1 (a0 : Int) (a1 : Int) : Option (Int × Unit) := Sof Tryz.prog annX plansX 178 i_slots_Sub_1 o_slots_Sub_1 (a0, (a1, ()))
noncomputable def c_slots_Sub_1 : Ctr := ⟨178, i_slots_Sub_1, o_slots_Sub_1, fun d => S_slots_Sub_1 d.1 d.2.1⟩
theorem k_slots_Sub_1 : (c_slots_Sub_1).ok Tryz.prog annX plansX := ctr_ok (tin := i_slots_Sub_1) (tout := o_slots_Sub_1)
def i_slots_Sub : Tpl := ⟨[], [], [(.agg, [.hole tW, .hole tW, .hole tW, .hole tW]), (.agg, [.hole tW, .hole tW, .hole tW, .hole tW])]⟩
def o_slots_Sub : Tpl := ⟨[], [], [(.agg, [.hole tW, .hole tW, .hole tW, .hole tW])]⟩
noncomputable def S_slots_Sub (a0 : Int) (a1 : Int) (a2 : Int) (a3 : Int) (a4 : Int) (a5 : Int) (a6 : Int) (a7 : Int) : Option (Int × (Int × (Int × (Int × Unit)))) := Sof Tryz.prog annX plansX 175 i_slots_Sub o_slots_Sub (a0, (a1, (a2, (a3, (a4, (a5, (a6, (a7, ()))))))))
noncomputable def c_slots_Sub : Ctr := ⟨175, i_slots_Sub, o_slots_Sub, fun d => S_slots_Sub d.1 d.2.1 d.2.2.1 d.2.2.2.1 d.2.2.2.2.1 d.2.2.2.2.2.1 d.2.2.2.2.2.2.1 d.2.2.2.2.2.2.2.1⟩
theorem k_slots_Sub : (c_slots_Sub).ok Tryz.prog annX plansX := ctr_ok (tin := i_slots_Sub) (tout := o_slots_Sub)
def i_slots_Inside : Tpl := ⟨[], [], [(.agg, [.hole tW, .hole tW, .hole tW, .hole tW]), (.agg, [.hole tW, .hole tW, .hole tW, .hole tW])]⟩
def o_slots_Inside : Tpl := ⟨[], [], [(.one, [.hole .bool])]⟩
noncomputable def S_slots_Inside (a0 : Int) (a1 : Int) (a2 : Int) (a3 : Int) (a4 : Int) (a5 : Int) (a6 : Int) (a7 : Int) : Option (Bool × Unit) := Sof Tryz.prog annX plansX 173 i_slots_Inside o_slots_Inside (a0, (a1, (a2, (a3, (a4, (a5, (a6, (a7, ()))))))))
noncomputable def c_slots_Inside : Ctr := ⟨173, i_slots_Inside, o_slots_Inside, fun d => S_slots_Inside d.1 d.2.1 d.2.2.1 d.2.2.2.1 d.2.2.2.2.1 d.2.2.2.2.2.1 d.2.2.2.2.2.2.1 d.2.2.2.2.2.2.2.1⟩
theorem k_slots_Inside : (c_slots_Inside).ok Tryz.prog annX plansX := ctr_ok (tin := i_slots_Inside) (tout := o_slots_Inside)
def i_slots_Below : Tpl := ⟨[], [], [(.agg, [.hole tW, .hole tW, .hole tW, .hole tW]), (.one, [.hole tI])]⟩
def o_slots_Below : Tpl := ⟨[], [], [(.one, [.hole .bool])]⟩
noncomputable def S_slots_Below (a0 : Int) (a1 : Int) (a2 : Int) (a3 : Int) (a4 : Int) : Option (Bool × Unit) := Sof Tryz.prog annX plansX 166 i_slots_Below o_slots_Below (a0, (a1, (a2, (a3, (a4, ())))))
noncomputable def c_slots_Below : Ctr := ⟨166, i_slots_Below, o_slots_Below, fun d => S_slots_Below d.1 d.2.1 d.2.2.1 d.2.2.2.1 d.2.2.2.2.1⟩
theorem k_slots_Below : (c_slots_Below).ok Tryz.prog annX plansX := ctr_ok (tin := i_slots_Below) (tout := o_slots_Below)
def i_maps_take : Tpl := ⟨[], [[.hole (.sl 1 tY), .hole .bool, .hole tI]], [(.one, [.stat (.ptr 0 0)]), (.one, [.hole tI]), (.one, [.hole tI]), (.agg, [.hole tW, .hole tW, .hole tW, .hole tW, .hole tI])]⟩
def o_maps_take : Tpl := ⟨[], [[.hole (.sl 1 tY), .hole .bool, .hole tI]], [(.agg, [.hole tW, .hole tW, .hole tW, .hole tW, .hole tI])]⟩
noncomputable def S_maps_take (a0 : LB) (a1 : Bool) (a2 : Int) (a3 : Int) (a4 : Int) (a5 : Int) (a6 : Int) (a7 : Int) (a8 : Int) (a9 : Int) : Option (LB × (Bool × (Int × (Int × (Int × (Int × (Int × (Int × Unit)))))))) := Sof Tryz.prog annX plansX 147 i_maps_take o_maps_take (a0, (a1, (a2, (a3, (a4, (a5, (a6, (a7, (a8, (a9, ()))))))))))
noncomputable def c_maps_take : Ctr := ⟨147, i_maps_take, o_maps_take, fun d => S_maps_take d.1 d.2.1 d.2.2.1 d.2.2.2.1 d.2.2.2.2.1 d.2.2.2.2.2.1 d.2.2.2.2.2.2.1 d.2.2.2.2.2.2.2.1 d.2.2.2.2.2.2.2.2.1 d.2.2.2.2.2.2.2.2.2.1⟩
theorem k_maps_take : (c_maps_take).ok Tryz.prog annX plansX := ctr_ok (tin := i_maps_take) (tout := o_maps_take)
def i_maps_Take : Tpl := ⟨[], [[.hole (.sl 1 tY), .hole .bool, .hole tI]], [(.one, [.stat (.ptr 0 0)]), (.one, [.hole tI]), (.one, [.hole tI])]⟩
def o_maps_Take : Tpl := ⟨[], [[.hole (.sl 1 tY), .hole .bool, .hole tI]], [(.one, [.hole (.sl 4 tS)])]⟩
noncomputable def S_maps_Take (a0 : LB) (a1 : Bool) (a2 : Int) (a3 : Int) (a4 : Int) : Option (LB × (Bool × (Int × (LS × Unit)))) := Sof Tryz.prog annX plansX 101 i_maps_Take o_maps_Take (a0, (a1, (a2, (a3, (a4, ())))))
noncomputable def c_maps_Take : Ctr := ⟨101, i_maps_Take, o_maps_Take, fun d => S_maps_Take d.1 d.2.1 d.2.2.1 d.2.2.2.1 d.2.2.2.2.1⟩
theorem k_maps_Take : (c_maps_Take).ok Tryz.prog annX plansX := ctr_ok (tin := i_maps_Take) (tout := o_maps_Take)
def i_fnc_reader_tables : Tpl := ⟨[.mu 78 2 tC], [[.stat (.ptr 1 0), .hole .str, .hole .bool, .hole (.sl 1 tI), .hole (.sl 1 tI), .hole (.sl 1 tI), .hole (.sl 1 tI), .own 0, .hole (.sl 1 tI), .hole (.sl 7 tN), .hole (.sl 1 tI), .hole (.sl 4 tS), .hole tY, .hole tI], [.hole (.sl 1 tY), .hole .bool, .hole tI]], [(.one, [.stat (.ptr 0 0)])]⟩
def o_fnc_reader_tables : Tpl := ⟨[.mu 78 2 tC], [[.stat (.ptr 1 0), .hole .str, .hole .bool, .hole (.sl 1 tI), .hole (.sl 1 tI), .hole (.sl 1 tI), .hole (.sl 1 tI), .own 0, .hole (.sl 1 tI), .hole (.sl 7 tN), .hole (.sl 1 tI), .hole (.sl 4 tS), .hole tY, .hole tI], [.hole (.sl 1 tY), .hole .bool, .hole tI]], [(.tup [], [])]⟩
noncomputable def S_fnc_reader_tables (a0 : LC) (a1 : LB) (a2 : Bool) (a3 : LI) (a4 : LI) (a5 : LI) (a6 : LI) (a7 : LI) (a8 : LN) (a9 : LI) (a10 : LS) (a11 : UInt8) (a12 : Int) (a13 : LB) (a14 : Bool) (a15 : Int) : Option (LC × (LB × (Bool × (LI × (LI × (LI × (LI × (LI × (LN × (LI × (LS × (UInt8 × (Int × (LB × (Bool × (Int × Unit)))))))))))))))) := Sof Tryz.prog annX plansX 52 i_fnc_reader_tables o_fnc_reader_tables (a0, (a1, (a2, (a3, (a4, (a5, (a6, (a7, (a8, (a9, (a10, (a11, (a12, (a13, (a14, (a15, ()))))))))))))))))
noncomputable def c_fnc_reader_tables : Ctr := ⟨52, i_fnc_reader_tables, o_fnc_reader_tables, fun d => S_fnc_reader_tables d.1 d.2.1 d.2.2.1 d.2.2.2.1 d.2.2.2.2.1 d.2.2.2.2.2.1 d.2.2.2.2.2.2.1 d.2.2.2.2.2.2.2.1 d.2.2.2.2.2.2.2.2.1 d.2.2.2.2.2.2.2.2.2.1 d.2.2.2.2.2.2.2.2.2.2.1 d.2.2.2.2.2.2.2.2.2.2.2.1 d.2.2.2.2.2.2.2.2.2.2.2.2.1 d.2.2.2.2.2.2.2.2.2.2.2.2.2.1 d.2.2.2.2.2.2.2.2.2.2.2.2.2.2.1 d.2.2.2.2.2.2.2.2.2.2.2.2.2.2.2.1⟩
theorem k_fnc_reader_tables : (c_fnc_reader_tables).ok Tryz.prog annX plansX := ctr_ok (tin := i_fnc_reader_tables) (tout := o_fnc_reader_tables)
def i_fnc_Take : Tpl := ⟨[], [[.hole (.sl 1 tY), .hole .bool, .hole tI]], [(.one, [.stat (.ptr 0 0)])]⟩
def o_fnc_Take : Tpl := ⟨[], [[.hole (.sl 1 tY), .hole .bool, .hole tI]], [(.agg, [.hole .str, .hole .bool, .hole (.sl 1 tI), .hole (.sl 1 tI), .hole (.sl 1 tI), .hole (.sl 1 tI), .hole (.sl 2 tC), .hole (.sl 1 tI), .hole (.sl 7 tN), .hole (.sl 1 tI), .hole (.sl 4 tS)])]⟩
noncomputable def S_fnc_Take (a0 : LB) (a1 : Bool) (a2 : Int) : Option (LB × (Bool × (Int × (LB × (Bool × (LI × (LI × (LI × (LI × (LC × (LI × (LN × (LI × (LS × Unit)))))))))))))) := Sof Tryz.prog annX plansX 13 i_fnc_Take o_fnc_Take (a0, (a1, (a2, ())))
noncomputable def c_fnc_Take : Ctr := ⟨13, i_fnc_Take, o_fnc_Take, fun d => S_fnc_Take d.1 d.2.1 d.2.2.1⟩
theorem k_fnc_Take : (c_fnc_Take).ok Tryz.prog annX plansX := ctr_ok (tin := i_fnc_Take) (tout := o_fnc_Take)
def i_cursor_Cursor_Left : Tpl := ⟨[], [[.hole (.sl 1 tY), .hole .bool, .hole tI]], [(.one, [.stat (.ptr 0 0)])]⟩
def o_cursor_Cursor_Left : Tpl := ⟨[], [[.hole (.sl 1 tY), .hole .bool, .hole tI]], [(.one, [.hole tI])]⟩
noncomputable def S_cursor_Cursor_Left (a0 : LB) (a1 : Bool) (a2 : Int) : Option (LB × (Bool × (Int × (Int × Unit)))) := Sof Tryz.prog annX plansX 15 i_cursor_Cursor_Left o_cursor_Cursor_Left (a0, (a1, (a2, ())))
noncomputable def c_cursor_Cursor_Left : Ctr := ⟨15, i_cursor_Cursor_Left, o_cursor_Cursor_Left, fun d => S_cursor_Cursor_Left d.1 d.2.1 d.2.2.1⟩
theorem k_cursor_Cursor_Left : (c_cursor_Cursor_Left).ok Tryz.prog annX plansX := ctr_ok (tin := i_cursor_Cursor_Left) (tout := o_cursor_Cursor_Left)
def i_ref02_Left : Tpl := ⟨[], [], [(.agg, [.hole (.sl 1 tY), .hole tI])]⟩
def o_ref02_Left : Tpl := ⟨[], [], [(.one, [.hole tI])]⟩
noncomputable def S_ref02_Left (a0 : LB) (a1 : Int) : Option (Int × Unit) := Sof Tryz.prog annX plansX 16 i_ref02_Left o_ref02_Left (a0, (a1, ()))
def i_fnc_Can_1 : Tpl := ⟨[], [], [(.agg, [.hole tI, .hole tI])]⟩
def o_fnc_Can_1 : Tpl := ⟨[], [], [(.one, [.hole .bool])]⟩
noncomputable def S_fnc_Can_1 (a0 : Int) (a1 : Int) : Option (Bool × Unit) := Sof Tryz.prog annX plansX 102 i_fnc_Can_1 o_fnc_Can_1 (a0, (a1, ()))
noncomputable def c_fnc_Can_1 : Ctr := ⟨102, i_fnc_Can_1, o_fnc_Can_1, fun d => S_fnc_Can_1 d.1 d.2.1⟩
theorem k_fnc_Can_1 : (c_fnc_Can_1).ok Tryz.prog annX plansX := ctr_ok (tin := i_fnc_Can_1) (tout := o_fnc_Can_1)
def i_sig_Right_1 : Tpl := ⟨[], [], [(.one, [.hole tI])]⟩
def o_sig_Right_1 : Tpl := ⟨[], [], [(.one, [.hole .bool])]⟩
noncomputable def S_sig_Right_1 (a0 : Int) : Option (Bool × Unit) := Sof Tryz.prog annX plansX 156 i_sig_Right_1 o_sig_Right_1 (a0, ())
noncomputable def c_sig_Right_1 : Ctr := ⟨156, i_sig_Right_1, o_sig_Right_1, fun d => S_sig_Right_1 d.1⟩
theorem k_sig_Right_1 : (c_sig_Right_1).ok Tryz.prog annX plansX := ctr_ok (tin := i_sig_Right_1) (tout := o_sig_Right_1)
def i_sig_Right : Tpl := ⟨[], [], [(.one, [.hole (.sl 1 tI)]), (.one, [.hole tI])]⟩
def o_sig_Right : Tpl := ⟨[], [], [(.one, [.hole .bool])]⟩
noncomputable def S_sig_Right (a0 : LI) (a1 : Int) : Option (Bool × Unit) := Sof Tryz.prog annX plansX 117 i_sig_Right o_sig_Right (a0, (a1, ()))
noncomputable def c_sig_Right : Ctr := ⟨117, i_sig_Right, o_sig_Right, fun d => S_sig_Right d.1 d.2.1⟩
theorem k_sig_Right : (c_sig_Right).ok Tryz.prog annX plansX := ctr_ok (tin := i_sig_Right) (tout := o_sig_Right)
def i_fnc_types : Tpl := ⟨[], [], [(.agg, [.hole .str, .hole .bool, .hole (.sl 1 tI), .hole (.sl 1 tI), .hole (.sl 1 tI), .hole (.sl 1 tI), .hole (.sl 2 tC), .hole (.sl 1 tI), .hole (.sl 7 tN), .hole (.sl 1 tI), .hole (.sl 4 tS)])]⟩
def o_fnc_types : Tpl := ⟨[], [], [(.one, [.hole .bool])]⟩
noncomputable def S_fnc_types (a0 : LB) (a1 : Bool) (a2 : LI) (a3 : LI) (a4 : LI) (a5 : LI) (a6 : LC) (a7 : LI) (a8 : LN) (a9 : LI) (a10 : LS) : Option (Bool × Unit) := Sof Tryz.prog annX plansX 104 i_fnc_types o_fnc_types (a0, (a1, (a2, (a3, (a4, (a5, (a6, (a7, (a8, (a9, (a10, ())))))))))))
noncomputable def c_fnc_types : Ctr := ⟨104, i_fnc_types, o_fnc_types, fun d => S_fnc_types d.1 d.2.1 d.2.2.1 d.2.2.2.1 d.2.2.2.2.1 d.2.2.2.2.2.1 d.2.2.2.2.2.2.1 d.2.2.2.2.2.2.2.1 d.2.2.2.2.2.2.2.2.1 d.2.2.2.2.2.2.2.2.2.1 d.2.2.2.2.2.2.2.2.2.2.1⟩
theorem k_fnc_types : (c_fnc_types).ok Tryz.prog annX plansX := ctr_ok (tin := i_fnc_types) (tout := o_fnc_types)
def i_lines_Right_1 : Tpl := ⟨[], [], [(.one, [.hole tI])]⟩
def o_lines_Right_1 : Tpl := ⟨[], [], [(.one, [.hole .bool])]⟩
noncomputable def S_lines_Right_1 (a0 : Int) : Option (Bool × Unit) := Sof Tryz.prog annX plansX 151 i_lines_Right_1 o_lines_Right_1 (a0, ())
noncomputable def c_lines_Right_1 : Ctr := ⟨151, i_lines_Right_1, o_lines_Right_1, fun d => S_lines_Right_1 d.1⟩
theorem k_lines_Right_1 : (c_lines_Right_1).ok Tryz.prog annX plansX := ctr_ok (tin := i_lines_Right_1) (tout := o_lines_Right_1)
def i_slices_IndexFunc_int_int_t : Tpl := ⟨[], [[.hole .str, .hole .bool, .hole (.sl 1 tI), .hole (.sl 1 tI), .hole (.sl 1 tI), .hole (.sl 1 tI), .hole (.sl 2 tC), .hole (.sl 1 tI), .hole (.sl 7 tN), .hole (.sl 1 tI), .hole (.sl 4 tS)]], [(.one, [.hole (.sl 1 tI)]), (.one, [.stat (.clo false 153 [0])])]⟩
def o_slices_IndexFunc_int_int_t : Tpl := ⟨[], [[.hole .str, .hole .bool, .hole (.sl 1 tI), .hole (.sl 1 tI), .hole (.sl 1 tI), .hole (.sl 1 tI), .hole (.sl 2 tC), .hole (.sl 1 tI), .hole (.sl 7 tN), .hole (.sl 1 tI), .hole (.sl 4 tS)]], [(.one, [.hole tI])]⟩
noncomputable def S_slices_IndexFunc_int_int_t (a0 : LB) (a1 : Bool) (a2 : LI) (a3 : LI) (a4 : LI) (a5 : LI) (a6 : LC) (a7 : LI) (a8 : LN) (a9 : LI) (a10 : LS) (a11 : LI) : Option (LB × (Bool × (LI × (LI × (LI × (LI × (LC × (LI × (LN × (LI × (LS × (Int × Unit)))))))))))) := Sof Tryz.prog annX plansX 169 i_slices_IndexFunc_int_int_t o_slices_IndexFunc_int_int_t (a0, (a1, (a2, (a3, (a4, (a5, (a6, (a7, (a8, (a9, (a10, (a11, ()))))))))))))
noncomputable def c_slices_IndexFunc_int_int_t : Ctr := ⟨169, i_slices_IndexFunc_int_int_t, o_slices_IndexFunc_int_int_t, fun d => S_slices_IndexFunc_int_int_t d.1 d.2.1 d.2.2.1 d.2.2.2.1 d.2.2.2.2.1 d.2.2.2.2.2.1 d.2.2.2.2.2.2.1 d.2.2.2.2.2.2.2.1 d.2.2.2.2.2.2.2.2.1 d.2.2.2.2.2.2.2.2.2.1 d.2.2.2.2.2.2.2.2.2.2.1 d.2.2.2.2.2.2.2.2.2.2.2.1⟩
theorem k_slices_IndexFunc_int_int_t : (c_slices_IndexFunc_int_int_t).ok Tryz.prog annX plansX := ctr_ok (tin := i_slices_IndexFunc_int_int_t) (tout := o_slices_IndexFunc_int_int_t)
def i_slices_ContainsFunc_int_int_t : Tpl := ⟨[], [[.hole .str, .hole .bool, .hole (.sl 1 tI), .hole (.sl 1 tI), .hole (.sl 1 tI), .hole (.sl 1 tI), .hole (.sl 2 tC), .hole (.sl 1 tI), .hole (.sl 7 tN), .hole (.sl 1 tI), .hole (.sl 4 tS)]], [(.one, [.hole (.sl 1 tI)]), (.one, [.stat (.clo false 153 [0])])]⟩
def o_slices_ContainsFunc_int_int_t : Tpl := ⟨[], [[.hole .str, .hole .bool, .hole (.sl 1 tI), .hole (.sl 1 tI), .hole (.sl 1 tI), .hole (.sl 1 tI), .hole (.sl 2 tC), .hole (.sl 1 tI), .hole (.sl 7 tN), .hole (.sl 1 tI), .hole (.sl 4 tS)]], [(.one, [.hole .bool])]⟩
noncomputable def S_slices_ContainsFunc_int_int_t (a0 : LB) (a1 : Bool) (a2 : LI) (a3 : LI) (a4 : LI) (a5 : LI) (a6 : LC) (a7 : LI) (a8 : LN) (a9 : LI) (a10 : LS) (a11 : LI) : Option (LB × (Bool × (LI × (LI × (LI × (LI × (LC × (LI × (LN × (LI × (LS × (Bool × Unit)))))))))))) := Sof Tryz.prog annX plansX 152 i_slices_ContainsFunc_int_int_t o_slices_ContainsFunc_int_int_t (a0, (a1, (a2, (a3, (a4, (a5, (a6, (a7, (a8, (a9, (a10, (a11, ()))))))))))))
noncomputable def c_slices_ContainsFunc_int_int_t : Ctr := ⟨152, i_slices_ContainsFunc_int_int_t, o_slices_ContainsFunc_int_int_t, fun d => S_slices_ContainsFunc_int_int_t d.1 d.2.1 d.2.2.1 d.2.2.2.1 d.2.2.2.2.1 d.2.2.2.2.2.1 d.2.2.2.2.2.2.1 d.2.2.2.2.2.2.2.1 d.2.2.2.2.2.2.2.2.1 d.2.2.2.2.2.2.2.2.2.1 d.2.2.2.2.2.2.2.2.2.2.1 d.2.2.2.2.2.2.2.2.2.2.2.1⟩
theorem k_slices_ContainsFunc_int_int_t : (c_slices_ContainsFunc_int_int_t).ok Tryz.prog annX plansX := ctr_ok (tin := i_slices_ContainsFunc_int_int_t) (tout := o_slices_ContainsFunc_int_int_t)
def i_lines_Right : Tpl := ⟨[], [], [(.one, [.hole (.sl 1 tI)])]⟩
def o_lines_Right : Tpl := ⟨[], [], [(.one, [.hole .bool])]⟩
noncomputable def S_lines_Right (a0 : LI) : Option (Bool × Unit) := Sof Tryz.prog annX plansX 106 i_lines_Right o_lines_Right (a0, ())
noncomputable def c_lines_Right : Ctr := ⟨106, i_lines_Right, o_lines_Right, fun d => S_lines_Right d.1⟩
theorem k_lines_Right : (c_lines_Right).ok Tryz.prog annX plansX := ctr_ok (tin := i_lines_Right) (tout := o_lines_Right)
def i_fnc_Bare : Tpl := ⟨[], [], [(.agg, [.hole .str, .hole .bool, .hole (.sl 1 tI), .hole (.sl 1 tI), .hole (.sl 1 tI), .hole (.sl 1 tI), .hole (.sl 2 tC), .hole (.sl 1 tI), .hole (.sl 7 tN), .hole (.sl 1 tI), .hole (.sl 4 tS)])]⟩
def o_fnc_Bare : Tpl := ⟨[], [], [(.one, [.hole .bool])]⟩
noncomputable def S_fnc_Bare (a0 : LB) (a1 : Bool) (a2 : LI) (a3 : LI) (a4 : LI) (a5 : LI) (a6 : LC) (a7 : LI) (a8 : LN) (a9 : LI) (a10 : LS) : Option (Bool × Unit) := Sof Tryz.prog annX plansX 54 i_fnc_Bare o_fnc_Bare (a0, (a1, (a2, (a3, (a4, (a5, (a6, (a7, (a8, (a9, (a10, ())))))))))))
noncomputable def c_fnc_Bare : Ctr := ⟨54, i_fnc_Bare, o_fnc_Bare, fun d => S_fnc_Bare d.1 d.2.1 d.2.2.1 d.2.2.2.1 d.2.2.2.2.1 d.2.2.2.2.2.1 d.2.2.2.2.2.2.1 d.2.2.2.2.2.2.2.1 d.2.2.2.2.2.2.2.2.1 d.2.2.2.2.2.2.2.2.2.1 d.2.2.2.2.2.2.2.2.2.2.1⟩
theorem k_fnc_Bare : (c_fnc_Bare).ok Tryz.prog annX plansX := ctr_ok (tin := i_fnc_Bare) (tout := o_fnc_Bare)
def i_fnc_tables_1 : Tpl := ⟨[], [[.hole .str, .hole .bool, .hole (.sl 1 tI), .hole (.sl 1 tI), .hole (.sl 1 tI), .hole (.sl 1 tI), .hole (.sl 2 tC), .hole (.sl 1 tI), .hole (.sl 7 tN), .hole (.sl 1 tI), .hole (.sl 4 tS)]], [(.one, [.hole tI]), (.one, [.stat (.ptr 0 0)])]⟩
def o_fnc_tables_1 : Tpl := ⟨[], [[.hole .str, .hole .bool, .hole (.sl 1 tI), .hole (.sl 1 tI), .hole (.sl 1 tI), .hole (.sl 1 tI), .hole (.sl 2 tC), .hole (.sl 1 tI), .hole (.sl 7 tN), .hole (.sl 1 tI), .hole (.sl 4 tS)]], [(.one, [.hole .bool])]⟩
noncomputable def S_fnc_tables_1 (a0 : LB) (a1 : Bool) (a2 : LI) (a3 : LI) (a4 : LI) (a5 : LI) (a6 : LC) (a7 : LI) (a8 : LN) (a9 : LI) (a10 : LS) (a11 : Int) : Option (LB × (Bool × (LI × (LI × (LI × (LI × (LC × (LI × (LN × (LI × (LS × (Bool × Unit)))))))))))) := Sof Tryz.prog annX plansX 153 i_fnc_tables_1 o_fnc_tables_1 (a0, (a1, (a2, (a3, (a4, (a5, (a6, (a7, (a8, (a9, (a10, (a11, ()))))))))))))
noncomputable def c_fnc_tables_1 : Ctr := ⟨153, i_fnc_tables_1, o_fnc_tables_1, fun d => S_fnc_tables_1 d.1 d.2.1 d.2.2.1 d.2.2.2.1 d.2.2.2.2.1 d.2.2.2.2.2.1 d.2.2.2.2.2.2.1 d.2.2.2.2.2.2.2.1 d.2.2.2.2.2.2.2.2.1 d.2.2.2.2.2.2.2.2.2.1 d.2.2.2.2.2.2.2.2.2.2.1 d.2.2.2.2.2.2.2.2.2.2.2.1⟩
theorem k_fnc_tables_1 : (c_fnc_tables_1).ok Tryz.prog annX plansX := ctr_ok (tin := i_fnc_tables_1) (tout := o_fnc_tables_1)
def i_maps_Right : Tpl := ⟨[], [], [(.one, [.hole (.sl 4 tS)]), (.one, [.hole tI])]⟩
def o_maps_Right : Tpl := ⟨[], [], [(.one, [.hole .bool])]⟩
noncomputable def S_maps_Right (a0 : LS) (a1 : Int) : Option (Bool × Unit) := Sof Tryz.prog annX plansX 154 i_maps_Right o_maps_Right (a0, (a1, ()))
noncomputable def c_maps_Right : Ctr := ⟨154, i_maps_Right, o_maps_Right, fun d => S_maps_Right d.1 d.2.1⟩
theorem k_maps_Right : (c_maps_Right).ok Tryz.prog annX plansX := ctr_ok (tin := i_maps_Right) (tout := o_maps_Right)
def i_fnc_tables : Tpl := ⟨[], [], [(.agg, [.hole .str, .hole .bool, .hole (.sl 1 tI), .hole (.sl 1 tI), .hole (.sl 1 tI), .hole (.sl 1 tI), .hole (.sl 2 tC), .hole (.sl 1 tI), .hole (.sl 7 tN), .hole (.sl 1 tI), .hole (.sl 4 tS)])]⟩
def o_fnc_tables : Tpl := ⟨[], [], [(.one, [.hole .bool])]⟩
noncomputable def S_fnc_tables (a0 : LB) (a1 : Bool) (a2 : LI) (a3 : LI) (a4 : LI) (a5 : LI) (a6 : LC) (a7 : LI) (a8 : LN) (a9 : LI) (a10 : LS) : Option (Bool × Unit) := Sof Tryz.prog annX plansX 107 i_fnc_tables o_fnc_tables (a0, (a1, (a2, (a3, (a4, (a5, (a6, (a7, (a8, (a9, (a10, ())))))))))))
noncomputable def c_fnc_tables : Ctr := ⟨107, i_fnc_tables, o_fnc_tables, fun d => S_fnc_tables d.1 d.2.1 d.2.2.1 d.2.2.2.1 d.2.2.2.2.1 d.2.2.2.2.2.1 d.2.2.2.2.2.2.1 d.2.2.2.2.2.2.2.1 d.2.2.2.2.2.2.2.2.1 d.2.2.2.2.2.2.2.2.2.1 d.2.2.2.2.2.2.2.2.2.2.1⟩
theorem k_fnc_tables : (c_fnc_tables).ok Tryz.prog annX plansX := ctr_ok (tin := i_fnc_tables) (tout := o_fnc_tables)
def i_fnc_Can : Tpl := ⟨[], [], [(.agg, [.hole .str, .hole .bool, .hole (.sl 1 tI), .hole (.sl 1 tI), .hole (.sl 1 tI), .hole (.sl 1 tI), .hole (.sl 2 tC), .hole (.sl 1 tI), .hole (.sl 7 tN), .hole (.sl 1 tI), .hole (.sl 4 tS)])]⟩
def o_fnc_Can : Tpl := ⟨[], [], [(.one, [.hole tI])]⟩
noncomputable def S_fnc_Can (a0 : LB) (a1 : Bool) (a2 : LI) (a3 : LI) (a4 : LI) (a5 : LI) (a6 : LC) (a7 : LI) (a8 : LN) (a9 : LI) (a10 : LS) : Option (Int × Unit) := Sof Tryz.prog annX plansX 53 i_fnc_Can o_fnc_Can (a0, (a1, (a2, (a3, (a4, (a5, (a6, (a7, (a8, (a9, (a10, ())))))))))))
noncomputable def c_fnc_Can : Ctr := ⟨53, i_fnc_Can, o_fnc_Can, fun d => S_fnc_Can d.1 d.2.1 d.2.2.1 d.2.2.2.1 d.2.2.2.2.1 d.2.2.2.2.2.1 d.2.2.2.2.2.2.1 d.2.2.2.2.2.2.2.1 d.2.2.2.2.2.2.2.2.1 d.2.2.2.2.2.2.2.2.2.1 d.2.2.2.2.2.2.2.2.2.2.1⟩
theorem k_fnc_Can : (c_fnc_Can).ok Tryz.prog annX plansX := ctr_ok (tin := i_fnc_Can) (tout := o_fnc_Can)
theorem all0 : ∀ c ∈ ([] : List Ctr), c.ok Tryz.prog annX plansX := fun _ h => by simp at h
theorem all1 {c : Ctr} {cs : List Ctr} (h : c.ok Tryz.prog annX plansX) (hs : ∀ c ∈ cs, c.ok Tryz.prog annX plansX) : ∀ d ∈ c :: cs, d.ok Tryz.prog annX plansX := fun d hd => by
 rcases List.mem_cons.1 hd with rfl | h2
 · exact h
 · exact hs d h2
end Go.Proofs.YtkdnbnkbnegckaaGreat
