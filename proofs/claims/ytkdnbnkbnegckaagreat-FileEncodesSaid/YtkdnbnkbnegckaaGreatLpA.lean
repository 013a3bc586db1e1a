/- Whether things are the same: what the lifted functions of the document's answer come to. What functions come to: templates, and contracts. -/
import Derived.Test.YtkdnbnkbnegckaaGreatSpF
import Derived.Test.YtkdnbnkbnegckaaGreatLwA
namespace Go.Proofs.YtkdnbnkbnegckaaGreat
open Go.RowKit
open Classical in
/-- Are they the same? -/
noncomputable def eqD {α : Type} (a b : α) : Bool := decide (a = b)
@[simp] theorem eqD_s {α : Type} {a : α} : eqD a a = true := by simp [eqD]
end Go.Proofs.YtkdnbnkbnegckaaGreat
namespace Go.Proofs.YtkdnbnkbnegckaaGreat
open Go.RowKit
set_option maxRecDepth 100000
def i_law15_Small : Tpl := ⟨[], [], [(.agg, [.hole .str, .hole .bool, .hole (.sl 1 tI), .hole (.sl 1 tI), .hole (.sl 1 tI), .hole (.sl 1 tI), .hole (.sl 2 tC), .hole (.sl 1 tI), .hole (.sl 7 tN), .hole (.sl 1 tI), .hole (.sl 4 tS)])]⟩
def o_law15_Small : Tpl := ⟨[], [], [(.one, [.hole .bool])]⟩
noncomputable def S_law15_Small (a0 : LB) (a1 : Bool) (a2 : LI) (a3 : LI) (a4 : LI) (a5 : LI) (a6 : LC) (a7 : LI) (a8 : LN) (a9 : LI) (a10 : LS) : Option (Bool × Unit) := Sof Tryz.prog annX plansX 18 i_law15_Small o_law15_Small (a0, (a1, (a2, (a3, (a4, (a5, (a6, (a7, (a8, (a9, (a10, ())))))))))))
noncomputable def c_law15_Small : Ctr := ⟨18, i_law15_Small, o_law15_Small, fun d => S_law15_Small d.1 d.2.1 d.2.2.1 d.2.2.2.1 d.2.2.2.2.1 d.2.2.2.2.2.1 d.2.2.2.2.2.2.1 d.2.2.2.2.2.2.2.1 d.2.2.2.2.2.2.2.2.1 d.2.2.2.2.2.2.2.2.2.1 d.2.2.2.2.2.2.2.2.2.2.1⟩
theorem k_law15_Small : (c_law15_Small).ok Tryz.prog annX plansX := ctr_ok (tin := i_law15_Small) (tout := o_law15_Small)
def i_ref11_May : Tpl := ⟨[], [], [(.one, [.hole tI])]⟩
def o_ref11_May : Tpl := ⟨[], [], [(.one, [.hole .bool])]⟩
noncomputable def S_ref11_May (a0 : Int) : Option (Bool × Unit) := Sof Tryz.prog annX plansX 113 i_ref11_May o_ref11_May (a0, ())
noncomputable def c_ref11_May : Ctr := ⟨113, i_ref11_May, o_ref11_May, fun d => S_ref11_May d.1⟩
theorem k_ref11_May : (c_ref11_May).ok Tryz.prog annX plansX := ctr_ok (tin := i_ref11_May) (tout := o_ref11_May)
def i_ref11_Right : Tpl := ⟨[], [], [(.one, [.hole (.sl 1 tI)]), (.one, [.hole tI])]⟩
def o_ref11_Right : Tpl := ⟨[], [], [(.one, [.hole .bool])]⟩
noncomputable def S_ref11_Right (a0 : LI) (a1 : Int) : Option (Bool × Unit) := Sof Tryz.prog annX plansX 56 i_ref11_Right o_ref11_Right (a0, (a1, ()))
noncomputable def c_ref11_Right : Ctr := ⟨56, i_ref11_Right, o_ref11_Right, fun d => S_ref11_Right d.1 d.2.1⟩
theorem k_ref11_Right : (c_ref11_Right).ok Tryz.prog annX plansX := ctr_ok (tin := i_ref11_Right) (tout := o_ref11_Right)
def i_ref12_Right : Tpl := ⟨[], [], [(.one, [.hole (.sl 1 tI)])]⟩
def o_ref12_Right : Tpl := ⟨[], [], [(.one, [.hole .bool])]⟩
noncomputable def S_ref12_Right (a0 : LI) : Option (Bool × Unit) := Sof Tryz.prog annX plansX 58 i_ref12_Right o_ref12_Right (a0, ())
noncomputable def c_ref12_Right : Ctr := ⟨58, i_ref12_Right, o_ref12_Right, fun d => S_ref12_Right d.1⟩
theorem k_ref12_Right : (c_ref12_Right).ok Tryz.prog annX plansX := ctr_ok (tin := i_ref12_Right) (tout := o_ref12_Right)
def i_ref15_Bare : Tpl := ⟨[], [], [(.agg, [.hole .str, .hole .bool, .hole (.sl 1 tI), .hole (.sl 1 tI), .hole (.sl 1 tI), .hole (.sl 1 tI), .hole (.sl 2 tC), .hole (.sl 1 tI), .hole (.sl 7 tN), .hole (.sl 1 tI), .hole (.sl 4 tS)])]⟩
def o_ref15_Bare : Tpl := ⟨[], [], [(.one, [.hole .bool])]⟩
noncomputable def S_ref15_Bare (a0 : LB) (a1 : Bool) (a2 : LI) (a3 : LI) (a4 : LI) (a5 : LI) (a6 : LC) (a7 : LI) (a8 : LN) (a9 : LI) (a10 : LS) : Option (Bool × Unit) := Sof Tryz.prog annX plansX 115 i_ref15_Bare o_ref15_Bare (a0, (a1, (a2, (a3, (a4, (a5, (a6, (a7, (a8, (a9, (a10, ())))))))))))
noncomputable def c_ref15_Bare : Ctr := ⟨115, i_ref15_Bare, o_ref15_Bare, fun d => S_ref15_Bare d.1 d.2.1 d.2.2.1 d.2.2.2.1 d.2.2.2.2.1 d.2.2.2.2.2.1 d.2.2.2.2.2.2.1 d.2.2.2.2.2.2.2.1 d.2.2.2.2.2.2.2.2.1 d.2.2.2.2.2.2.2.2.2.1 d.2.2.2.2.2.2.2.2.2.2.1⟩
theorem k_ref15_Bare : (c_ref15_Bare).ok Tryz.prog annX plansX := ctr_ok (tin := i_ref15_Bare) (tout := o_ref15_Bare)
def i_ref14_Right : Tpl := ⟨[], [], [(.one, [.hole (.sl 4 tS)]), (.one, [.hole tI])]⟩
def o_ref14_Right : Tpl := ⟨[], [], [(.one, [.hole .bool])]⟩
noncomputable def S_ref14_Right (a0 : LS) (a1 : Int) : Option (Bool × Unit) := Sof Tryz.prog annX plansX 116 i_ref14_Right o_ref14_Right (a0, (a1, ()))
noncomputable def c_ref14_Right : Ctr := ⟨116, i_ref14_Right, o_ref14_Right, fun d => S_ref14_Right d.1 d.2.1⟩
theorem k_ref14_Right : (c_ref14_Right).ok Tryz.prog annX plansX := ctr_ok (tin := i_ref14_Right) (tout := o_ref14_Right)
def i_ref15_tables : Tpl := ⟨[], [], [(.agg, [.hole .str, .hole .bool, .hole (.sl 1 tI), .hole (.sl 1 tI), .hole (.sl 1 tI), .hole (.sl 1 tI), .hole (.sl 2 tC), .hole (.sl 1 tI), .hole (.sl 7 tN), .hole (.sl 1 tI), .hole (.sl 4 tS)]), (.one, [.hole tI])]⟩
def o_ref15_tables : Tpl := ⟨[], [], [(.one, [.hole .bool])]⟩
noncomputable def S_ref15_tables (a0 : LB) (a1 : Bool) (a2 : LI) (a3 : LI) (a4 : LI) (a5 : LI) (a6 : LC) (a7 : LI) (a8 : LN) (a9 : LI) (a10 : LS) (a11 : Int) : Option (Bool × Unit) := Sof Tryz.prog annX plansX 59 i_ref15_tables o_ref15_tables (a0, (a1, (a2, (a3, (a4, (a5, (a6, (a7, (a8, (a9, (a10, (a11, ()))))))))))))
noncomputable def c_ref15_tables : Ctr := ⟨59, i_ref15_tables, o_ref15_tables, fun d => S_ref15_tables d.1 d.2.1 d.2.2.1 d.2.2.2.1 d.2.2.2.2.1 d.2.2.2.2.2.1 d.2.2.2.2.2.2.1 d.2.2.2.2.2.2.2.1 d.2.2.2.2.2.2.2.2.1 d.2.2.2.2.2.2.2.2.2.1 d.2.2.2.2.2.2.2.2.2.2.1 d.2.2.2.2.2.2.2.2.2.2.2.1⟩
theorem k_ref15_tables : (c_ref15_tables).ok Tryz.prog annX plansX := ctr_ok (tin := i_ref15_tables) (tout := o_ref15_tables)
def i_ref15_Can : Tpl := ⟨[], [], [(.agg, [.hole .str, .hole .bool, .hole (.sl 1 tI), .hole (.sl 1 tI), .hole (.sl 1 tI), .hole (.sl 1 tI), .hole (.sl 2 tC), .hole (.sl 1 tI), .hole (.sl 7 tN), .hole (.sl 1 tI), .hole (.sl 4 tS)])]⟩
def o_ref15_Can : Tpl := ⟨[], [], [(.one, [.hole tI])]⟩
noncomputable def S_ref15_Can (a0 : LB) (a1 : Bool) (a2 : LI) (a3 : LI) (a4 : LI) (a5 : LI) (a6 : LC) (a7 : LI) (a8 : LN) (a9 : LI) (a10 : LS) : Option (Int × Unit) := Sof Tryz.prog annX plansX 19 i_ref15_Can o_ref15_Can (a0, (a1, (a2, (a3, (a4, (a5, (a6, (a7, (a8, (a9, (a10, ())))))))))))
noncomputable def c_ref15_Can : Ctr := ⟨19, i_ref15_Can, o_ref15_Can, fun d => S_ref15_Can d.1 d.2.1 d.2.2.1 d.2.2.2.1 d.2.2.2.2.1 d.2.2.2.2.2.1 d.2.2.2.2.2.2.1 d.2.2.2.2.2.2.2.1 d.2.2.2.2.2.2.2.2.1 d.2.2.2.2.2.2.2.2.2.1 d.2.2.2.2.2.2.2.2.2.2.1⟩
theorem k_ref15_Can : (c_ref15_Can).ok Tryz.prog annX plansX := ctr_ok (tin := i_ref15_Can) (tout := o_ref15_Can)
def i_uvar_Put : Tpl := ⟨[.mu 5 1 tY], [], [(.one, [.own 0]), (.one, [.hole tW])]⟩
def o_uvar_Put : Tpl := ⟨[.dead, .mu 5 1 tY], [], [(.one, [.own 1])]⟩
noncomputable def S_uvar_Put (a0 : LB) (a1 : Int) : Option (LB × Unit) := Sof Tryz.prog annX plansX 60 i_uvar_Put o_uvar_Put (a0, (a1, ()))
noncomputable def c_uvar_Put : Ctr := ⟨60, i_uvar_Put, o_uvar_Put, fun d => S_uvar_Put d.1 d.2.1⟩
theorem k_uvar_Put : (c_uvar_Put).ok Tryz.prog annX plansX := ctr_ok (tin := i_uvar_Put) (tout := o_uvar_Put)
def i_fnc_flag : Tpl := ⟨[], [], [(.agg, [.hole .str, .hole .bool, .hole (.sl 1 tI), .hole (.sl 1 tI), .hole (.sl 1 tI), .hole (.sl 1 tI), .hole (.sl 2 tC), .hole (.sl 1 tI), .hole (.sl 7 tN), .hole (.sl 1 tI), .hole (.sl 4 tS)])]⟩
def o_fnc_flag : Tpl := ⟨[], [], [(.one, [.hole tY])]⟩
noncomputable def S_fnc_flag (a0 : LB) (a1 : Bool) (a2 : LI) (a3 : LI) (a4 : LI) (a5 : LI) (a6 : LC) (a7 : LI) (a8 : LN) (a9 : LI) (a10 : LS) : Option (UInt8 × Unit) := Sof Tryz.prog annX plansX 61 i_fnc_flag o_fnc_flag (a0, (a1, (a2, (a3, (a4, (a5, (a6, (a7, (a8, (a9, (a10, ())))))))))))
noncomputable def c_fnc_flag : Ctr := ⟨61, i_fnc_flag, o_fnc_flag, fun d => S_fnc_flag d.1 d.2.1 d.2.2.1 d.2.2.2.1 d.2.2.2.2.1 d.2.2.2.2.2.1 d.2.2.2.2.2.2.1 d.2.2.2.2.2.2.2.1 d.2.2.2.2.2.2.2.2.1 d.2.2.2.2.2.2.2.2.2.1 d.2.2.2.2.2.2.2.2.2.2.1⟩
theorem k_fnc_flag : (c_fnc_flag).ok Tryz.prog annX plansX := ctr_ok (tin := i_fnc_flag) (tout := o_fnc_flag)
def i_sig_Put : Tpl := ⟨[.mu 5 1 tY], [], [(.one, [.own 0]), (.one, [.hole (.sl 1 tI)])]⟩
def o_sig_Put : Tpl := ⟨[.dead, .mu 5 1 tY], [], [(.one, [.own 1])]⟩
noncomputable def S_sig_Put (a0 : LB) (a1 : LI) : Option (LB × Unit) := Sof Tryz.prog annX plansX 62 i_sig_Put o_sig_Put (a0, (a1, ()))
noncomputable def c_sig_Put : Ctr := ⟨62, i_sig_Put, o_sig_Put, fun d => S_sig_Put d.1 d.2.1⟩
theorem k_sig_Put : (c_sig_Put).ok Tryz.prog annX plansX := ctr_ok (tin := i_sig_Put) (tout := o_sig_Put)
def i_uvar_Fold : Tpl := ⟨[], [], [(.one, [.hole tI])]⟩
def o_uvar_Fold : Tpl := ⟨[], [], [(.one, [.hole tW])]⟩
noncomputable def S_uvar_Fold (a0 : Int) : Option (Int × Unit) := Sof Tryz.prog annX plansX 158 i_uvar_Fold o_uvar_Fold (a0, ())
noncomputable def c_uvar_Fold : Ctr := ⟨158, i_uvar_Fold, o_uvar_Fold, fun d => S_uvar_Fold d.1⟩
theorem k_uvar_Fold : (c_uvar_Fold).ok Tryz.prog annX plansX := ctr_ok (tin := i_uvar_Fold) (tout := o_uvar_Fold)
def i_uvar_PutInt : Tpl := ⟨[.mu 5 1 tY], [], [(.one, [.own 0]), (.one, [.hole tI])]⟩
def o_uvar_PutInt : Tpl := ⟨[.dead, .mu 5 1 tY], [], [(.one, [.own 1])]⟩
noncomputable def S_uvar_PutInt (a0 : LB) (a1 : Int) : Option (LB × Unit) := Sof Tryz.prog annX plansX 119 i_uvar_PutInt o_uvar_PutInt (a0, (a1, ()))
noncomputable def c_uvar_PutInt : Ctr := ⟨119, i_uvar_PutInt, o_uvar_PutInt, fun d => S_uvar_PutInt d.1 d.2.1⟩
theorem k_uvar_PutInt : (c_uvar_PutInt).ok Tryz.prog annX plansX := ctr_ok (tin := i_uvar_PutInt) (tout := o_uvar_PutInt)
def i_instr_Put : Tpl := ⟨[.mu 5 1 tY], [], [(.one, [.own 0]), (.agg, [.hole tI, .hole tI])]⟩
def o_instr_Put : Tpl := ⟨[.dead, .mu 5 1 tY], [], [(.one, [.own 1])]⟩
noncomputable def S_instr_Put (a0 : LB) (a1 : Int) (a2 : Int) : Option (LB × Unit) := Sof Tryz.prog annX plansX 63 i_instr_Put o_instr_Put (a0, (a1, (a2, ())))
noncomputable def c_instr_Put : Ctr := ⟨63, i_instr_Put, o_instr_Put, fun d => S_instr_Put d.1 d.2.1 d.2.2.1⟩
theorem k_instr_Put : (c_instr_Put).ok Tryz.prog annX plansX := ctr_ok (tin := i_instr_Put) (tout := o_instr_Put)
def i_runs_groups_int : Tpl := ⟨[], [], [(.one, [.hole (.sl 1 tI)])]⟩
def o_runs_groups_int : Tpl := ⟨[], [], [(.one, [.hole (.sl 2 tC)])]⟩
noncomputable def S_runs_groups_int (a0 : LI) : Option (LC × Unit) := Sof Tryz.prog annX plansX 159 i_runs_groups_int o_runs_groups_int (a0, ())
noncomputable def c_runs_groups_int : Ctr := ⟨159, i_runs_groups_int, o_runs_groups_int, fun d => S_runs_groups_int d.1⟩
theorem k_runs_groups_int : (c_runs_groups_int).ok Tryz.prog annX plansX := ctr_ok (tin := i_runs_groups_int) (tout := o_runs_groups_int)
def i_runs_Of : Tpl := ⟨[], [], [(.one, [.hole (.sl 1 tI)])]⟩
def o_runs_Of : Tpl := ⟨[], [], [(.one, [.hole (.sl 2 tC)])]⟩
noncomputable def S_runs_Of (a0 : LI) : Option (LC × Unit) := Sof Tryz.prog annX plansX 121 i_runs_Of o_runs_Of (a0, ())
noncomputable def c_runs_Of : Ctr := ⟨121, i_runs_Of, o_runs_Of, fun d => S_runs_Of d.1⟩
theorem k_runs_Of : (c_runs_Of).ok Tryz.prog annX plansX := ctr_ok (tin := i_runs_Of) (tout := o_runs_Of)
def i_runs_Put : Tpl := ⟨[.mu 5 1 tY], [], [(.one, [.own 0]), (.one, [.hole (.sl 1 tI)])]⟩
def o_runs_Put : Tpl := ⟨[.dead, .mu 5 1 tY], [], [(.one, [.own 1])]⟩
noncomputable def S_runs_Put (a0 : LB) (a1 : LI) : Option (LB × Unit) := Sof Tryz.prog annX plansX 66 i_runs_Put o_runs_Put (a0, (a1, ()))
noncomputable def c_runs_Put : Ctr := ⟨66, i_runs_Put, o_runs_Put, fun d => S_runs_Put d.1 d.2.1⟩
theorem k_runs_Put : (c_runs_Put).ok Tryz.prog annX plansX := ctr_ok (tin := i_runs_Put) (tout := o_runs_Put)
def i_lines_Put : Tpl := ⟨[.mu 5 1 tY], [], [(.one, [.own 0]), (.one, [.hole (.sl 1 tI)])]⟩
def o_lines_Put : Tpl := ⟨[.dead, .mu 5 1 tY], [], [(.one, [.own 1])]⟩
noncomputable def S_lines_Put (a0 : LB) (a1 : LI) : Option (LB × Unit) := Sof Tryz.prog annX plansX 64 i_lines_Put o_lines_Put (a0, (a1, ()))
noncomputable def c_lines_Put : Ctr := ⟨64, i_lines_Put, o_lines_Put, fun d => S_lines_Put d.1 d.2.1⟩
theorem k_lines_Put : (c_lines_Put).ok Tryz.prog annX plansX := ctr_ok (tin := i_lines_Put) (tout := o_lines_Put)
def i_tree_Put : Tpl := ⟨[.mu 5 1 tY], [], [(.one, [.own 0]), (.one, [.hole (.sl 7 tN)])]⟩
def o_tree_Put : Tpl := ⟨[.dead, .mu 5 1 tY], [], [(.one, [.own 1])]⟩
noncomputable def S_tree_Put (a0 : LB) (a1 : LN) : Option (LB × Unit) := Sof Tryz.prog annX plansX 67 i_tree_Put o_tree_Put (a0, (a1, ()))
noncomputable def c_tree_Put : Ctr := ⟨67, i_tree_Put, o_tree_Put, fun d => S_tree_Put d.1 d.2.1⟩
theorem k_tree_Put : (c_tree_Put).ok Tryz.prog annX plansX := ctr_ok (tin := i_tree_Put) (tout := o_tree_Put)
def i_maps_count : Tpl := ⟨[], [], [(.one, [.hole (.sl 4 tS)])]⟩
def o_maps_count : Tpl := ⟨[], [], [(.one, [.hole (.sl 5 (.pr tW (.pr tW (.pr tW (.pr tW tI)))))])]⟩
noncomputable def S_maps_count (a0 : LS) : Option ((List (Int × (Int × (Int × (Int × Int))))) × Unit) := Sof Tryz.prog annX plansX 120 i_maps_count o_maps_count (a0, ())
noncomputable def c_maps_count : Ctr := ⟨120, i_maps_count, o_maps_count, fun d => S_maps_count d.1⟩
theorem k_maps_count : (c_maps_count).ok Tryz.prog annX plansX := ctr_ok (tin := i_maps_count) (tout := o_maps_count)
def i_maps_Put : Tpl := ⟨[.mu 5 1 tY], [], [(.one, [.own 0]), (.one, [.hole (.sl 4 tS)])]⟩
def o_maps_Put : Tpl := ⟨[.dead, .mu 5 1 tY], [], [(.one, [.own 1])]⟩
noncomputable def S_maps_Put (a0 : LB) (a1 : LS) : Option (LB × Unit) := Sof Tryz.prog annX plansX 65 i_maps_Put o_maps_Put (a0, (a1, ()))
noncomputable def c_maps_Put : Ctr := ⟨65, i_maps_Put, o_maps_Put, fun d => S_maps_Put d.1 d.2.1⟩
theorem k_maps_Put : (c_maps_Put).ok Tryz.prog annX plansX := ctr_ok (tin := i_maps_Put) (tout := o_maps_Put)
def i_fnc_Put : Tpl := ⟨[.mu 5 1 tY], [], [(.one, [.own 0]), (.agg, [.hole .str, .hole .bool, .hole (.sl 1 tI), .hole (.sl 1 tI), .hole (.sl 1 tI), .hole (.sl 1 tI), .hole (.sl 2 tC), .hole (.sl 1 tI), .hole (.sl 7 tN), .hole (.sl 1 tI), .hole (.sl 4 tS)])]⟩
def o_fnc_Put : Tpl := ⟨[.dead, .mu 5 1 tY], [], [(.one, [.own 1])]⟩
noncomputable def S_fnc_Put (a0 : LB) (a1 : LB) (a2 : Bool) (a3 : LI) (a4 : LI) (a5 : LI) (a6 : LI) (a7 : LC) (a8 : LI) (a9 : LN) (a10 : LI) (a11 : LS) : Option (LB × Unit) := Sof Tryz.prog annX plansX 20 i_fnc_Put o_fnc_Put (a0, (a1, (a2, (a3, (a4, (a5, (a6, (a7, (a8, (a9, (a10, (a11, ()))))))))))))
noncomputable def c_fnc_Put : Ctr := ⟨20, i_fnc_Put, o_fnc_Put, fun d => S_fnc_Put d.1 d.2.1 d.2.2.1 d.2.2.2.1 d.2.2.2.2.1 d.2.2.2.2.2.1 d.2.2.2.2.2.2.1 d.2.2.2.2.2.2.2.1 d.2.2.2.2.2.2.2.2.1 d.2.2.2.2.2.2.2.2.2.1 d.2.2.2.2.2.2.2.2.2.2.1 d.2.2.2.2.2.2.2.2.2.2.2.1⟩
theorem k_fnc_Put : (c_fnc_Put).ok Tryz.prog annX plansX := ctr_ok (tin := i_fnc_Put) (tout := o_fnc_Put)
end Go.Proofs.YtkdnbnkbnegckaaGreat
