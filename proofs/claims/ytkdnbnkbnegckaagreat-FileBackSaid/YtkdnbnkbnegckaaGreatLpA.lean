/- Whether things are the same: what the lifted functions of the document's answer come to. What functions come to: templates, and contracts. -/
import Derived.Test.YtkdnbnkbnegckaaGreatSpF
import Derived.Test.YtkdnbnkbnegckaaGreatLwA
namespace Go.Proofs.YtkdnbnkbnegckaaGreat
open Go.RowKit
open Classical in
/-- Are they the same? -/
noncomputable def eqD {α : Type} (a b : α) : Bool := decide (a = b)
@[simp] theorem eqD_s {α : Type} {a : α} : eqD a a = true := by simp [eqD]
theorem eqD_f {α : Type} {a b : α} (h : a ≠ b) : eqD a b = false := by simp [eqD, h]
theorem eqD_cons {α : Type} {a b : α} {l m : List α} : eqD (a :: l) (b :: m) = (eqD a b && eqD l m) := by
  by_cases h1 : a = b <;> by_cases h2 : l = m <;> simp [eqD, h1, h2]
theorem eqD_d {α : Type} {a b : α} [Decidable (a = b)] : eqD a b = decide (a = b) := by
  by_cases h : a = b <;> simp [eqD, h]
theorem iter_same {α : Type} {l m : List α} {f : α → α → Bool} (hf : ∀ x y, f x y = eqD x y) (hl : l.length ≤ 1000000000000000000) (hm : l.length = m.length) :
    iter (fun (d : Int × Unit) again => if d.1 < (l.length : Int) then if 0 ≤ d.1 then bnd l[d.1.toNat]? fun x => if 0 ≤ d.1 then bnd m[d.1.toNat]? fun y => cnd (f x y) (again (wrp .i64 (d.1 + 1), ())) (some (false, ())) else none else none else some (true, ())) (l.length + 1) (0, ()) = some (eqD l m, ()) := by
  refine iter_to (fun d => l.length - d.1.toNat) (fun d => ∃ k : Nat, d = ((k : Int), ()) ∧ k ≤ l.length ∧ eqD l m = eqD (l.drop k) (m.drop k)) ?_ _ _ ⟨0, rfl, Nat.zero_le _, rfl⟩ (by simp)
  rintro _ again ⟨k, rfl, hk, hr⟩ ih
  by_cases h : k < l.length
  · have h2 : k < m.length := by omega
    have hw : wrp .i64 ((k : Int) + 1) = (k : Int) + 1 := wi64 (by omega) (by omega)
    rw [List.drop_eq_getElem_cons h, List.drop_eq_getElem_cons h2, eqD_cons] at hr
    simp [h, bnd_get h, bnd_get h2, hw, hf]
    cases he : eqD l[k] m[k] with
    | true =>
      rw [he] at hr
      exact ih _ ⟨k + 1, rfl, h, by simpa using hr⟩ (by simp; omega)
    | false =>
      rw [he] at hr
      simp [hr]
  · have : k = l.length := by omega
    subst this
    rw [hr, List.drop_eq_nil_of_le (Nat.le_refl _), List.drop_eq_nil_of_le (show m.length ≤ l.length by omega)]
    simp
theorem len_ne {α : Type} {l m : List α} (h : ¬l.length = m.length) : eqD l m = false := eqD_f fun e => h (by rw [e])
theorem sp_Same11 {l m : List Int} (hl : l.length ≤ 1000000000000000000) : S_ref11_Same l m = some (eqD l m, ()) := by
  refine u_ref11_Same (N := l.length + 1) ?_
  simp [M_ref11_Same]
  by_cases h : l.length = m.length
  · have := iter_same (f := fun x y => decide (x = y)) (fun x y => (eqD_d (a := x) (b := y)).symm) hl h
    simpa [h] using this
  · simp [len_ne h, show ¬(l.length : Int) = m.length by omega]
theorem sp_Ints {l m : List Int} (hl : l.length ≤ 1000000000000000000) : S_ref04_Ints l m = some (eqD l m, ()) := by
  refine u_ref04_Ints (N := l.length + 1) ?_
  simp [M_ref04_Ints]
  by_cases h : l.length = m.length
  · have := iter_same (f := fun x y => decide (x = y)) (fun x y => (eqD_d (a := x) (b := y)).symm) hl h
    simpa [h] using this
  · simp [len_ne h, show ¬(l.length : Int) = m.length by omega]
theorem sp_Same13 {l m : List Nd} (hl : l.length ≤ 1000000000000000000) : S_ref13_Same l m = some (eqD l m, ()) := by
  refine u_ref13_Same (N := l.length + 1) ?_
  simp [M_ref13_Same]
  by_cases h : l.length = m.length
  · have := iter_same (f := fun (p q : Nd) => eqL [p.1, p.2.1, p.2.2.1, p.2.2.2.1, p.2.2.2.2.1, p.2.2.2.2.2.1, p.2.2.2.2.2.2] [q.1, q.2.1, q.2.2.1, q.2.2.2.1, q.2.2.2.2.1, q.2.2.2.2.2.1, q.2.2.2.2.2.2]) (fun p q => by
      obtain ⟨a, b, c, d, e, f, g⟩ := p
      obtain ⟨a', b', c', d', e', f', g'⟩ := q
      simp [eqL, eqD]) hl h
    simpa [h] using this
  · simp [len_ne h, show ¬(l.length : Int) = m.length by omega]
theorem sp_Same14 {l m : List St} (hl : l.length ≤ 1000000000000000000) : S_ref14_Same l m = some (eqD l m, ()) := by
  refine u_ref14_Same (N := l.length + 1) ?_
  simp [M_ref14_Same]
  by_cases h : l.length = m.length
  · have := iter_same (f := fun (p q : St) => eqL [p.1, p.2.1, p.2.2.1, p.2.2.2] [q.1, q.2.1, q.2.2.1, q.2.2.2]) (fun p q => by
      obtain ⟨a, b, c, d⟩ := p
      obtain ⟨a', b', c', d'⟩ := q
      simp [eqL, eqD]) hl h
    simpa [h] using this
  · simp [len_ne h, show ¬(l.length : Int) = m.length by omega]
theorem sp_Code {l m : List (Int × Int)} (hl : l.length ≤ 1000000000000000000) : S_ref15_Code l m = some (eqD l m, ()) := by
  refine u_ref15_Code (N := l.length + 1) ?_
  simp [M_ref15_Code]
  by_cases h : l.length = m.length
  · have := iter_same (f := fun (p q : Int × Int) => eqL [p.1, p.2] [q.1, q.2]) (fun p q => by
      obtain ⟨a, b⟩ := p
      obtain ⟨a', b'⟩ := q
      simp [eqL, eqD]) hl h
    simpa [h] using this
  · simp [len_ne h, show ¬(l.length : Int) = m.length by omega]
end Go.Proofs.YtkdnbnkbnegckaaGreat
namespace Go.Proofs.YtkdnbnkbnegckaaGreat
open Go.RowKit
set_option maxRecDepth 100000
def i_law15_Small : Tpl := ⟨[], [], [(.agg, [.hole .str, .hole .bool, .hole (.sl 1 tI), .hole (.sl 1 tI), .hole (.sl 1 tI), .hole (.sl 1 tI), .hole (.sl 2 tC), .hole (.sl 1 tI), .hole (.sl 7 tN), .hole (.sl 1 tI), .hole (.sl 4 tS)])]⟩
def o_law15_Small : Tpl := ⟨[], [], [(.one, [.hole .bool])]⟩
noncomputable def S_law15_Small (a0 : LB) (a1 : Bool) (a2 : LI) (a3 : LI) (a4 : LI) (a5 : LI) (a6 : LC) (a7 : LI) (a8 : LN) (a9 : LI) (a10 : LS) : Option (Bool × Unit) := Sof Tryz.prog annX plansX 18 i_law15_Small o_law15_Small (a0, (a1, (a2, (a3, (a4, (a5, (a6, (a7, (a8, (a9, (a10, ())))))))))))
noncomputable def c_law15_Small : Ctr := ⟨18, i_law15_Small, o_law15_Small, fun d => S_law15_Small d.1 d.2.1 d.2.2.1 d.2.2.2.1 d.2.2.2.2.1 d.2.2.2.2.2.1 d.2.2.2.2.2.2.1 d.2.2.2.2.2.2.2.1 d.2.2.2.2.2.2.2.2.1 d.2.2.2.2.2.2.2.2.2.1 d.2.2.2.2.2.2.2.2.2.2.1⟩
theorem k_law15_Small : (c_law15_Small).ok Tryz.prog annX plansX := ctr_ok (tin := i_law15_Small) (tout := o_law15_Small)
def i_ref11_May : Tpl := ⟨[], [], [(.one, [.hole tI])]⟩
def o_ref11_May : Tpl := ⟨[], [], [(.one, [.hole .bool])]⟩
noncomputable def S_ref11_May (a0 : Int) : Option (Bool × Unit) := Sof Tryz.prog annX plansX 113 i_ref11_May o_ref11_May (a0, ())
noncomputable def c_ref11_May : Ctr := ⟨113, i_ref11_May, o_ref11_May, fun d => S_ref11_May d.1⟩
theorem k_ref11_May : (c_ref11_May).ok Tryz.prog annX plansX := ctr_ok (tin := i_ref11_May) (tout := o_ref11_May)
def i_ref11_Right : Tpl := ⟨[], [], [(.one, [.hole (.sl 1 tI)]), (.one, [.hole tI])]⟩
def o_ref11_Right : Tpl := ⟨[], [], [(.one, [.hole .bool])]⟩
noncomputable def S_ref11_Right (a0 : LI) (a1 : Int) : Option (Bool × Unit) := Sof Tryz.prog annX plansX 56 i_ref11_Right o_ref11_Right (a0, (a1, ()))
noncomputable def c_ref11_Right : Ctr := ⟨56, i_ref11_Right, o_ref11_Right, fun d => S_ref11_Right d.1 d.2.1⟩
theorem k_ref11_Right : (c_ref11_Right).ok Tryz.prog annX plansX := ctr_ok (tin := i_ref11_Right) (tout := o_ref11_Right)
def i_ref12_Right : Tpl := ⟨[], [], [(.one, [.hole (.sl 1 tI)])]⟩
def o_ref12_Right : Tpl := ⟨[], [], [(.one, [.hole .bool])]⟩
noncomputable def S_ref12_Right (a0 : LI) : Option (Bool × Unit) := Sof Tryz.prog annX plansX 58 i_ref12_Right o_ref12_Right (a0, ())
noncomputable def c_ref12_Right : Ctr := ⟨58, i_ref12_Right, o_ref12_Right, fun d => S_ref12_Right d.1⟩
theorem k_ref12_Right : (c_ref12_Right).ok Tryz.prog annX plansX := ctr_ok (tin := i_ref12_Right) (tout := o_ref12_Right)
def i_ref15_Bare : Tpl := ⟨[], [], [(.agg, [.hole .str, .hole .bool, .hole (.sl 1 tI), .hole (.sl 1 tI), .hole (.sl 1 tI), .hole (.sl 1 tI), .hole (.sl 2 tC), .hole (.sl 1 tI), .hole (.sl 7 tN), .hole (.sl 1 tI), .hole (.sl 4 tS)])]⟩
def o_ref15_Bare : Tpl := ⟨[], [], [(.one, [.hole .bool])]⟩
noncomputable def S_ref15_Bare (a0 : LB) (a1 : Bool) (a2 : LI) (a3 : LI) (a4 : LI) (a5 : LI) (a6 : LC) (a7 : LI) (a8 : LN) (a9 : LI) (a10 : LS) : Option (Bool × Unit) := Sof Tryz.prog annX plansX 115 i_ref15_Bare o_ref15_Bare (a0, (a1, (a2, (a3, (a4, (a5, (a6, (a7, (a8, (a9, (a10, ())))))))))))
noncomputable def c_ref15_Bare : Ctr := ⟨115, i_ref15_Bare, o_ref15_Bare, fun d => S_ref15_Bare d.1 d.2.1 d.2.2.1 d.2.2.2.1 d.2.2.2.2.1 d.2.2.2.2.2.1 d.2.2.2.2.2.2.1 d.2.2.2.2.2.2.2.1 d.2.2.2.2.2.2.2.2.1 d.2.2.2.2.2.2.2.2.2.1 d.2.2.2.2.2.2.2.2.2.2.1⟩
theorem k_ref15_Bare : (c_ref15_Bare).ok Tryz.prog annX plansX := ctr_ok (tin := i_ref15_Bare) (tout := o_ref15_Bare)
def i_ref14_Right : Tpl := ⟨[], [], [(.one, [.hole (.sl 4 tS)]), (.one, [.hole tI])]⟩
def o_ref14_Right : Tpl := ⟨[], [], [(.one, [.hole .bool])]⟩
noncomputable def S_ref14_Right (a0 : LS) (a1 : Int) : Option (Bool × Unit) := Sof Tryz.prog annX plansX 116 i_ref14_Right o_ref14_Right (a0, (a1, ()))
noncomputable def c_ref14_Right : Ctr := ⟨116, i_ref14_Right, o_ref14_Right, fun d => S_ref14_Right d.1 d.2.1⟩
theorem k_ref14_Right : (c_ref14_Right).ok Tryz.prog annX plansX := ctr_ok (tin := i_ref14_Right) (tout := o_ref14_Right)
def i_ref15_tables : Tpl := ⟨[], [], [(.agg, [.hole .str, .hole .bool, .hole (.sl 1 tI), .hole (.sl 1 tI), .hole (.sl 1 tI), .hole (.sl 1 tI), .hole (.sl 2 tC), .hole (.sl 1 tI), .hole (.sl 7 tN), .hole (.sl 1 tI), .hole (.sl 4 tS)]), (.one, [.hole tI])]⟩
def o_ref15_tables : Tpl := ⟨[], [], [(.one, [.hole .bool])]⟩
noncomputable def S_ref15_tables (a0 : LB) (a1 : Bool) (a2 : LI) (a3 : LI) (a4 : LI) (a5 : LI) (a6 : LC) (a7 : LI) (a8 : LN) (a9 : LI) (a10 : LS) (a11 : Int) : Option (Bool × Unit) := Sof Tryz.prog annX plansX 59 i_ref15_tables o_ref15_tables (a0, (a1, (a2, (a3, (a4, (a5, (a6, (a7, (a8, (a9, (a10, (a11, ()))))))))))))
noncomputable def c_ref15_tables : Ctr := ⟨59, i_ref15_tables, o_ref15_tables, fun d => S_ref15_tables d.1 d.2.1 d.2.2.1 d.2.2.2.1 d.2.2.2.2.1 d.2.2.2.2.2.1 d.2.2.2.2.2.2.1 d.2.2.2.2.2.2.2.1 d.2.2.2.2.2.2.2.2.1 d.2.2.2.2.2.2.2.2.2.1 d.2.2.2.2.2.2.2.2.2.2.1 d.2.2.2.2.2.2.2.2.2.2.2.1⟩
theorem k_ref15_tables : (c_ref15_tables).ok Tryz.prog annX plansX := ctr_ok (tin := i_ref15_tables) (tout := o_ref15_tables)
def i_ref15_Can : Tpl := ⟨[], [], [(.agg, [.hole .str, .hole .bool, .hole (.sl 1 tI), .hole (.sl 1 tI), .hole (.sl 1 tI), .hole (.sl 1 tI), .hole (.sl 2 tC), .hole (.sl 1 tI), .hole (.sl 7 tN), .hole (.sl 1 tI), .hole (.sl 4 tS)])]⟩
def o_ref15_Can : Tpl := ⟨[], [], [(.one, [.hole tI])]⟩
noncomputable def S_ref15_Can (a0 : LB) (a1 : Bool) (a2 : LI) (a3 : LI) (a4 : LI) (a5 : LI) (a6 : LC) (a7 : LI) (a8 : LN) (a9 : LI) (a10 : LS) : Option (Int × Unit) := Sof Tryz.prog annX plansX 19 i_ref15_Can o_ref15_Can (a0, (a1, (a2, (a3, (a4, (a5, (a6, (a7, (a8, (a9, (a10, ())))))))))))
noncomputable def c_ref15_Can : Ctr := ⟨19, i_ref15_Can, o_ref15_Can, fun d => S_ref15_Can d.1 d.2.1 d.2.2.1 d.2.2.2.1 d.2.2.2.2.1 d.2.2.2.2.2.1 d.2.2.2.2.2.2.1 d.2.2.2.2.2.2.2.1 d.2.2.2.2.2.2.2.2.1 d.2.2.2.2.2.2.2.2.2.1 d.2.2.2.2.2.2.2.2.2.2.1⟩
theorem k_ref15_Can : (c_ref15_Can).ok Tryz.prog annX plansX := ctr_ok (tin := i_ref15_Can) (tout := o_ref15_Can)
def i_uvar_Put : Tpl := ⟨[.mu 5 1 tY], [], [(.one, [.own 0]), (.one, [.hole tW])]⟩
def o_uvar_Put : Tpl := ⟨[.dead, .mu 5 1 tY], [], [(.one, [.own 1])]⟩
noncomputable def S_uvar_Put (a0 : LB) (a1 : Int) : Option (LB × Unit) := Sof Tryz.prog annX plansX 60 i_uvar_Put o_uvar_Put (a0, (a1, ()))
noncomputable def c_uvar_Put : Ctr := ⟨60, i_uvar_Put, o_uvar_Put, fun d => S_uvar_Put d.1 d.2.1⟩
theorem k_uvar_Put : (c_uvar_Put).ok Tryz.prog annX plansX := ctr_ok (tin := i_uvar_Put) (tout := o_uvar_Put)
def i_fnc_flag : Tpl := ⟨[], [], [(.agg, [.hole .str, .hole .bool, .hole (.sl 1 tI), .hole (.sl 1 tI), .hole (.sl 1 tI), .hole (.sl 1 tI), .hole (.sl 2 tC), .hole (.sl 1 tI), .hole (.sl 7 tN), .hole (.sl 1 tI), .hole (.sl 4 tS)])]⟩
def o_fnc_flag : Tpl := ⟨[], [], [(.one, [.hole tY])]⟩
noncomputable def S_fnc_flag (a0 : LB) (a1 : Bool) (a2 : LI) (a3 : LI) (a4 : LI) (a5 : LI) (a6 : LC) (a7 : LI) (a8 : LN) (a9 : LI) (a10 : LS) : Option (UInt8 × Unit) := Sof Tryz.prog annX plansX 61 i_fnc_flag o_fnc_flag (a0, (a1, (a2, (a3, (a4, (a5, (a6, (a7, (a8, (a9, (a10, ())))))))))))
noncomputable def c_fnc_flag : Ctr := ⟨61, i_fnc_flag, o_fnc_flag, fun d => S_fnc_flag d.1 d.2.1 d.2.2.1 d.2.2.2.1 d.2.2.2.2.1 d.2.2.2.2.2.1 d.2.2.2.2.2.2.1 d.2.2.2.2.2.2.2.1 d.2.2.2.2.2.2.2.2.1 d.2.2.2.2.2.2.2.2.2.1 d.2.2.2.2.2.2.2.2.2.2.1⟩
theorem k_fnc_flag : (c_fnc_flag).ok Tryz.prog annX plansX := ctr_ok (tin := i_fnc_flag) (tout := o_fnc_flag)
def i_sig_Put : Tpl := ⟨[.mu 5 1 tY], [], [(.one, [.own 0]), (.one, [.hole (.sl 1 tI)])]⟩
def o_sig_Put : Tpl := ⟨[.dead, .mu 5 1 tY], [], [(.one, [.own 1])]⟩
noncomputable def S_sig_Put (a0 : LB) (a1 : LI) : Option (LB × Unit) := Sof Tryz.prog annX plansX 62 i_sig_Put o_sig_Put (a0, (a1, ()))
noncomputable def c_sig_Put : Ctr := ⟨62, i_sig_Put, o_sig_Put, fun d => S_sig_Put d.1 d.2.1⟩
theorem k_sig_Put : (c_sig_Put).ok Tryz.prog annX plansX := ctr_ok (tin := i_sig_Put) (tout := o_sig_Put)
def i_uvar_Fold : Tpl := ⟨[], [], [(.one, [.hole tI])]⟩
def o_uvar_Fold : Tpl := ⟨[], [], [(.one, [.hole tW])]⟩
noncomputable def S_uvar_Fold (a0 : Int) : Option (Int × Unit) := Sof Tryz.prog annX plansX 158 i_uvar_Fold o_uvar_Fold (a0, ())
noncomputable def c_uvar_Fold : Ctr := ⟨158, i_uvar_Fold, o_uvar_Fold, fun d => S_uvar_Fold d.1⟩
theorem k_uvar_Fold : (c_uvar_Fold).ok Tryz.prog annX plansX := ctr_ok (tin := i_uvar_Fold) (tout := o_uvar_Fold)
def i_uvar_PutInt : Tpl := ⟨[.mu 5 1 tY], [], [(.one, [.own 0]), (.one, [.hole tI])]⟩
def o_uvar_PutInt : Tpl := ⟨[.dead, .mu 5 1 tY], [], [(.one, [.own 1])]⟩
noncomputable def S_uvar_PutInt (a0 : LB) (a1 : Int) : Option (LB × Unit) := Sof Tryz.prog annX plansX 119 i_uvar_PutInt o_uvar_PutInt (a0, (a1, ()))
noncomputable def c_uvar_PutInt : Ctr := ⟨119, i_uvar_PutInt, o_uvar_PutInt, fun d => S_uvar_PutInt d.1 d.2.1⟩
theorem k_uvar_PutInt : (c_uvar_PutInt).ok Tryz.prog annX plansX := ctr_ok (tin := i_uvar_PutInt) (tout := o_uvar_PutInt)
def i_instr_Put : Tpl := ⟨[.mu 5 1 tY], [], [(.one, [.own 0]), (.agg, [.hole tI, .hole tI])]⟩
def o_instr_Put : Tpl := ⟨[.dead, .mu 5 1 tY], [], [(.one, [.own 1])]⟩
noncomputable def S_instr_Put (a0 : LB) (a1 : Int) (a2 : Int) : Option (LB × Unit) := Sof Tryz.prog annX plansX 63 i_instr_Put o_instr_Put (a0, (a1, (a2, ())))
noncomputable def c_instr_Put : Ctr := ⟨63, i_instr_Put, o_instr_Put, fun d => S_instr_Put d.1 d.2.1 d.2.2.1⟩
theorem k_instr_Put : (c_instr_Put).ok Tryz.prog annX plansX := ctr_ok (tin := i_instr_Put) (tout := o_instr_Put)
def i_runs_groups_int : Tpl := ⟨[], [], [(.one, [.hole (.sl 1 tI)])]⟩
def o_runs_groups_int : Tpl := ⟨[], [], [(.one, [.hole (.sl 2 tC)])]⟩
noncomputable def S_runs_groups_int (a0 : LI) : Option (LC × Unit) := Sof Tryz.prog annX plansX 159 i_runs_groups_int o_runs_groups_int (a0, ())
noncomputable def c_runs_groups_int : Ctr := ⟨159, i_runs_groups_int, o_runs_groups_int, fun d => S_runs_groups_int d.1⟩
theorem k_runs_groups_int : (c_runs_groups_int).ok Tryz.prog annX plansX := ctr_ok (tin := i_runs_groups_int) (tout := o_runs_groups_int)
def i_runs_Of : Tpl := ⟨[], [], [(.one, [.hole (.sl 1 tI)])]⟩
def o_runs_Of : Tpl := ⟨[], [], [(.one, [.hole (.sl 2 tC)])]⟩
noncomputable def S_runs_Of (a0 : LI) : Option (LC × Unit) := Sof Tryz.prog annX plansX 121 i_runs_Of o_runs_Of (a0, ())
noncomputable def c_runs_Of : Ctr := ⟨121, i_runs_Of, o_runs_Of, fun d => S_runs_Of d.1⟩
theorem k_runs_Of : (c_runs_Of).ok Tryz.prog annX plansX := ctr_ok (tin := i_runs_Of) (tout := o_runs_Of)
def i_runs_Put : Tpl := ⟨[.mu 5 1 tY], [], [(.one, [.own 0]), (.one, [.hole (.sl 1 tI)])]⟩
def o_runs_Put : Tpl := ⟨[.dead, .mu 5 1 tY], [], [(.one, [.own 1])]⟩
noncomputable def S_runs_Put (a0 : LB) (a1 : LI) : Option (LB × Unit) := Sof Tryz.prog annX plansX 66 i_runs_Put o_runs_Put (a0, (a1, ()))
noncomputable def c_runs_Put : Ctr := ⟨66, i_runs_Put, o_runs_Put, fun d => S_runs_Put d.1 d.2.1⟩
theorem k_runs_Put : (c_runs_Put).ok Tryz.prog annX plansX := ctr_ok (tin := i_runs_Put) (tout := o_runs_Put)
def i_lines_Put : Tpl := ⟨[.mu 5 1 tY], [], [(.one, [.own 0]), (.one, [.hole (.sl 1 tI)])]⟩
def o_lines_Put : Tpl := ⟨[.dead, .mu 5 1 tY], [], [(.one, [.own 1])]⟩
noncomputable def S_lines_Put (a0 : LB) (a1 : LI) : Option (LB × Unit) := Sof Tryz.prog annX plansX 64 i_lines_Put o_lines_Put (a0, (a1, ()))
noncomputable def c_lines_Put : Ctr := ⟨64, i_lines_Put, o_lines_Put, fun d => S_lines_Put d.1 d.2.1⟩
theorem k_lines_Put : (c_lines_Put).ok Tryz.prog annX plansX := ctr_ok (tin := i_lines_Put) (tout := o_lines_Put)
def i_tree_Put : Tpl := ⟨[.mu 5 1 tY], [], [(.one, [.own 0]), (.one, [.hole (.sl 7 tN)])]⟩
def o_tree_Put : Tpl := ⟨[.dead, .mu 5 1 tY], [], [(.one, [.own 1])]⟩
noncomputable def S_tree_Put (a0 : LB) (a1 : LN) : Option (LB × Unit) := Sof Tryz.prog annX plansX 67 i_tree_Put o_tree_Put (a0, (a1, ()))
noncomputable def c_tree_Put : Ctr := ⟨67, i_tree_Put, o_tree_Put, fun d => S_tree_Put d.1 d.2.1⟩
theorem k_tree_Put : (c_tree_Put).ok Tryz.prog annX plansX := ctr_ok (tin := i_tree_Put) (tout := o_tree_Put)
def i_maps_count : Tpl := ⟨[], [], [(.one, [.hole (.sl 4 tS)])]⟩
def o_maps_count : Tpl := ⟨[], [], [(.one, [.hole (.sl 5 (.pr tW (.pr tW (.pr tW (.pr tW tI)))))])]⟩
noncomputable def S_maps_count (a0 : LS) : Option ((List (Int × (Int × (Int × (Int × Int))))) × Unit) := Sof Tryz.prog annX plansX 120 i_maps_count o_maps_count (a0, ())
noncomputable def c_maps_count : Ctr := ⟨120, i_maps_count, o_maps_count, fun d => S_maps_count d.1⟩
theorem k_maps_count : (c_maps_count).ok Tryz.prog annX plansX := ctr_ok (tin := i_maps_count) (tout := o_maps_count)
def i_maps_Put : Tpl := ⟨[.mu 5 1 tY], [], [(.one, [.own 0]), (.one, [.hole (.sl 4 tS)])]⟩
def o_maps_Put : Tpl := ⟨[.dead, .mu 5 1 tY], [], [(.one, [.own 1])]⟩
noncomputable def S_maps_Put (a0 : LB) (a1 : LS) : Option (LB × Unit) := Sof Tryz.prog annX plansX 65 i_maps_Put o_maps_Put (a0, (a1, ()))
noncomputable def c_maps_Put : Ctr := ⟨65, i_maps_Put, o_maps_Put, fun d => S_maps_Put d.1 d.2.1⟩
theorem k_maps_Put : (c_maps_Put).ok Tryz.prog annX plansX := ctr_ok (tin := i_maps_Put) (tout := o_maps_Put)
def i_fnc_Put : Tpl := ⟨[.mu 5 1 tY], [], [(.one, [.own 0]), (.agg, [.hole .str, .hole .bool, .hole (.sl 1 tI), .hole (.sl 1 tI), .hole (.sl 1 tI), .hole (.sl 1 tI), .hole (.sl 2 tC), .hole (.sl 1 tI), .hole (.sl 7 tN), .hole (.sl 1 tI), .hole (.sl 4 tS)])]⟩
def o_fnc_Put : Tpl := ⟨[.dead, .mu 5 1 tY], [], [(.one, [.own 1])]⟩
noncomputable def S_fnc_Put (a0 : LB) (a1 : LB) (a2 : Bool) (a3 : LI) (a4 : LI) (a5 : LI) (a6 : LI) (a7 : LC) (a8 : LI) (a9 : LN) (a10 : LI) (a11 : LS) : Option (LB × Unit) := Sof Tryz.prog annX plansX 20 i_fnc_Put o_fnc_Put (a0, (a1, (a2, (a3, (a4, (a5, (a6, (a7, (a8, (a9, (a10, (a11, ()))))))))))))
noncomputable def c_fnc_Put : Ctr := ⟨20, i_fnc_Put, o_fnc_Put, fun d => S_fnc_Put d.1 d.2.1 d.2.2.1 d.2.2.2.1 d.2.2.2.2.1 d.2.2.2.2.2.1 d.2.2.2.2.2.2.1 d.2.2.2.2.2.2.2.1 d.2.2.2.2.2.2.2.2.1 d.2.2.2.2.2.2.2.2.2.1 d.2.2.2.2.2.2.2.2.2.2.1 d.2.2.2.2.2.2.2.2.2.2.2.1⟩
theorem k_fnc_Put : (c_fnc_Put).ok Tryz.prog annX plansX := ctr_ok (tin := i_fnc_Put) (tout := o_fnc_Put)
def i_slices_Clone_api_Type_api_Type : Tpl := ⟨[], [], [(.one, [.hole (.sl 1 tI)])]⟩
def o_slices_Clone_api_Type_api_Type : Tpl := ⟨[], [], [(.one, [.hole (.sl 1 tI)])]⟩
noncomputable def S_slices_Clone_api_Type_api_Type (a0 : List Int) : Option (LI × Unit) := chk (leN a0.length 2000000000) (some (a0, ()))
noncomputable def c_slices_Clone_api_Type_api_Type : Ctr := ⟨68, i_slices_Clone_api_Type_api_Type, o_slices_Clone_api_Type_api_Type, fun d => S_slices_Clone_api_Type_api_Type d.1⟩
theorem k_slices_Clone_api_Type_api_Type : (c_slices_Clone_api_Type_api_Type).ok Tryz.prog annX plansX := fun d q h args0 hw => by
 obtain ⟨h1, h2⟩ := chk_ok h
 cases h2
 refine callW_base ?_
 rw [hw]
 have h3 : (eI d.1).length ≤ 2000000000 := Nat.le_trans (Nat.le_of_eq (show (mapE (enc tI) d.1).length = List.length d.1 from List.length_map _)) (leN_ok.1 h1)
 show (if 1 = 1 ∧ (eI d.1).length ≤ 2000000000 then _ else none) = _
 exact (if_pos ⟨rfl, h3⟩).trans rfl
def i_slices_Clone_api_Instr_api_Instr : Tpl := ⟨[], [], [(.one, [.hole (.sl 2 tC)])]⟩
def o_slices_Clone_api_Instr_api_Instr : Tpl := ⟨[], [], [(.one, [.hole (.sl 2 tC)])]⟩
noncomputable def S_slices_Clone_api_Instr_api_Instr (a0 : List (Int × Int)) : Option (LC × Unit) := chk (leN a0.length 2000000000) (some (a0, ()))
noncomputable def c_slices_Clone_api_Instr_api_Instr : Ctr := ⟨69, i_slices_Clone_api_Instr_api_Instr, o_slices_Clone_api_Instr_api_Instr, fun d => S_slices_Clone_api_Instr_api_Instr d.1⟩
theorem k_slices_Clone_api_Instr_api_Instr : (c_slices_Clone_api_Instr_api_Instr).ok Tryz.prog annX plansX := fun d q h args0 hw => by
 obtain ⟨h1, h2⟩ := chk_ok h
 cases h2
 refine callW_base ?_
 rw [hw]
 have h3 : (eC d.1).length ≤ 2000000000 := Nat.le_trans (Nat.le_of_eq (show (mapE (enc tC) d.1).length = List.length d.1 from List.length_map _)) (leN_ok.1 h1)
 show (if 2 = 2 ∧ (eC d.1).length ≤ 2000000000 then _ else none) = _
 exact (if_pos ⟨rfl, h3⟩).trans rfl
def i_slices_Clone_int_int : Tpl := ⟨[], [], [(.one, [.hole (.sl 1 tI)])]⟩
def o_slices_Clone_int_int : Tpl := ⟨[], [], [(.one, [.hole (.sl 1 tI)])]⟩
noncomputable def S_slices_Clone_int_int (a0 : List Int) : Option (LI × Unit) := chk (leN a0.length 2000000000) (some (a0, ()))
noncomputable def c_slices_Clone_int_int : Ctr := ⟨70, i_slices_Clone_int_int, o_slices_Clone_int_int, fun d => S_slices_Clone_int_int d.1⟩
theorem k_slices_Clone_int_int : (c_slices_Clone_int_int).ok Tryz.prog annX plansX := fun d q h args0 hw => by
 obtain ⟨h1, h2⟩ := chk_ok h
 cases h2
 refine callW_base ?_
 rw [hw]
 have h3 : (eI d.1).length ≤ 2000000000 := Nat.le_trans (Nat.le_of_eq (show (mapE (enc tI) d.1).length = List.length d.1 from List.length_map _)) (leN_ok.1 h1)
 show (if 1 = 1 ∧ (eI d.1).length ≤ 2000000000 then _ else none) = _
 exact (if_pos ⟨rfl, h3⟩).trans rfl
def i_slices_Clone_api_Node_api_Node : Tpl := ⟨[], [], [(.one, [.hole (.sl 7 tN)])]⟩
def o_slices_Clone_api_Node_api_Node : Tpl := ⟨[], [], [(.one, [.hole (.sl 7 tN)])]⟩
noncomputable def S_slices_Clone_api_Node_api_Node (a0 : List (Int × (Int × (Int × (Int × (Int × (Int × Int))))))) : Option (LN × Unit) := chk (leN a0.length 2000000000) (some (a0, ()))
noncomputable def c_slices_Clone_api_Node_api_Node : Ctr := ⟨71, i_slices_Clone_api_Node_api_Node, o_slices_Clone_api_Node_api_Node, fun d => S_slices_Clone_api_Node_api_Node d.1⟩
theorem k_slices_Clone_api_Node_api_Node : (c_slices_Clone_api_Node_api_Node).ok Tryz.prog annX plansX := fun d q h args0 hw => by
 obtain ⟨h1, h2⟩ := chk_ok h
 cases h2
 refine callW_base ?_
 rw [hw]
 have h3 : (eN d.1).length ≤ 2000000000 := Nat.le_trans (Nat.le_of_eq (show (mapE (enc tN) d.1).length = List.length d.1 from List.length_map _)) (leN_ok.1 h1)
 show (if 7 = 7 ∧ (eN d.1).length ≤ 2000000000 then _ else none) = _
 exact (if_pos ⟨rfl, h3⟩).trans rfl
def i_slices_Clone_api_Set_api_Set : Tpl := ⟨[], [], [(.one, [.hole (.sl 4 tS)])]⟩
def o_slices_Clone_api_Set_api_Set : Tpl := ⟨[], [], [(.one, [.hole (.sl 4 tS)])]⟩
noncomputable def S_slices_Clone_api_Set_api_Set (a0 : List (Int × (Int × (Int × Int)))) : Option (LS × Unit) := chk (leN a0.length 2000000000) (some (a0, ()))
noncomputable def c_slices_Clone_api_Set_api_Set : Ctr := ⟨72, i_slices_Clone_api_Set_api_Set, o_slices_Clone_api_Set_api_Set, fun d => S_slices_Clone_api_Set_api_Set d.1⟩
theorem k_slices_Clone_api_Set_api_Set : (c_slices_Clone_api_Set_api_Set).ok Tryz.prog annX plansX := fun d q h args0 hw => by
 obtain ⟨h1, h2⟩ := chk_ok h
 cases h2
 refine callW_base ?_
 rw [hw]
 have h3 : (eS d.1).length ≤ 2000000000 := Nat.le_trans (Nat.le_of_eq (show (mapE (enc tS) d.1).length = List.length d.1 from List.length_map _)) (leN_ok.1 h1)
 show (if 4 = 4 ∧ (eS d.1).length ≤ 2000000000 then _ else none) = _
 exact (if_pos ⟨rfl, h3⟩).trans rfl
def i_fnc_Copy : Tpl := ⟨[], [], [(.agg, [.hole .str, .hole .bool, .hole (.sl 1 tI), .hole (.sl 1 tI), .hole (.sl 1 tI), .hole (.sl 1 tI), .hole (.sl 2 tC), .hole (.sl 1 tI), .hole (.sl 7 tN), .hole (.sl 1 tI), .hole (.sl 4 tS)])]⟩
def o_fnc_Copy : Tpl := ⟨[], [], [(.agg, [.hole .str, .hole .bool, .hole (.sl 1 tI), .hole (.sl 1 tI), .hole (.sl 1 tI), .hole (.sl 1 tI), .hole (.sl 2 tC), .hole (.sl 1 tI), .hole (.sl 7 tN), .hole (.sl 1 tI), .hole (.sl 4 tS)])]⟩
noncomputable def S_fnc_Copy (a0 : LB) (a1 : Bool) (a2 : LI) (a3 : LI) (a4 : LI) (a5 : LI) (a6 : LC) (a7 : LI) (a8 : LN) (a9 : LI) (a10 : LS) : Option (LB × (Bool × (LI × (LI × (LI × (LI × (LC × (LI × (LN × (LI × (LS × Unit))))))))))) := Sof Tryz.prog annX plansX 21 i_fnc_Copy o_fnc_Copy (a0, (a1, (a2, (a3, (a4, (a5, (a6, (a7, (a8, (a9, (a10, ())))))))))))
noncomputable def c_fnc_Copy : Ctr := ⟨21, i_fnc_Copy, o_fnc_Copy, fun d => S_fnc_Copy d.1 d.2.1 d.2.2.1 d.2.2.2.1 d.2.2.2.2.1 d.2.2.2.2.2.1 d.2.2.2.2.2.2.1 d.2.2.2.2.2.2.2.1 d.2.2.2.2.2.2.2.2.1 d.2.2.2.2.2.2.2.2.2.1 d.2.2.2.2.2.2.2.2.2.2.1⟩
theorem k_fnc_Copy : (c_fnc_Copy).ok Tryz.prog annX plansX := ctr_ok (tin := i_fnc_Copy) (tout := o_fnc_Copy)
end Go.Proofs.YtkdnbnkbnegckaaGreat
