/- Whether things are the same: what the lifted functions of the document's answer come to. What functions come to: templates, and contracts. Functions, lifted: what the program comes to by them. -/
import Derived.Test.YtkdnbnkbnegckaaGreatSpF
import Derived.Test.YtkdnbnkbnegckaaGreatLwA
namespace Go.Proofs.YtkdnbnkbnegckaaGreat
open Go.RowKit
open Classical in
/-- Are they the same? -/
noncomputable def eqD {α : Type} (a b : α) : Bool := decide (a = b)
@[simp] theorem eqD_s {α : Type} {a : α} : eqD a a = true := by simp [eqD]
theorem eqD_f {α : Type} {a b : α} (h : a ≠ b) : eqD a b = false := by simp [eqD, h]
theorem eqD_cons {α : Type} {a b : α} {l m : List α} : eqD (a :: l) (b :: m) = (eqD a b && eqD l m) := by
  by_cases h1 : a = b <;> by_cases h2 : l = m <;> simp [eqD, h1, h2]
theorem eqD_d {α : Type} {a b : α} [Decidable (a = b)] : eqD a b = decide (a = b) := by
  by_cases h : a = b <;> simp [eqD, h]
theorem iter_same {α : Type} {l m : List α} {f : α → α → Bool} (hf : ∀ x y, f x y = eqD x y) (hl : l.length ≤ 1000000000000000000) (hm : l.length = m.length) :
    iter (fun (d : Int × Unit) again => if d.1 < (l.length : Int) then if 0 ≤ d.1 then bnd l[d.1.toNat]? fun x => if 0 ≤ d.1 then bnd m[d.1.toNat]? fun y => cnd (f x y) (again (wrp .i64 (d.1 + 1), ())) (some (false, ())) else none else none else some (true, ())) (l.length + 1) (0, ()) = some (eqD l m, ()) := by
  refine iter_to (fun d => l.length - d.1.toNat) (fun d => ∃ k : Nat, d = ((k : Int), ()) ∧ k ≤ l.length ∧ eqD l m = eqD (l.drop k) (m.drop k)) ?_ _ _ ⟨0, rfl, Nat.zero_le _, rfl⟩ (by simp)
  rintro _ again ⟨k, rfl, hk, hr⟩ ih
  by_cases h : k < l.length
  · have h2 : k < m.length := by omega
    have hw : wrp .i64 ((k : Int) + 1) = (k : Int) + 1 := wi64 (by omega) (by omega)
    rw [List.drop_eq_getElem_cons h, List.drop_eq_getElem_cons h2, eqD_cons] at hr
    simp [h, bnd_get h, bnd_get h2, hw, hf]
    cases he : eqD l[k] m[k] with
    | true =>
      rw [he] at hr
      exact ih _ ⟨k + 1, rfl, h, by simpa using hr⟩ (by simp; omega)
    | false =>
      rw [he] at hr
      simp [hr]
  · have : k = l.length := by omega
    subst this
    rw [hr, List.drop_eq_nil_of_le (Nat.le_refl _), List.drop_eq_nil_of_le (show m.length ≤ l.length by omega)]
    simp
theorem len_ne {α : Type} {l m : List α} (h : ¬l.length = m.length) : eqD l m = false := eqD_f fun e => h (by rw [e])
theorem sp_Same11 {l m : List Int} (hl : l.length ≤ 1000000000000000000) : S_ref11_Same l m = some (eqD l m, ()) := by
  refine u_ref11_Same (N := l.length + 1) ?_
  simp [M_ref11_Same]
  by_cases h : l.length = m.length
  · have := iter_same (f := fun x y => decide (x = y)) (fun x y => (eqD_d (a := x) (b := y)).symm) hl h
    simpa [h] using this
  · simp [len_ne h, show ¬(l.length : Int) = m.length by omega]
theorem sp_Ints {l m : List Int} (hl : l.length ≤ 1000000000000000000) : S_ref04_Ints l m = some (eqD l m, ()) := by
  refine u_ref04_Ints (N := l.length + 1) ?_
  simp [M_ref04_Ints]
  by_cases h : l.length = m.length
  · have := iter_same (f := fun x y => decide (x = y)) (fun x y => (eqD_d (a := x) (b := y)).symm) hl h
    simpa [h] using this
  · simp [len_ne h, show ¬(l.length : Int) = m.length by omega]
theorem sp_Same13 {l m : List Nd} (hl : l.length ≤ 1000000000000000000) : S_ref13_Same l m = some (eqD l m, ()) := by
  refine u_ref13_Same (N := l.length + 1) ?_
  simp [M_ref13_Same]
  by_cases h : l.length = m.length
  · have := iter_same (f := fun (p q : Nd) => eqL [p.1, p.2.1, p.2.2.1, p.2.2.2.1, p.2.2.2.2.1, p.2.2.2.2.2.1, p.2.2.2.2.2.2] [q.1, q.2.1, q.2.2.1, q.2.2.2.1, q.2.2.2.2.1, q.2.2.2.2.2.1, q.2.2.2.2.2.2]) (fun p q => by
      obtain ⟨a, b, c, d, e, f, g⟩ := p
      obtain ⟨a', b', c', d', e', f', g'⟩ := q
      simp [eqL, eqD]) hl h
    simpa [h] using this
  · simp [len_ne h, show ¬(l.length : Int) = m.length by omega]
theorem sp_Same14 {l m : List St} (hl : l.length ≤ 1000000000000000000) : S_ref14_Same l m = some (eqD l m, ()) := by
  refine u_ref14_Same (N := l.length + 1) ?_
  simp [M_ref14_Same]
  by_cases h : l.length = m.length
  · have := iter_same (f := fun (p q : St) => eqL [p.1, p.2.1, p.2.2.1, p.2.2.2] [q.1, q.2.1, q.2.2.1, q.2.2.2]) (fun p q => by
      obtain ⟨a, b, c, d⟩ := p
      obtain ⟨a', b', c', d'⟩ := q
      simp [eqL, eqD]) hl h
    simpa [h] using this
  · simp [len_ne h, show ¬(l.length : Int) = m.length by omega]
theorem sp_Code {l m : List (Int × Int)} (hl : l.length ≤ 1000000000000000000) : S_ref15_Code l m = some (eqD l m, ()) := by
  refine u_ref15_Code (N := l.length + 1) ?_
  simp [M_ref15_Code]
  by_cases h : l.length = m.length
  · have := iter_same (f := fun (p q : Int × Int) => eqL [p.1, p.2] [q.1, q.2]) (fun p q => by
      obtain ⟨a, b⟩ := p
      obtain ⟨a', b'⟩ := q
      simp [eqL, eqD]) hl h
    simpa [h] using this
  · simp [len_ne h, show ¬(l.length : Int) = m.length by omega]
end Go.Proofs.YtkdnbnkbnegckaaGreat
namespace Go.Proofs.YtkdnbnkbnegckaaGreat
open Go.RowKit
set_option maxRecDepth 100000
def i_ref11_May : Tpl := ⟨[], [], [(.one, [.hole tI])]⟩
def o_ref11_May : Tpl := ⟨[], [], [(.one, [.hole .bool])]⟩
noncomputable def S_ref11_May (a0 : Int) : Option (Bool × Unit) := Sof Tryz.prog annX plansX 113 i_ref11_May o_ref11_May (a0, ())
def i_uvar_Put : Tpl := ⟨[.mu 5 1 tY], [], [(.one, [.own 0]), (.one, [.hole tW])]⟩
def o_uvar_Put : Tpl := ⟨[.dead, .mu 5 1 tY], [], [(.one, [.own 1])]⟩
noncomputable def S_uvar_Put (a0 : LB) (a1 : Int) : Option (LB × Unit) := Sof Tryz.prog annX plansX 60 i_uvar_Put o_uvar_Put (a0, (a1, ()))
noncomputable def c_uvar_Put : Ctr := ⟨60, i_uvar_Put, o_uvar_Put, fun d => S_uvar_Put d.1 d.2.1⟩
theorem k_uvar_Put : (c_uvar_Put).ok Tryz.prog annX plansX := ctr_ok (tin := i_uvar_Put) (tout := o_uvar_Put)
def i_fnc_flag : Tpl := ⟨[], [], [(.agg, [.hole .str, .hole .bool, .hole (.sl 1 tI), .hole (.sl 1 tI), .hole (.sl 1 tI), .hole (.sl 1 tI), .hole (.sl 2 tC), .hole (.sl 1 tI), .hole (.sl 7 tN), .hole (.sl 1 tI), .hole (.sl 4 tS)])]⟩
def o_fnc_flag : Tpl := ⟨[], [], [(.one, [.hole tY])]⟩
noncomputable def S_fnc_flag (a0 : LB) (a1 : Bool) (a2 : LI) (a3 : LI) (a4 : LI) (a5 : LI) (a6 : LC) (a7 : LI) (a8 : LN) (a9 : LI) (a10 : LS) : Option (UInt8 × Unit) := Sof Tryz.prog annX plansX 61 i_fnc_flag o_fnc_flag (a0, (a1, (a2, (a3, (a4, (a5, (a6, (a7, (a8, (a9, (a10, ())))))))))))
noncomputable def c_fnc_flag : Ctr := ⟨61, i_fnc_flag, o_fnc_flag, fun d => S_fnc_flag d.1 d.2.1 d.2.2.1 d.2.2.2.1 d.2.2.2.2.1 d.2.2.2.2.2.1 d.2.2.2.2.2.2.1 d.2.2.2.2.2.2.2.1 d.2.2.2.2.2.2.2.2.1 d.2.2.2.2.2.2.2.2.2.1 d.2.2.2.2.2.2.2.2.2.2.1⟩
theorem k_fnc_flag : (c_fnc_flag).ok Tryz.prog annX plansX := ctr_ok (tin := i_fnc_flag) (tout := o_fnc_flag)
def i_sig_Put : Tpl := ⟨[.mu 5 1 tY], [], [(.one, [.own 0]), (.one, [.hole (.sl 1 tI)])]⟩
def o_sig_Put : Tpl := ⟨[.dead, .mu 5 1 tY], [], [(.one, [.own 1])]⟩
noncomputable def S_sig_Put (a0 : LB) (a1 : LI) : Option (LB × Unit) := Sof Tryz.prog annX plansX 62 i_sig_Put o_sig_Put (a0, (a1, ()))
noncomputable def c_sig_Put : Ctr := ⟨62, i_sig_Put, o_sig_Put, fun d => S_sig_Put d.1 d.2.1⟩
theorem k_sig_Put : (c_sig_Put).ok Tryz.prog annX plansX := ctr_ok (tin := i_sig_Put) (tout := o_sig_Put)
def i_uvar_Fold : Tpl := ⟨[], [], [(.one, [.hole tI])]⟩
def o_uvar_Fold : Tpl := ⟨[], [], [(.one, [.hole tW])]⟩
noncomputable def S_uvar_Fold (a0 : Int) : Option (Int × Unit) := Sof Tryz.prog annX plansX 158 i_uvar_Fold o_uvar_Fold (a0, ())
noncomputable def c_uvar_Fold : Ctr := ⟨158, i_uvar_Fold, o_uvar_Fold, fun d => S_uvar_Fold d.1⟩
theorem k_uvar_Fold : (c_uvar_Fold).ok Tryz.prog annX plansX := ctr_ok (tin := i_uvar_Fold) (tout := o_uvar_Fold)
def i_uvar_PutInt : Tpl := ⟨[.mu 5 1 tY], [], [(.one, [.own 0]), (.one, [.hole tI])]⟩
def o_uvar_PutInt : Tpl := ⟨[.dead, .mu 5 1 tY], [], [(.one, [.own 1])]⟩
noncomputable def S_uvar_PutInt (a0 : LB) (a1 : Int) : Option (LB × Unit) := Sof Tryz.prog annX plansX 119 i_uvar_PutInt o_uvar_PutInt (a0, (a1, ()))
noncomputable def c_uvar_PutInt : Ctr := ⟨119, i_uvar_PutInt, o_uvar_PutInt, fun d => S_uvar_PutInt d.1 d.2.1⟩
theorem k_uvar_PutInt : (c_uvar_PutInt).ok Tryz.prog annX plansX := ctr_ok (tin := i_uvar_PutInt) (tout := o_uvar_PutInt)
def i_instr_Put : Tpl := ⟨[.mu 5 1 tY], [], [(.one, [.own 0]), (.agg, [.hole tI, .hole tI])]⟩
def o_instr_Put : Tpl := ⟨[.dead, .mu 5 1 tY], [], [(.one, [.own 1])]⟩
noncomputable def S_instr_Put (a0 : LB) (a1 : Int) (a2 : Int) : Option (LB × Unit) := Sof Tryz.prog annX plansX 63 i_instr_Put o_instr_Put (a0, (a1, (a2, ())))
noncomputable def c_instr_Put : Ctr := ⟨63, i_instr_Put, o_instr_Put, fun d => S_instr_Put d.1 d.2.1 d.2.2.1⟩
theorem k_instr_Put : (c_instr_Put).ok Tryz.prog annX plansX := ctr_ok (tin := i_instr_Put) (tout := o_instr_Put)
def i_runs_groups_int : Tpl := ⟨[], [], [(.one, [.hole (.sl 1 tI)])]⟩
def o_runs_groups_int : Tpl := ⟨[], [], [(.one, [.hole (.sl 2 tC)])]⟩
noncomputable def S_runs_groups_int (a0 : LI) : Option (LC × Unit) := Sof Tryz.prog annX plansX 159 i_runs_groups_int o_runs_groups_int (a0, ())
noncomputable def c_runs_groups_int : Ctr := ⟨159, i_runs_groups_int, o_runs_groups_int, fun d => S_runs_groups_int d.1⟩
theorem k_runs_groups_int : (c_runs_groups_int).ok Tryz.prog annX plansX := ctr_ok (tin := i_runs_groups_int) (tout := o_runs_groups_int)
def i_runs_Of : Tpl := ⟨[], [], [(.one, [.hole (.sl 1 tI)])]⟩
def o_runs_Of : Tpl := ⟨[], [], [(.one, [.hole (.sl 2 tC)])]⟩
noncomputable def S_runs_Of (a0 : LI) : Option (LC × Unit) := Sof Tryz.prog annX plansX 121 i_runs_Of o_runs_Of (a0, ())
noncomputable def c_runs_Of : Ctr := ⟨121, i_runs_Of, o_runs_Of, fun d => S_runs_Of d.1⟩
theorem k_runs_Of : (c_runs_Of).ok Tryz.prog annX plansX := ctr_ok (tin := i_runs_Of) (tout := o_runs_Of)
def i_runs_Put : Tpl := ⟨[.mu 5 1 tY], [], [(.one, [.own 0]), (.one, [.hole (.sl 1 tI)])]⟩
def o_runs_Put : Tpl := ⟨[.dead, .mu 5 1 tY], [], [(.one, [.own 1])]⟩
noncomputable def S_runs_Put (a0 : LB) (a1 : LI) : Option (LB × Unit) := Sof Tryz.prog annX plansX 66 i_runs_Put o_runs_Put (a0, (a1, ()))
noncomputable def c_runs_Put : Ctr := ⟨66, i_runs_Put, o_runs_Put, fun d => S_runs_Put d.1 d.2.1⟩
theorem k_runs_Put : (c_runs_Put).ok Tryz.prog annX plansX := ctr_ok (tin := i_runs_Put) (tout := o_runs_Put)
def i_lines_Put : Tpl := ⟨[.mu 5 1 tY], [], [(.one, [.own 0]), (.one, [.hole (.sl 1 tI)])]⟩
def o_lines_Put : Tpl := ⟨[.dead, .mu 5 1 tY], [], [(.one, [.own 1])]⟩
noncomputable def S_lines_Put (a0 : LB) (a1 : LI) : Option (LB × Unit) := Sof Tryz.prog annX plansX 64 i_lines_Put o_lines_Put (a0, (a1, ()))
noncomputable def c_lines_Put : Ctr := ⟨64, i_lines_Put, o_lines_Put, fun d => S_lines_Put d.1 d.2.1⟩
theorem k_lines_Put : (c_lines_Put).ok Tryz.prog annX plansX := ctr_ok (tin := i_lines_Put) (tout := o_lines_Put)
def i_tree_Put : Tpl := ⟨[.mu 5 1 tY], [], [(.one, [.own 0]), (.one, [.hole (.sl 7 tN)])]⟩
def o_tree_Put : Tpl := ⟨[.dead, .mu 5 1 tY], [], [(.one, [.own 1])]⟩
noncomputable def S_tree_Put (a0 : LB) (a1 : LN) : Option (LB × Unit) := Sof Tryz.prog annX plansX 67 i_tree_Put o_tree_Put (a0, (a1, ()))
noncomputable def c_tree_Put : Ctr := ⟨67, i_tree_Put, o_tree_Put, fun d => S_tree_Put d.1 d.2.1⟩
theorem k_tree_Put : (c_tree_Put).ok Tryz.prog annX plansX := ctr_ok (tin := i_tree_Put) (tout := o_tree_Put)
def i_maps_count : Tpl := ⟨[], [], [(.one, [.hole (.sl 4 tS)])]⟩
def o_maps_count : Tpl := ⟨[], [], [(.one, [.hole (.sl 5 (.pr tW (.pr tW (.pr tW (.pr tW tI)))))])]⟩
noncomputable def S_maps_count (a0 : LS) : Option ((List (Int × (Int × (Int × (Int × Int))))) × Unit) := Sof Tryz.prog annX plansX 120 i_maps_count o_maps_count (a0, ())
noncomputable def c_maps_count : Ctr := ⟨120, i_maps_count, o_maps_count, fun d => S_maps_count d.1⟩
theorem k_maps_count : (c_maps_count).ok Tryz.prog annX plansX := ctr_ok (tin := i_maps_count) (tout := o_maps_count)
def i_maps_Put : Tpl := ⟨[.mu 5 1 tY], [], [(.one, [.own 0]), (.one, [.hole (.sl 4 tS)])]⟩
def o_maps_Put : Tpl := ⟨[.dead, .mu 5 1 tY], [], [(.one, [.own 1])]⟩
noncomputable def S_maps_Put (a0 : LB) (a1 : LS) : Option (LB × Unit) := Sof Tryz.prog annX plansX 65 i_maps_Put o_maps_Put (a0, (a1, ()))
noncomputable def c_maps_Put : Ctr := ⟨65, i_maps_Put, o_maps_Put, fun d => S_maps_Put d.1 d.2.1⟩
theorem k_maps_Put : (c_maps_Put).ok Tryz.prog annX plansX := ctr_ok (tin := i_maps_Put) (tout := o_maps_Put)
def i_fnc_Put : Tpl := ⟨[.mu 5 1 tY], [], [(.one, [.own 0]), (.agg, [.hole .str, .hole .bool, .hole (.sl 1 tI), .hole (.sl 1 tI), .hole (.sl 1 tI), .hole (.sl 1 tI), .hole (.sl 2 tC), .hole (.sl 1 tI), .hole (.sl 7 tN), .hole (.sl 1 tI), .hole (.sl 4 tS)])]⟩
def o_fnc_Put : Tpl := ⟨[.dead, .mu 5 1 tY], [], [(.one, [.own 1])]⟩
noncomputable def S_fnc_Put (a0 : LB) (a1 : LB) (a2 : Bool) (a3 : LI) (a4 : LI) (a5 : LI) (a6 : LI) (a7 : LC) (a8 : LI) (a9 : LN) (a10 : LI) (a11 : LS) : Option (LB × Unit) := Sof Tryz.prog annX plansX 20 i_fnc_Put o_fnc_Put (a0, (a1, (a2, (a3, (a4, (a5, (a6, (a7, (a8, (a9, (a10, (a11, ()))))))))))))
noncomputable def c_fnc_Put : Ctr := ⟨20, i_fnc_Put, o_fnc_Put, fun d => S_fnc_Put d.1 d.2.1 d.2.2.1 d.2.2.2.1 d.2.2.2.2.1 d.2.2.2.2.2.1 d.2.2.2.2.2.2.1 d.2.2.2.2.2.2.2.1 d.2.2.2.2.2.2.2.2.1 d.2.2.2.2.2.2.2.2.2.1 d.2.2.2.2.2.2.2.2.2.2.1 d.2.2.2.2.2.2.2.2.2.2.2.1⟩
theorem k_fnc_Put : (c_fnc_Put).ok Tryz.prog annX plansX := ctr_ok (tin := i_fnc_Put) (tout := o_fnc_Put)
end Go.Proofs.YtkdnbnkbnegckaaGreat
namespace Go.Proofs.YtkdnbnkbnegckaaGreat
open Go.RowKit
set_option maxRecDepth 100000
set_option linter.unusedVariables false
noncomputable def M_ref11_May (N : Nat) (n_0 : Int) : Option (Bool × Unit) :=
 cnd (eqI n_0 1)
  (some (true, ()))
  (some ((eqI n_0 2), ()))
noncomputable def q_ref11_May : Lift := ⟨tyX, look2 .todo (α := LoopAs) (.o), [], bsX⟩
theorem u_ref11_May {N : Nat} {a0 : Int} {q : (Bool × Unit)} (h : M_ref11_May N a0 = some q) : S_ref11_May a0 = some q :=
 Sof_of (Q := q_ref11_May) (N := N) (n := 3) (f := 113) (tin := i_ref11_May) (tout := o_ref11_May) (d := (a0, ())) all0 bs_ok (by kernel_rfl) (by kernel_rfl) (by kernel_rfl) (Eq.trans (b := M_ref11_May N a0) (by kernel_rfl) h)

noncomputable def M_uvar_Put (N : Nat) (l_0 : LB) (n_1 : Int) : Option (LB × Unit) :=
 dY l_0 <| fun l1 =>
 qN (vnum (eY l_0)) <|
 iter (fun (d2 : (LB × (Int × Unit))) again3 =>
  cnd (leI 128 d2.2.1)
   (qN (vnum (eY d2.1)) <|
   chk (room (vnum (eY d2.1)) (vnum (vcut [[(C.v (Go.Value.int .u8 (bitI .or .u8 (wrp .u8 d2.2.1) 128)))]] 0 1)) 1) <|
   decL tY (vapp (eY d2.1) (vcut [[(C.v (Go.Value.int .u8 (bitI .or .u8 (wrp .u8 d2.2.1) 128)))]] 0 1)) <| fun l4 =>
   chk (eqN (addN (vnum (eY d2.1)) (vnum (vcut [[(C.v (Go.Value.int .u8 (bitI .or .u8 (wrp .u8 d2.2.1) 128)))]] 0 1))) (vnum (vapp (eY d2.1) (vcut [[(C.v (Go.Value.int .u8 (bitI .or .u8 (wrp .u8 d2.2.1) 128)))]] 0 1)))) <|
   again3 (l4, ((shrI .u64 d2.2.1 7), ())))
   (qN (vnum (eY d2.1)) <|
   chk (room (vnum (eY d2.1)) (vnum (vcut [[(C.v (Go.Value.int .u8 (wrp .u8 d2.2.1)))]] 0 1)) 1) <|
   decL tY (vapp (eY d2.1) (vcut [[(C.v (Go.Value.int .u8 (wrp .u8 d2.2.1)))]] 0 1)) <| fun l5 =>
   chk (eqN (addN (vnum (eY d2.1)) (vnum (vcut [[(C.v (Go.Value.int .u8 (wrp .u8 d2.2.1)))]] 0 1))) (vnum (vapp (eY d2.1) (vcut [[(C.v (Go.Value.int .u8 (wrp .u8 d2.2.1)))]] 0 1)))) <|
   some (l5, ()))) N (l1, (n_1, ()))
noncomputable def q_uvar_Put : Lift := ⟨tyX, look2 .todo (α := LoopAs) (.n 60 [(1, (.as ⟨[.dead, .mu 5 1 tY], [], (.one, [.own 1]) :: (.one, [.hole tW]) :: rp 18 (.one, [.junk]) ([])⟩)), (1020480, (.times 0))] .o .o), [], bsX⟩
theorem u_uvar_Put {N : Nat} {a0 : LB} {a1 : Int} {q : (LB × Unit)} (h : M_uvar_Put N a0 a1 = some q) : S_uvar_Put a0 a1 = some q :=
 Sof_of (Q := q_uvar_Put) (N := N) (n := 3) (f := 60) (tin := i_uvar_Put) (tout := o_uvar_Put) (d := (a0, (a1, ()))) all0 bs_ok (by kernel_rfl) (by kernel_rfl) (by kernel_rfl) (Eq.trans (b := M_uvar_Put N a0 a1) (by kernel_rfl) h)

noncomputable def M_fnc_flag (N : Nat) (l_0 : LB) (b_1 : Bool) (l_2 : LI) (l_3 : LI) (l_4 : LI) (l_5 : LI) (l_6 : LC) (l_7 : LI) (l_8 : LN) (l_9 : LI) (l_10 : LS) : Option (UInt8 × Unit) :=
 joinK (δ := (UInt8 × Unit)) (cnd b_1
   (qB (ByteArray.mk (Array.mk l_0)) <|
   qO b_1 <|
   qS (eI l_2) <|
   qS (eI l_3) <|
   qS (eI l_4) <|
   qS (eI l_5) <|
   qS (eC l_6) <|
   qS (eI l_7) <|
   qS (eN l_8) <|
   qS (eI l_9) <|
   qS (eS l_10) <|
   chk (inU8 (bitI .or .u8 0 1)) <|
   leftK ((toU8 (bitI .or .u8 0 1)), ()))
   (qB (ByteArray.mk (Array.mk l_0)) <|
   qO b_1 <|
   qS (eI l_2) <|
   qS (eI l_3) <|
   qS (eI l_4) <|
   qS (eI l_5) <|
   qS (eC l_6) <|
   qS (eI l_7) <|
   qS (eN l_8) <|
   qS (eI l_9) <|
   qS (eS l_10) <|
   leftK ((toU8 0), ())))
 <| fun p1 =>
 dI l_2 <| fun l2 =>
 dI l_3 <| fun l3 =>
 dI l_4 <| fun l4 =>
 dI l_5 <| fun l5 =>
 dC l_6 <| fun l6 =>
 dI l_7 <| fun l7 =>
 dN l_8 <| fun l8 =>
 dI l_9 <| fun l9 =>
 dS l_10 <| fun l10 =>
 bnd (S_fnc_Bare l_0 b_1 l2 l3 l4 l5 l6 l7 l8 l9 l10) <| fun p11 =>
 cnd (notB p11.1)
  (chk (inU8 (bitI .or .u8 (u8I p1.1) 2)) <|
  some ((toU8 (bitI .or .u8 (u8I p1.1) 2)), ()))
  (chk (inU8 (u8I p1.1)) <|
  some ((toU8 (u8I p1.1)), ()))
noncomputable def q_fnc_flag : Lift := ⟨tyX, look2 .todo (α := LoopAs) (.n 61 [(1016389, (.as ⟨[], [[.fix, .fix, .fix, .fix, .fix, .fix, .fix, .fix, .fix, .fix, .fix]], (.one, [.junk]) :: (.one, [.stat (.ptr 0 0)]) :: (.one, [.junk]) :: (.one, [.hole tY]) :: rp 10 (.one, [.junk]) ([])⟩))] .o .o), [c_fnc_Bare], bsX⟩
theorem u_fnc_flag {N : Nat} {a0 : LB} {a1 : Bool} {a2 : LI} {a3 : LI} {a4 : LI} {a5 : LI} {a6 : LC} {a7 : LI} {a8 : LN} {a9 : LI} {a10 : LS} {q : (UInt8 × Unit)} (h : M_fnc_flag N a0 a1 a2 a3 a4 a5 a6 a7 a8 a9 a10 = some q) : S_fnc_flag a0 a1 a2 a3 a4 a5 a6 a7 a8 a9 a10 = some q :=
 Sof_of (Q := q_fnc_flag) (N := N) (n := 3) (f := 61) (tin := i_fnc_flag) (tout := o_fnc_flag) (d := (a0, (a1, (a2, (a3, (a4, (a5, (a6, (a7, (a8, (a9, (a10, ())))))))))))) (all1 k_fnc_Bare all0) bs_ok (by kernel_rfl) (by kernel_rfl) (by kernel_rfl) (Eq.trans (b := M_fnc_flag N a0 a1 a2 a3 a4 a5 a6 a7 a8 a9 a10) (by kernel_rfl) h)

noncomputable def M_sig_Put (N : Nat) (l_0 : LB) (l_1 : LI) : Option (LB × Unit) :=
 dI l_1 <| fun l1 =>
 bnd (S_sig_Right l1 (vlen (eI l_1))) <| fun p2 =>
 cnd (notB p2.1)
  (dY l_0 <| fun l3 =>
  qN (vnum (eY l_0)) <|
  some (l3, ()))
  (dY l_0 <| fun l4 =>
  qN (vnum (eY l_0)) <|
  bnd (S_uvar_Put l4 (wrp .u64 (vlen (eI l_1)))) <| fun p5 =>
  dY p5.1 <| fun l6 =>
  qN (vnum (eY p5.1)) <|
  qS (eI l_1) <|
  qI (vlen (eI l_1)) <|
  iter (fun (d7 : (LB × (Int × Unit))) again8 =>
   cnd (ltI d7.2.1 (vlen (eI l_1)))
    (chk (leI 0 d7.2.1) <|
    getE tI (eI l_1) (natI d7.2.1) <| fun n9 =>
    qN (vnum (eY d7.1)) <|
    chk (room (vnum (eY d7.1)) (vnum (vcut [[(C.v (Go.Value.int .u8 (wrp .u8 n9)))]] 0 1)) 1) <|
    decL tY (vapp (eY d7.1) (vcut [[(C.v (Go.Value.int .u8 (wrp .u8 n9)))]] 0 1)) <| fun l10 =>
    chk (eqN (addN (vnum (eY d7.1)) (vnum (vcut [[(C.v (Go.Value.int .u8 (wrp .u8 n9)))]] 0 1))) (vnum (vapp (eY d7.1) (vcut [[(C.v (Go.Value.int .u8 (wrp .u8 n9)))]] 0 1)))) <|
    qS (eI l_1) <|
    qI (vlen (eI l_1)) <|
    again8 (l10, ((wrp .i64 (addI d7.2.1 1)), ())))
    (dY d7.1 <| fun l11 =>
    qN (vnum (eY d7.1)) <|
    some (l11, ()))) N (l6, (0, ())))
noncomputable def q_sig_Put : Lift := ⟨tyX, look2 .todo (α := LoopAs) (.n 62 [(5, (.as ⟨[.dead, .mu 5 1 tY], [], (.one, [.own 1]) :: rp 17 (.one, [.junk]) ((.one, [.fix]) :: (.one, [.fix]) :: (.one, [.hole tI]) :: rp 10 (.one, [.junk]) ([]))⟩)), (1012288, (.times 0)), (1040960, (.times 0))] .o .o), [c_sig_Right, c_uvar_Put], bsX⟩
theorem u_sig_Put {N : Nat} {a0 : LB} {a1 : LI} {q : (LB × Unit)} (h : M_sig_Put N a0 a1 = some q) : S_sig_Put a0 a1 = some q :=
 Sof_of (Q := q_sig_Put) (N := N) (n := 3) (f := 62) (tin := i_sig_Put) (tout := o_sig_Put) (d := (a0, (a1, ()))) (all1 k_sig_Right (all1 k_uvar_Put all0)) bs_ok (by kernel_rfl) (by kernel_rfl) (by kernel_rfl) (Eq.trans (b := M_sig_Put N a0 a1) (by kernel_rfl) h)

noncomputable def M_uvar_Fold (N : Nat) (n_0 : Int) : Option (Int × Unit) :=
 some ((bitI .xor .u64 (wrp .u64 (shlI .u64 (wrp .u64 n_0) 1)) (wrp .u64 (shrI .i64 n_0 63))), ())
noncomputable def q_uvar_Fold : Lift := ⟨tyX, look2 .todo (α := LoopAs) (.o), [], bsX⟩
theorem u_uvar_Fold {N : Nat} {a0 : Int} {q : (Int × Unit)} (h : M_uvar_Fold N a0 = some q) : S_uvar_Fold a0 = some q :=
 Sof_of (Q := q_uvar_Fold) (N := N) (n := 3) (f := 158) (tin := i_uvar_Fold) (tout := o_uvar_Fold) (d := (a0, ())) all0 bs_ok (by kernel_rfl) (by kernel_rfl) (by kernel_rfl) (Eq.trans (b := M_uvar_Fold N a0) (by kernel_rfl) h)
end Go.Proofs.YtkdnbnkbnegckaaGreat
