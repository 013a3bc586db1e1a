/- Functions, lifted: what the program comes to by them. All lifted functions. Whether a function can be laid: what the lifted functions come to, both ways. -/
import Derived.Test.YtkdnbnkbnegckaaGreatLp1
import Derived.Test.YtkdnbnkbnegckaaGreatLp2
namespace Go.Proofs.YtkdnbnkbnegckaaGreat
open Go.RowKit
set_option maxRecDepth 100000
set_option linter.unusedVariables false
noncomputable def M_fnc_Put (N : Nat) (l_0 : LB) (l_1 : LB) (b_2 : Bool) (l_3 : LI) (l_4 : LI) (l_5 : LI) (l_6 : LI) (l_7 : LC) (l_8 : LI) (l_9 : LN) (l_10 : LI) (l_11 : LS) : Option (LB × Unit) :=
 dI l_3 <| fun l1 =>
 dI l_4 <| fun l2 =>
 dI l_5 <| fun l3 =>
 dI l_6 <| fun l4 =>
 dC l_7 <| fun l5 =>
 dI l_8 <| fun l6 =>
 dN l_9 <| fun l7 =>
 dI l_10 <| fun l8 =>
 dS l_11 <| fun l9 =>
 bnd (S_fnc_Can l_1 b_2 l1 l2 l3 l4 l5 l6 l7 l8 l9) <| fun p10 =>
 cnd (notB (eqI p10.1 0))
  (dY l_0 <| fun l11 =>
  qN (vnum (eY l_0)) <|
  some (l11, ()))
  (dY l_0 <| fun l12 =>
  qN (vnum (eY l_0)) <|
  bnd (S_uvar_Put l12 (wrp .u64 (slen (ByteArray.mk (Array.mk l_1))))) <| fun p13 =>
  qN (vnum (eY p13.1)) <|
  chk (room (vnum (eY p13.1)) (vnum (encS (ByteArray.mk (Array.mk l_1)))) 1) <|
  dI l_3 <| fun l14 =>
  dI l_4 <| fun l15 =>
  dI l_5 <| fun l16 =>
  dI l_6 <| fun l17 =>
  dC l_7 <| fun l18 =>
  dI l_8 <| fun l19 =>
  dN l_9 <| fun l20 =>
  dI l_10 <| fun l21 =>
  dS l_11 <| fun l22 =>
  bnd (S_fnc_flag l_1 b_2 l14 l15 l16 l17 l18 l19 l20 l21 l22) <| fun p23 =>
  chk (eqN (addN (vnum (eY p13.1)) (vnum (encS (ByteArray.mk (Array.mk l_1))))) (vnum (vapp (eY p13.1) (encS (ByteArray.mk (Array.mk l_1)))))) <|
  chk (room (vnum (vapp (eY p13.1) (encS (ByteArray.mk (Array.mk l_1))))) (vnum (vcut [[(C.v (Go.Value.int .u8 (u8I p23.1)))]] 0 1)) 1) <|
  joinK (δ := (LB × Unit)) (cnd b_2
    (decL tY (vapp (vapp (eY p13.1) (encS (ByteArray.mk (Array.mk l_1)))) (vcut [[(C.v (Go.Value.int .u8 (u8I p23.1)))]] 0 1)) <| fun l24 =>
    chk (eqN (addN (vnum (vapp (eY p13.1) (encS (ByteArray.mk (Array.mk l_1))))) (vnum (vcut [[(C.v (Go.Value.int .u8 (u8I p23.1)))]] 0 1))) (vnum (vapp (vapp (eY p13.1) (encS (ByteArray.mk (Array.mk l_1)))) (vcut [[(C.v (Go.Value.int .u8 (u8I p23.1)))]] 0 1)))) <|
    dI l_3 <| fun l25 =>
    bnd (S_sig_Put l24 l25) <| fun p26 =>
    dY p26.1 <| fun l27 =>
    qB (ByteArray.mk (Array.mk l_1)) <|
    qO b_2 <|
    qS (eI l_3) <|
    qS (eI l_4) <|
    qS (eI l_5) <|
    qS (eI l_6) <|
    qS (eC l_7) <|
    qS (eI l_8) <|
    qS (eN l_9) <|
    qS (eI l_10) <|
    qS (eS l_11) <|
    qN (vnum (eY p26.1)) <|
    leftK (l27, ()))
    (decL tY (vapp (vapp (eY p13.1) (encS (ByteArray.mk (Array.mk l_1)))) (vcut [[(C.v (Go.Value.int .u8 (u8I p23.1)))]] 0 1)) <| fun l28 =>
    qB (ByteArray.mk (Array.mk l_1)) <|
    qO b_2 <|
    qS (eI l_3) <|
    qS (eI l_4) <|
    qS (eI l_5) <|
    qS (eI l_6) <|
    qS (eC l_7) <|
    qS (eI l_8) <|
    qS (eN l_9) <|
    qS (eI l_10) <|
    qS (eS l_11) <|
    chk (eqN (addN (vnum (vapp (eY p13.1) (encS (ByteArray.mk (Array.mk l_1))))) (vnum (vcut [[(C.v (Go.Value.int .u8 (u8I p23.1)))]] 0 1))) (vnum (vapp (vapp (eY p13.1) (encS (ByteArray.mk (Array.mk l_1)))) (vcut [[(C.v (Go.Value.int .u8 (u8I p23.1)))]] 0 1)))) <|
    leftK (l28, ())))
  <| fun p29 =>
  dY p29.1 <| fun l30 =>
  qN (vnum (eY p29.1)) <|
  dI l_4 <| fun l31 =>
  bnd (S_sig_Put l30 l31) <| fun p32 =>
  dY p32.1 <| fun l33 =>
  qN (vnum (eY p32.1)) <|
  dI l_5 <| fun l34 =>
  bnd (S_sig_Put l33 l34) <| fun p35 =>
  dY p35.1 <| fun l36 =>
  qN (vnum (eY p35.1)) <|
  dI l_6 <| fun l37 =>
  bnd (S_sig_Put l36 l37) <| fun p38 =>
  dY p38.1 <| fun l39 =>
  qN (vnum (eY p38.1)) <|
  bnd (S_uvar_Put l39 (wrp .u64 (vlen (eC l_7)))) <| fun p40 =>
  dY p40.1 <| fun l41 =>
  dI l_3 <| fun l42 =>
  dI l_4 <| fun l43 =>
  dI l_5 <| fun l44 =>
  dI l_6 <| fun l45 =>
  dC l_7 <| fun l46 =>
  dI l_8 <| fun l47 =>
  dN l_9 <| fun l48 =>
  dI l_10 <| fun l49 =>
  dS l_11 <| fun l50 =>
  qN (vnum (eY p40.1)) <|
  qS (eC l_7) <|
  qI (vlen (eC l_7)) <|
  iter (fun (d51 : (LB × (LB × (Bool × (LI × (LI × (LI × (LI × (LC × (LI × (LN × (LI × (LS × (Int × Unit)))))))))))))) again52 =>
   cnd (ltI d51.2.2.2.2.2.2.2.2.2.2.2.2.1 (vlen (eC l_7)))
    (chk (leI 0 d51.2.2.2.2.2.2.2.2.2.2.2.2.1) <|
    getE tC (eC l_7) (natI d51.2.2.2.2.2.2.2.2.2.2.2.2.1) <| fun p53 =>
    dY d51.1 <| fun l54 =>
    qN (vnum (eY d51.1)) <|
    bnd (S_instr_Put l54 p53.1 p53.2) <| fun p55 =>
    dY p55.1 <| fun l56 =>
    dI d51.2.2.2.1 <| fun l57 =>
    dI d51.2.2.2.2.1 <| fun l58 =>
    dI d51.2.2.2.2.2.1 <| fun l59 =>
    dI d51.2.2.2.2.2.2.1 <| fun l60 =>
    dC d51.2.2.2.2.2.2.2.1 <| fun l61 =>
    dI d51.2.2.2.2.2.2.2.2.1 <| fun l62 =>
    dN d51.2.2.2.2.2.2.2.2.2.1 <| fun l63 =>
    dI d51.2.2.2.2.2.2.2.2.2.2.1 <| fun l64 =>
    dS d51.2.2.2.2.2.2.2.2.2.2.2.1 <| fun l65 =>
    qN (vnum (eY p55.1)) <|
    qS (eC l_7) <|
    qI (vlen (eC l_7)) <|
    again52 (l56, (d51.2.1, (d51.2.2.1, (l57, (l58, (l59, (l60, (l61, (l62, (l63, (l64, (l65, ((wrp .i64 (addI d51.2.2.2.2.2.2.2.2.2.2.2.2.1 1)), ()))))))))))))))
    (dY d51.1 <| fun l66 =>
    qN (vnum (eY d51.1)) <|
    dI d51.2.2.2.2.2.2.2.2.1 <| fun l67 =>
    bnd (S_lines_Put l66 l67) <| fun p68 =>
    dI d51.2.2.2.1 <| fun l69 =>
    dI d51.2.2.2.2.1 <| fun l70 =>
    dI d51.2.2.2.2.2.1 <| fun l71 =>
    dI d51.2.2.2.2.2.2.1 <| fun l72 =>
    dC d51.2.2.2.2.2.2.2.1 <| fun l73 =>
    dI d51.2.2.2.2.2.2.2.2.1 <| fun l74 =>
    dN d51.2.2.2.2.2.2.2.2.2.1 <| fun l75 =>
    dI d51.2.2.2.2.2.2.2.2.2.2.1 <| fun l76 =>
    dS d51.2.2.2.2.2.2.2.2.2.2.2.1 <| fun l77 =>
    bnd (S_fnc_Bare d51.2.1 d51.2.2.1 l69 l70 l71 l72 l73 l74 l75 l76 l77) <| fun p78 =>
    cnd (notB p78.1)
     (dY p68.1 <| fun l79 =>
     qN (vnum (eY p68.1)) <|
     dN d51.2.2.2.2.2.2.2.2.2.1 <| fun l80 =>
     bnd (S_tree_Put l79 l80) <| fun p81 =>
     dY p81.1 <| fun l82 =>
     qN (vnum (eY p81.1)) <|
     dI d51.2.2.2.2.2.2.2.2.2.2.1 <| fun l83 =>
     bnd (S_runs_Put l82 l83) <| fun p84 =>
     dY p84.1 <| fun l85 =>
     qN (vnum (eY p84.1)) <|
     dS d51.2.2.2.2.2.2.2.2.2.2.2.1 <| fun l86 =>
     bnd (S_maps_Put l85 l86) <| fun p87 =>
     dY p87.1 <| fun l88 =>
     qN (vnum (eY p87.1)) <|
     some (l88, ()))
     (dY p68.1 <| fun l89 =>
     qN (vnum (eY p68.1)) <|
     some (l89, ())))) N (l41, (l_1, (b_2, (l42, (l43, (l44, (l45, (l46, (l47, (l48, (l49, (l50, (0, ()))))))))))))))
noncomputable def q_fnc_Put : Lift := ⟨tyX, look2 .todo (α := LoopAs) (.n 20 [(10, (.as ⟨[.dead, .mu 5 1 tY], [[.hole .str, .hole .bool, .hole (.sl 1 tI), .hole (.sl 1 tI), .hole (.sl 1 tI), .hole (.sl 1 tI), .hole (.sl 2 tC), .hole (.sl 1 tI), .hole (.sl 7 tN), .hole (.sl 1 tI), .hole (.sl 4 tS)]], (.one, [.own 1]) :: (.one, [.junk]) :: (.one, [.junk]) :: (.one, [.stat (.ptr 0 0)]) :: rp 44 (.one, [.junk]) ((.one, [.fix]) :: (.one, [.fix]) :: (.one, [.hole tI]) :: rp 25 (.one, [.junk]) ([]))⟩)), (1012288, (.times 0)), (1028680, (.as ⟨[.dead, .mu 5 1 tY], [[.fix, .fix, .fix, .fix, .fix, .fix, .fix, .fix, .fix, .fix, .fix]], (.one, [.own 1]) :: (.one, [.junk]) :: (.one, [.junk]) :: (.one, [.stat (.ptr 0 0)]) :: rp 72 (.one, [.junk]) ([])⟩)), (1073728, (.times 0))] .o .o), [c_fnc_Bare, c_fnc_Can, c_uvar_Put, c_fnc_flag, c_sig_Put, c_instr_Put, c_runs_Put, c_lines_Put, c_tree_Put, c_maps_Put], bsX⟩
theorem u_fnc_Put {N : Nat} {a0 : LB} {a1 : LB} {a2 : Bool} {a3 : LI} {a4 : LI} {a5 : LI} {a6 : LI} {a7 : LC} {a8 : LI} {a9 : LN} {a10 : LI} {a11 : LS} {q : (LB × Unit)} (h : M_fnc_Put N a0 a1 a2 a3 a4 a5 a6 a7 a8 a9 a10 a11 = some q) : S_fnc_Put a0 a1 a2 a3 a4 a5 a6 a7 a8 a9 a10 a11 = some q :=
 Sof_of (Q := q_fnc_Put) (N := N) (n := 3) (f := 20) (tin := i_fnc_Put) (tout := o_fnc_Put) (d := (a0, (a1, (a2, (a3, (a4, (a5, (a6, (a7, (a8, (a9, (a10, (a11, ()))))))))))))) (all1 k_fnc_Bare (all1 k_fnc_Can (all1 k_uvar_Put (all1 k_fnc_flag (all1 k_sig_Put (all1 k_instr_Put (all1 k_runs_Put (all1 k_lines_Put (all1 k_tree_Put (all1 k_maps_Put all0)))))))))) bs_ok (by kernel_rfl) (by kernel_rfl) (by kernel_rfl) (Eq.trans (b := M_fnc_Put N a0 a1 a2 a3 a4 a5 a6 a7 a8 a9 a10 a11) (by kernel_rfl) h)

end Go.Proofs.YtkdnbnkbnegckaaGreat

namespace Go.Proofs.YtkdnbnkbnegckaaGreat
open Go.RowKit
set_option maxRecDepth 8000
/-- A loop that goes on while all is well. -/
theorem iter_all {α β : Type} {l : List α} {p : α → Bool} {bad fin : Option β} {f : Int × Unit → (Int × Unit → Option β) → Option β} {N : Nat} (hN : l.length < N) (hl : l.length ≤ 1000000000000000000)
    (hf : ∀ (k : Nat) again, (hk : k < l.length) → f ((k : Int), ()) again = if p l[k] = true then again (wrp .i64 ((k : Int) + 1), ()) else bad) (he : ∀ again, f ((l.length : Int), ()) again = fin) : iter f N (0, ()) = if l.all p = true then fin else bad := by
  refine iter_to (fun d => l.length - d.1.toNat) (fun d => ∃ k : Nat, d = ((k : Int), ()) ∧ k ≤ l.length ∧ l.all p = (l.drop k).all p) ?_ _ _ ⟨0, rfl, Nat.zero_le _, rfl⟩ (by simpa using hN)
  rintro _ again ⟨k, rfl, hk, hr⟩ ih
  by_cases h : k < l.length
  · have hw : wrp .i64 ((k : Int) + 1) = (k : Int) + 1 := wi64 (by omega) (by omega)
    rw [hf k again h, hw]
    rw [List.drop_eq_getElem_cons h, List.all_cons] at hr
    cases hp : p l[k] with
    | true =>
      rw [hp] at hr
      exact (if_pos rfl).trans (ih _ ⟨k + 1, rfl, h, by simpa using hr⟩ (by simp; omega))
    | false =>
      rw [hp] at hr
      simp [hr]
  · have : k = l.length := by omega
    subst this
    rw [he, hr, List.drop_eq_nil_of_le (Nat.le_refl _)]
    simp
def typeB (t : Int) : Bool := decide (t = 1) || decide (t = 2)
@[simp] theorem sp_sigR1 {n : Int} : S_sig_Right_1 n = some (!typeB n, ()) := u_sig_Right_1 (N := 0) (by simp [M_sig_Right_1, typeB])
@[simp] theorem sp_rMay11 {n : Int} : S_ref11_May n = some (typeB n, ()) := u_ref11_May (N := 0) (by by_cases h : n = 1 <;> simp [M_ref11_May, typeB, h])
def sigB (l : List Int) (m : Int) : Bool := decide ((l.length : Int) ≤ m) && l.all typeB
theorem sp_sigRight {l : List Int} {m : Int} (hl : l.length ≤ 1000000000000000000) : S_sig_Right l m = some (sigB l m, ()) := by
  refine u_sig_Right (N := l.length + 1) ?_
  simp [M_sig_Right]
  by_cases h : (l.length : Int) ≤ m
  · rw [if_pos h]
    refine (iter_all (p := typeB) (bad := some (false, ())) (fin := some (true, ())) (by omega) hl ?_ ?_).trans ?_
    · intro k again hk
      simp [hk, bnd_get hk, cnd_b]
    · intro again
      simp
    · cases ha : l.all typeB <;> simp [sigB, h, ha]
  · simp [sigB, h]
def lineB (v : Int) : Bool := decide (0 ≤ v ∧ v ≤ 65535)
@[simp] theorem sp_linesR1 {n : Int} : S_lines_Right_1 n = some (!lineB n, ()) := u_lines_Right_1 (N := 0) (by
  by_cases h : n < 0
  · simp [M_lines_Right_1, lineB, h, show ¬0 ≤ n by omega]
  · by_cases h2 : 65535 < n
    · simp [M_lines_Right_1, lineB, h, h2, show ¬n ≤ 65535 by omega]
    · simp [M_lines_Right_1, lineB, h, h2, show 0 ≤ n by omega, show n ≤ 65535 by omega])
def linesB (l : List Int) : Bool := decide (l.length ≤ 2000) && l.all lineB
theorem sp_linesRight {l : List Int} (hl : l.length ≤ 1000000000000000000) : S_lines_Right l = some (linesB l, ()) := by
  refine u_lines_Right (N := l.length + 1) ?_
  simp [M_lines_Right]
  by_cases h : (l.length : Int) ≤ 2000
  · rw [if_pos h]
    refine (iter_all (p := lineB) (bad := some (false, ())) (fin := some (true, ())) (by omega) hl ?_ ?_).trans ?_
    · intro k again hk
      simp [hk, bnd_get hk, cnd_b]
    · intro again
      simp
    · cases ha : l.all lineB <;> simp [linesB, show l.length ≤ 2000 by omega, ha]
  · simp [linesB, h, show ¬l.length ≤ 2000 by omega]
def mapsB (l : List St) (n : Nat) : Bool := decide (l.length ≤ 2000) && l.all fun s => belowB s n
theorem sp_mapsRight {l : List St} {n : Nat} (hl : l.length ≤ 1000000000000000000) (hn : n ≤ 256) : S_maps_Right l n = some (mapsB l n, ()) := by
  refine u_maps_Right (N := l.length + 1) ?_
  simp [M_maps_Right]
  refine (iter_all (p := fun s => belowB s n) (bad := some (false, ())) (fin := some (decide ((l.length : Int) ≤ 2000), ())) (by omega) hl ?_ ?_).trans ?_
  · intro k again hk
    simp [hk, bnd_get hk, cnd_b, sp_below hn]
  · intro again
    simp
  · cases ha : l.all fun s => belowB s n <;> simp [mapsB, show (l.length : Int) ≤ 2000 ↔ l.length ≤ 2000 by omega, ha]
def bareB (nodes : List Nd) (at' : List Int) (live : List St) : Bool := decide (nodes.length = 0 ∧ at'.length = 0 ∧ live.length = 0)
section
variable {name : List UInt8} {inner : Bool} {outer params results locals lines at' : List Int} {code : List (Int × Int)} {nodes : List Nd} {live : List St}
@[simp] theorem sp_Bare : S_fnc_Bare name inner outer params results locals code lines nodes at' live = some (bareB nodes at' live, ()) := u_fnc_Bare (N := 0) (by
  by_cases h1 : nodes.length = 0 <;> by_cases h2 : at'.length = 0 <;> simp [M_fnc_Bare, bareB, h1, h2, show ∀ n : Nat, (n : Int) = 0 ↔ n = 0 from fun n => by omega])
/-- A place's node. -/
def atB (n : Nat) (v : Int) : Bool := decide (0 ≤ v ∧ v < n)
def tablesB (code : List (Int × Int)) (nodes : List Nd) (at' : List Int) (live : List St) (k : Nat) : Bool :=
  bareB nodes at' live || (rightT nodes && decide (at'.length = code.length) && decide (live.length = code.length) && at'.all (atB nodes.length) && mapsB live k)
@[simp] theorem sp_tables1 {n : Int} : S_fnc_tables_1 name inner outer params results locals code lines nodes at' live n = some (name, inner, outer, params, results, locals, code, lines, nodes, at', live, !atB nodes.length n, ()) := u_fnc_tables_1 (N := 0) (by
  by_cases h : n < 0
  · simp [M_fnc_tables_1, atB, h, show ¬0 ≤ n by omega]
  · by_cases h2 : (nodes.length : Int) ≤ n
    · simp [M_fnc_tables_1, atB, h, h2, show ¬n < nodes.length by omega]
    · simp [M_fnc_tables_1, atB, h, h2, show 0 ≤ n by omega, show n < nodes.length by omega])
theorem sp_indexT {l : List Int} (hl : l.length ≤ 1000000000000000000) : ∃ r, S_slices_IndexFunc_int_int_t name inner outer params results locals code lines nodes at' live l = some (name, inner, outer, params, results, locals, code, lines, nodes, at', live, r, ()) ∧ (decide (0 ≤ r) = !l.all (atB nodes.length)) := by
  suffices h : ∃ r, M_slices_IndexFunc_int_int_t (l.length + 1) name inner outer params results locals code lines nodes at' live l = some (name, inner, outer, params, results, locals, code, lines, nodes, at', live, r, ()) ∧ (decide (0 ≤ r) = !l.all (atB nodes.length)) by
    obtain ⟨r, h1, h2⟩ := h
    exact ⟨r, u_slices_IndexFunc_int_int_t h1, h2⟩
  simp [M_slices_IndexFunc_int_int_t]
  refine iter_ex (R := fun o => ∃ r, o = some (name, inner, outer, params, results, locals, code, lines, nodes, at', live, r, ()) ∧ (decide (0 ≤ r) = !l.all (atB nodes.length))) (fun d => l.length - d.2.2.2.2.2.2.2.2.2.2.2.1.toNat) (fun d => ∃ k : Nat, d = (name, inner, outer, params, results, locals, code, lines, nodes, at', live, (k : Int), ()) ∧ k ≤ l.length ∧ l.all (atB nodes.length) = (l.drop k).all (atB nodes.length)) ?_ _ _ ⟨0, rfl, Nat.zero_le _, rfl⟩ (by simp)
  rintro _ again ⟨k, rfl, hk, hr⟩ ih
  by_cases h : k < l.length
  · have hw : wrp .i64 ((k : Int) + 1) = (k : Int) + 1 := wi64 (by omega) (by omega)
    rw [List.drop_eq_getElem_cons h, List.all_cons] at hr
    cases hp : atB nodes.length l[k] with
    | true =>
      rw [hp] at hr
      have := ih (name, inner, outer, params, results, locals, code, lines, nodes, at', live, (k : Int) + 1, ()) ⟨k + 1, rfl, h, by simpa using hr⟩ (by simp; omega)
      simpa [h, bnd_get h, cnd_b, hp, hw] using this
    | false =>
      rw [hp] at hr
      exact ⟨k, by simp [h, bnd_get h, cnd_b, hp], by simp [hr]⟩
  · have : k = l.length := by omega
    subst this
    exact ⟨-1, by simp, by simp [hr]⟩
theorem sp_containsT {l : List Int} (hl : l.length ≤ 1000000000000000000) : S_slices_ContainsFunc_int_int_t name inner outer params results locals code lines nodes at' live l = some (name, inner, outer, params, results, locals, code, lines, nodes, at', live, !l.all (atB nodes.length), ()) := by
  obtain ⟨r, h1, h2⟩ := sp_indexT (name := name) (inner := inner) (outer := outer) (params := params) (results := results) (locals := locals) (lines := lines) (at' := at') (code := code) (nodes := nodes) (live := live) hl
  exact u_slices_ContainsFunc_int_int_t (N := 0) (by simp [M_slices_ContainsFunc_int_int_t, h1, h2])
/-- Lists are no longer than there is room for. -/
def LenF (outer params results locals : List Int) (code : List (Int × Int)) (lines : List Int) (nodes : List Nd) (at' : List Int) (live : List St) : Prop :=
  outer.length ≤ 1000000000 ∧ params.length ≤ 1000000000 ∧ results.length ≤ 1000000000 ∧ locals.length ≤ 1000000000 ∧ code.length ≤ 1000000000 ∧ lines.length ≤ 1000000000 ∧ nodes.length ≤ 1000000000 ∧ at'.length ≤ 1000000000 ∧ live.length ≤ 1000000000
theorem sp_tables (hp : params.length + results.length + locals.length ≤ 256) (h7 : nodes.length ≤ 1000000) (h8 : at'.length ≤ 1000000000) (h9 : live.length ≤ 1000000000) :
    S_fnc_tables name inner outer params results locals code lines nodes at' live = some (tablesB code nodes at' live (params.length + results.length + locals.length), ()) := by
  refine u_fnc_tables (N := 0) ?_
  have hM := sp_mapsRight (l := live) (n := params.length + results.length + locals.length) (by omega) hp
  have hc : ((params.length + results.length + locals.length : Nat) : Int) = (params.length : Int) + results.length + locals.length := by omega
  rw [hc] at hM
  simp [M_fnc_tables, tablesB, sp_tRight h7, sp_containsT (l := at') (by omega), sp_many (c := outer) (d := params) (e := results) (f := locals) (by omega) (by omega) (by omega), hM, show ∀ a b : Nat, (a : Int) = b ↔ a = b from fun a b => by omega]
  cases bareB nodes at' live <;> cases rightT nodes <;> by_cases e1 : at'.length = code.length <;> by_cases e2 : live.length = code.length <;> cases ha : at'.all (atB nodes.length) <;> simp [e1, e2, cnd_b, ha]
def typesB (inner : Bool) (outer params results locals : List Int) : Bool := sigB params 8 && sigB results 4 && sigB locals 256 && sigB outer 4 && (inner || decide (outer.length = 0))
theorem typesB_len {inner : Bool} {outer params results locals : List Int} (h : typesB inner outer params results locals = true) : params.length ≤ 8 ∧ results.length ≤ 4 ∧ locals.length ≤ 256 ∧ outer.length ≤ 4 := by
  simp only [typesB, sigB, Bool.and_eq_true, decide_eq_true_eq] at h
  omega
theorem sp_types (h1 : outer.length ≤ 1000000000) (h2 : params.length ≤ 1000000000) (h3 : results.length ≤ 1000000000) (h4 : locals.length ≤ 1000000000) : S_fnc_types name inner outer params results locals code lines nodes at' live = some (typesB inner outer params results locals, ()) := by
  refine u_fnc_types (N := 0) ?_
  simp [M_fnc_types, typesB, sp_sigRight (l := outer) (by omega), sp_sigRight (l := params) (by omega), sp_sigRight (l := results) (by omega), sp_sigRight (l := locals) (by omega)]
  cases sigB params 8 <;> cases sigB results 4 <;> cases sigB locals 256 <;> cases sigB outer 4 <;> cases inner <;> simp [show ((outer.length : Int) = 0) ↔ outer.length = 0 by omega]
/-- Why a function can't be laid. -/
def canE (name : List UInt8) (inner : Bool) (outer params results locals : List Int) (code : List (Int × Int)) (lines : List Int) (nodes : List Nd) (at' : List Int) (live : List St) : Int :=
  if mayB name = false then 7 else if typesB inner outer params results locals = false then 9 else
  if 256 < params.length + results.length + locals.length ∨ code.length < 1 ∨ 2000 < code.length then 6 else
  if code.all (fun p => rightN p.1 p.2) = false then 8 else if lines.length ≠ code.length ∨ linesB lines = false then 19 else
  if tablesB code nodes at' live (params.length + results.length + locals.length) = false then 14 else 0
@[simp] theorem sp_Can1 {a b : Int} : S_fnc_Can_1 a b = some (!rightN a b, ()) := u_fnc_Can_1 (N := 0) (by simp [M_fnc_Can_1, sp_iRight])
theorem sp_Can (hn : Len name) (h : LenF outer params results locals code lines nodes at' live) (h7 : nodes.length ≤ 1000000) : S_fnc_Can name inner outer params results locals code lines nodes at' live = some (canE name inner outer params results locals code lines nodes at' live, ()) := by
  obtain ⟨g1, g2, g3, g4, g5, g6, g7, g8, g9⟩ := h
  refine u_fnc_Can (N := code.length + 1) ?_
  unfold canE
  simp [M_fnc_Can, sp_May hn, sp_types g1 g2 g3 g4]
  cases h1 : mayB name with
  | false => simp
  | true =>
    cases h2 : typesB inner outer params results locals with
    | false => simp
    | true =>
      obtain ⟨b1, b2, b3, b4⟩ := typesB_len h2
      simp [sp_many (a := name) (b := inner) (c := outer) (d := params) (e := results) (f := locals) (g := code) (h := lines) (i := nodes) (j := at') (k := live) (by omega) (by omega) (by omega)]
      by_cases h3 : 256 < params.length + results.length + locals.length
      · simp [h3, show (256 : Int) < (params.length : Int) + results.length + locals.length by omega]
      · simp only [h3, show ¬(256 : Int) < (params.length : Int) + results.length + locals.length by omega, if_false, false_or]
        by_cases h4 : code.length < 1
        · simp [show code = [] from List.eq_nil_of_length_eq_zero (by omega)]
        · have hc : code ≠ [] := fun e => by subst e; simp at h4
          by_cases h5 : 2000 < code.length
          · simp [hc, h5, show ¬(code.length : Int) < 1 by omega, show (2000 : Int) < code.length by omega]
          · simp [hc, h5, show ¬(code.length : Int) < 1 by omega, show ¬(2000 : Int) < code.length by omega]
            refine (iter_all (l := code) (p := fun p => rightN p.1 p.2) (bad := some (8, ())) (fin := some (if ¬lines.length = code.length ∨ linesB lines = false then 19 else if tablesB code nodes at' live (params.length + results.length + locals.length) = false then 14 else 0, ())) (by omega) (by omega) ?_ ?_).trans ?_
            · intro k again hk
              simp [hk, bnd_get hk, cnd_b]
            · intro again
              have e6 : ((lines.length : Int) = code.length) ↔ lines.length = code.length := by omega
              simp [e6, sp_linesRight (l := lines) (by omega), sp_tables (name := name) (inner := inner) (outer := outer) (lines := lines) (code := code) (show params.length + results.length + locals.length ≤ 256 by omega) h7 g8 g9]
              by_cases h6 : lines.length = code.length <;> cases h7 : linesB lines <;> cases h8 : tablesB code nodes at' live (params.length + results.length + locals.length) <;> simp [h6]
            · cases ha : code.all fun p => rightN p.1 p.2 <;> simp
end
end Go.Proofs.YtkdnbnkbnegckaaGreat
