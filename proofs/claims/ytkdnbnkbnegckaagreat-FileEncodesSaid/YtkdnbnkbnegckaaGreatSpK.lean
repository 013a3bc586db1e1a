/- Whether a function can be laid: what the lifted functions come to, both ways. -/
import Derived.Test.YtkdnbnkbnegckaaGreatLpA
import Derived.Test.YtkdnbnkbnegckaaGreatLp
namespace Go.Proofs.YtkdnbnkbnegckaaGreat
open Go.RowKit
set_option maxRecDepth 8000
/-- A loop that goes on while all is well. -/
theorem iter_all {α β : Type} {l : List α} {p : α → Bool} {bad fin : Option β} {f : Int × Unit → (Int × Unit → Option β) → Option β} {N : Nat} (hN : l.length < N) (hl : l.length ≤ 1000000000000000000)
    (hf : ∀ (k : Nat) again, (hk : k < l.length) → f ((k : Int), ()) again = if p l[k] = true then again (wrp .i64 ((k : Int) + 1), ()) else bad) (he : ∀ again, f ((l.length : Int), ()) again = fin) : iter f N (0, ()) = if l.all p = true then fin else bad := by
  refine iter_to (fun d => l.length - d.1.toNat) (fun d => ∃ k : Nat, d = ((k : Int), ()) ∧ k ≤ l.length ∧ l.all p = (l.drop k).all p) ?_ _ _ ⟨0, rfl, Nat.zero_le _, rfl⟩ (by simpa using hN)
  rintro _ again ⟨k, rfl, hk, hr⟩ ih
  by_cases h : k < l.length
  · have hw : wrp .i64 ((k : Int) + 1) = (k : Int) + 1 := wi64 (by omega) (by omega)
    rw [hf k again h, hw]
    rw [List.drop_eq_getElem_cons h, List.all_cons] at hr
    cases hp : p l[k] with
    | true =>
      rw [hp] at hr
      exact (if_pos rfl).trans (ih _ ⟨k + 1, rfl, h, by simpa using hr⟩ (by simp; omega))
    | false =>
      rw [hp] at hr
      simp [hr]
  · have : k = l.length := by omega
    subst this
    rw [he, hr, List.drop_eq_nil_of_le (Nat.le_refl _)]
    simp
def typeB (t : Int) : Bool := decide (t = 1) || decide (t = 2)
@[simp] theorem sp_sigR1 {n : Int} : S_sig_Right_1 n = some (!typeB n, ()) := u_sig_Right_1 (N := 0) (by simp [M_sig_Right_1, typeB])
@[simp] theorem sp_rMay11 {n : Int} : S_ref11_May n = some (typeB n, ()) := u_ref11_May (N := 0) (by by_cases h : n = 1 <;> simp [M_ref11_May, typeB, h])
def sigB (l : List Int) (m : Int) : Bool := decide ((l.length : Int) ≤ m) && l.all typeB
theorem sp_sigRight {l : List Int} {m : Int} (hl : l.length ≤ 1000000000000000000) : S_sig_Right l m = some (sigB l m, ()) := by
  refine u_sig_Right (N := l.length + 1) ?_
  simp [M_sig_Right]
  by_cases h : (l.length : Int) ≤ m
  · rw [if_pos h]
    refine (iter_all (p := typeB) (bad := some (false, ())) (fin := some (true, ())) (by omega) hl ?_ ?_).trans ?_
    · intro k again hk
      simp [hk, bnd_get hk, cnd_b]
    · intro again
      simp
    · cases ha : l.all typeB <;> simp [sigB, h, ha]
  · simp [sigB, h]
theorem sp_rRight11 {l : List Int} {m : Int} (hl : l.length ≤ 1000000000000000000) : S_ref11_Right l m = some (sigB l m, ()) := by
  refine u_ref11_Right (N := l.length + 1) ?_
  simp [M_ref11_Right]
  refine (iter_all (p := typeB) (bad := some (false, ())) (fin := some (decide ((l.length : Int) ≤ m), ())) (by omega) hl ?_ ?_).trans ?_
  · intro k again hk
    simp [hk, bnd_get hk, cnd_b]
  · intro again
    simp
  · cases ha : l.all typeB <;> simp [sigB, ha]
def lineB (v : Int) : Bool := decide (0 ≤ v ∧ v ≤ 65535)
@[simp] theorem sp_linesR1 {n : Int} : S_lines_Right_1 n = some (!lineB n, ()) := u_lines_Right_1 (N := 0) (by
  by_cases h : n < 0
  · simp [M_lines_Right_1, lineB, h, show ¬0 ≤ n by omega]
  · by_cases h2 : 65535 < n
    · simp [M_lines_Right_1, lineB, h, h2, show ¬n ≤ 65535 by omega]
    · simp [M_lines_Right_1, lineB, h, h2, show 0 ≤ n by omega, show n ≤ 65535 by omega])
def linesB (l : List Int) : Bool := decide (l.length ≤ 2000) && l.all lineB
theorem sp_linesRight {l : List Int} (hl : l.length ≤ 1000000000000000000) : S_lines_Right l = some (linesB l, ()) := by
  refine u_lines_Right (N := l.length + 1) ?_
  simp [M_lines_Right]
  by_cases h : (l.length : Int) ≤ 2000
  · rw [if_pos h]
    refine (iter_all (p := lineB) (bad := some (false, ())) (fin := some (true, ())) (by omega) hl ?_ ?_).trans ?_
    · intro k again hk
      simp [hk, bnd_get hk, cnd_b]
    · intro again
      simp
    · cases ha : l.all lineB <;> simp [linesB, show l.length ≤ 2000 by omega, ha]
  · simp [linesB, h, show ¬l.length ≤ 2000 by omega]
theorem sp_rRight12 {l : List Int} (hl : l.length ≤ 1000000000000000000) : S_ref12_Right l = some (linesB l, ()) := by
  refine u_ref12_Right (N := l.length + 1) ?_
  simp [M_ref12_Right]
  refine (iter_all (p := lineB) (bad := some (false, ())) (fin := some (decide ((l.length : Int) ≤ 2000), ())) (by omega) hl ?_ ?_).trans ?_
  · intro k again hk
    by_cases h1 : l[k] < 0
    · simp [hk, bnd_get hk, lineB, h1, show ¬0 ≤ l[k] by omega]
    · by_cases h2 : 65535 < l[k]
      · simp [hk, bnd_get hk, lineB, h1, h2, show ¬l[k] ≤ 65535 by omega]
      · simp [hk, bnd_get hk, lineB, h1, h2, show 0 ≤ l[k] by omega, show l[k] ≤ 65535 by omega]
  · intro again
    simp
  · cases ha : l.all lineB <;> simp [linesB, show (l.length : Int) ≤ 2000 ↔ l.length ≤ 2000 by omega, ha]
def mapsB (l : List St) (n : Nat) : Bool := decide (l.length ≤ 2000) && l.all fun s => belowB s n
theorem sp_mapsRight {l : List St} {n : Nat} (hl : l.length ≤ 1000000000000000000) (hn : n ≤ 256) : S_maps_Right l n = some (mapsB l n, ()) := by
  refine u_maps_Right (N := l.length + 1) ?_
  simp [M_maps_Right]
  refine (iter_all (p := fun s => belowB s n) (bad := some (false, ())) (fin := some (decide ((l.length : Int) ≤ 2000), ())) (by omega) hl ?_ ?_).trans ?_
  · intro k again hk
    simp [hk, bnd_get hk, cnd_b, sp_below hn]
  · intro again
    simp
  · cases ha : l.all fun s => belowB s n <;> simp [mapsB, show (l.length : Int) ≤ 2000 ↔ l.length ≤ 2000 by omega, ha]
theorem sp_rRight14 {l : List St} {n : Nat} (hl : l.length ≤ 1000000000000000000) (hn : n ≤ 256) : S_ref14_Right l n = some (mapsB l n, ()) := by
  refine u_ref14_Right (N := l.length + 1) ?_
  simp [M_ref14_Right]
  refine (iter_all (p := fun s => belowB s n) (bad := some (false, ())) (fin := some (decide ((l.length : Int) ≤ 2000), ())) (by omega) hl ?_ ?_).trans ?_
  · intro k again hk
    obtain ⟨a, b, c, d, e⟩ : ∃ a b c d, l[k] = (a, (b, (c, d))) := ⟨_, _, _, _, rfl⟩
    simp [hk, bnd_get hk, cnd_b, sp_rrange hn, sp_rinside, belowB, e]
  · intro again
    simp
  · cases ha : l.all fun s => belowB s n <;> simp [mapsB, show (l.length : Int) ≤ 2000 ↔ l.length ≤ 2000 by omega, ha]
def bareB (nodes : List Nd) (at' : List Int) (live : List St) : Bool := decide (nodes.length = 0 ∧ at'.length = 0 ∧ live.length = 0)
section
variable {name : List UInt8} {inner : Bool} {outer params results locals lines at' : List Int} {code : List (Int × Int)} {nodes : List Nd} {live : List St}
@[simp] theorem sp_Bare : S_fnc_Bare name inner outer params results locals code lines nodes at' live = some (bareB nodes at' live, ()) := u_fnc_Bare (N := 0) (by
  by_cases h1 : nodes.length = 0 <;> by_cases h2 : at'.length = 0 <;> simp [M_fnc_Bare, bareB, h1, h2, show ∀ n : Nat, (n : Int) = 0 ↔ n = 0 from fun n => by omega])
theorem sp_rBare (h1 : nodes.length ≤ 1000000000000) (h2 : at'.length ≤ 1000000000000) (h3 : live.length ≤ 1000000000000) : S_ref15_Bare name inner outer params results locals code lines nodes at' live = some (bareB nodes at' live, ()) := u_ref15_Bare (N := 0) (by
  simp [M_ref15_Bare]
  rw [wi64 (n := (nodes.length : Int) + at'.length) (by omega) (by omega), wi64 (n := (nodes.length : Int) + at'.length + live.length) (by omega) (by omega), Bool.eq_iff_iff]
  unfold bareB
  simp only [decide_eq_true_eq]
  omega)
/-- A place's node. -/
def atB (n : Nat) (v : Int) : Bool := decide (0 ≤ v ∧ v < n)
def tablesB (code : List (Int × Int)) (nodes : List Nd) (at' : List Int) (live : List St) (k : Nat) : Bool :=
  bareB nodes at' live || (rightT nodes && decide (at'.length = code.length) && decide (live.length = code.length) && at'.all (atB nodes.length) && mapsB live k)
@[simp] theorem sp_tables1 {n : Int} : S_fnc_tables_1 name inner outer params results locals code lines nodes at' live n = some (name, inner, outer, params, results, locals, code, lines, nodes, at', live, !atB nodes.length n, ()) := u_fnc_tables_1 (N := 0) (by
  by_cases h : n < 0
  · simp [M_fnc_tables_1, atB, h, show ¬0 ≤ n by omega]
  · by_cases h2 : (nodes.length : Int) ≤ n
    · simp [M_fnc_tables_1, atB, h, h2, show ¬n < nodes.length by omega]
    · simp [M_fnc_tables_1, atB, h, h2, show 0 ≤ n by omega, show n < nodes.length by omega])
theorem sp_indexT {l : List Int} (hl : l.length ≤ 1000000000000000000) : ∃ r, S_slices_IndexFunc_int_int_t name inner outer params results locals code lines nodes at' live l = some (name, inner, outer, params, results, locals, code, lines, nodes, at', live, r, ()) ∧ (decide (0 ≤ r) = !l.all (atB nodes.length)) := by
  suffices h : ∃ r, M_slices_IndexFunc_int_int_t (l.length + 1) name inner outer params results locals code lines nodes at' live l = some (name, inner, outer, params, results, locals, code, lines, nodes, at', live, r, ()) ∧ (decide (0 ≤ r) = !l.all (atB nodes.length)) by
    obtain ⟨r, h1, h2⟩ := h
    exact ⟨r, u_slices_IndexFunc_int_int_t h1, h2⟩
  simp [M_slices_IndexFunc_int_int_t]
  refine iter_ex (R := fun o => ∃ r, o = some (name, inner, outer, params, results, locals, code, lines, nodes, at', live, r, ()) ∧ (decide (0 ≤ r) = !l.all (atB nodes.length))) (fun d => l.length - d.2.2.2.2.2.2.2.2.2.2.2.1.toNat) (fun d => ∃ k : Nat, d = (name, inner, outer, params, results, locals, code, lines, nodes, at', live, (k : Int), ()) ∧ k ≤ l.length ∧ l.all (atB nodes.length) = (l.drop k).all (atB nodes.length)) ?_ _ _ ⟨0, rfl, Nat.zero_le _, rfl⟩ (by simp)
  rintro _ again ⟨k, rfl, hk, hr⟩ ih
  by_cases h : k < l.length
  · have hw : wrp .i64 ((k : Int) + 1) = (k : Int) + 1 := wi64 (by omega) (by omega)
    rw [List.drop_eq_getElem_cons h, List.all_cons] at hr
    cases hp : atB nodes.length l[k] with
    | true =>
      rw [hp] at hr
      have := ih (name, inner, outer, params, results, locals, code, lines, nodes, at', live, (k : Int) + 1, ()) ⟨k + 1, rfl, h, by simpa using hr⟩ (by simp; omega)
      simpa [h, bnd_get h, cnd_b, hp, hw] using this
    | false =>
      rw [hp] at hr
      exact ⟨k, by simp [h, bnd_get h, cnd_b, hp], by simp [hr]⟩
  · have : k = l.length := by omega
    subst this
    exact ⟨-1, by simp, by simp [hr]⟩
theorem sp_containsT {l : List Int} (hl : l.length ≤ 1000000000000000000) : S_slices_ContainsFunc_int_int_t name inner outer params results locals code lines nodes at' live l = some (name, inner, outer, params, results, locals, code, lines, nodes, at', live, !l.all (atB nodes.length), ()) := by
  obtain ⟨r, h1, h2⟩ := sp_indexT (name := name) (inner := inner) (outer := outer) (params := params) (results := results) (locals := locals) (lines := lines) (at' := at') (code := code) (nodes := nodes) (live := live) hl
  exact u_slices_ContainsFunc_int_int_t (N := 0) (by simp [M_slices_ContainsFunc_int_int_t, h1, h2])
/-- Lists are no longer than there is room for. -/
def LenF (outer params results locals : List Int) (code : List (Int × Int)) (lines : List Int) (nodes : List Nd) (at' : List Int) (live : List St) : Prop :=
  outer.length ≤ 1000000000 ∧ params.length ≤ 1000000000 ∧ results.length ≤ 1000000000 ∧ locals.length ≤ 1000000000 ∧ code.length ≤ 1000000000 ∧ lines.length ≤ 1000000000 ∧ nodes.length ≤ 1000000000 ∧ at'.length ≤ 1000000000 ∧ live.length ≤ 1000000000
theorem sp_tables (hp : params.length + results.length + locals.length ≤ 256) (h7 : nodes.length ≤ 1000000) (h8 : at'.length ≤ 1000000000) (h9 : live.length ≤ 1000000000) :
    S_fnc_tables name inner outer params results locals code lines nodes at' live = some (tablesB code nodes at' live (params.length + results.length + locals.length), ()) := by
  refine u_fnc_tables (N := 0) ?_
  have hM := sp_mapsRight (l := live) (n := params.length + results.length + locals.length) (by omega) hp
  have hc : ((params.length + results.length + locals.length : Nat) : Int) = (params.length : Int) + results.length + locals.length := by omega
  rw [hc] at hM
  simp [M_fnc_tables, tablesB, sp_tRight h7, sp_containsT (l := at') (by omega), sp_many (c := outer) (d := params) (e := results) (f := locals) (by omega) (by omega) (by omega), hM, show ∀ a b : Nat, (a : Int) = b ↔ a = b from fun a b => by omega]
  cases bareB nodes at' live <;> cases rightT nodes <;> by_cases e1 : at'.length = code.length <;> by_cases e2 : live.length = code.length <;> cases ha : at'.all (atB nodes.length) <;> simp [e1, e2, cnd_b, ha]
theorem sp_rtables (hp : params.length + results.length + locals.length ≤ 256) (h7 : nodes.length ≤ 1000000000) (h8 : at'.length ≤ 1000000000) (h9 : live.length ≤ 1000000000) :
    S_ref15_tables name inner outer params results locals code lines nodes at' live (params.length + results.length + locals.length) = some (tablesB code nodes at' live (params.length + results.length + locals.length), ()) := by
  refine u_ref15_tables (N := at'.length + 1) ?_
  have hM := sp_rRight14 (l := live) (n := params.length + results.length + locals.length) (by omega) hp
  have hc : ((params.length + results.length + locals.length : Nat) : Int) = (params.length : Int) + results.length + locals.length := by omega
  rw [hc] at hM
  simp [M_ref15_tables, tablesB, sp_rRight13, sp_rBare (nodes := nodes) (at' := at') (live := live) (by omega) (by omega) (by omega), hM, show ∀ a b : Nat, (a : Int) = b ↔ a = b from fun a b => by omega]
  cases hb : bareB nodes at' live with
  | true => simp [cnd_b]
  | false =>
    cases hr : rightT nodes with
    | false => simp [cnd_b]
    | true =>
      by_cases e1 : at'.length = code.length
      · by_cases e2 : live.length = code.length
        · cases hm : mapsB live (params.length + results.length + locals.length) with
          | false => simp [cnd_b, e1, e2]
          | true =>
            simp [cnd_b, e1, e2]
            refine (iter_all (l := at') (p := atB nodes.length) (bad := some (false, ())) (fin := some (true, ())) (by omega) (by omega) ?_ ?_).trans ?_
            · intro k again hk
              have hk2 : k < code.length := by omega
              by_cases h1 : at'[k] < 0
              · simp [hk2, bnd_get hk, atB, h1, show ¬0 ≤ at'[k] by omega]
              · by_cases h2 : (nodes.length : Int) ≤ at'[k]
                · simp [hk2, bnd_get hk, atB, h1, h2, show ¬at'[k] < nodes.length by omega]
                · simp [hk2, bnd_get hk, atB, h1, h2, show 0 ≤ at'[k] by omega, show at'[k] < nodes.length by omega]
            · intro again
              simp [e1]
            · cases ha : at'.all (atB nodes.length) <;> simp [ha]
        · simp [cnd_b, e1, e2]
      · simp [cnd_b, e1]
def typesB (inner : Bool) (outer params results locals : List Int) : Bool := sigB params 8 && sigB results 4 && sigB locals 256 && sigB outer 4 && (inner || decide (outer.length = 0))
theorem typesB_len {inner : Bool} {outer params results locals : List Int} (h : typesB inner outer params results locals = true) : params.length ≤ 8 ∧ results.length ≤ 4 ∧ locals.length ≤ 256 ∧ outer.length ≤ 4 := by
  simp only [typesB, sigB, Bool.and_eq_true, decide_eq_true_eq] at h
  omega
theorem sp_types (h1 : outer.length ≤ 1000000000) (h2 : params.length ≤ 1000000000) (h3 : results.length ≤ 1000000000) (h4 : locals.length ≤ 1000000000) : S_fnc_types name inner outer params results locals code lines nodes at' live = some (typesB inner outer params results locals, ()) := by
  refine u_fnc_types (N := 0) ?_
  simp [M_fnc_types, typesB, sp_sigRight (l := outer) (by omega), sp_sigRight (l := params) (by omega), sp_sigRight (l := results) (by omega), sp_sigRight (l := locals) (by omega)]
  cases sigB params 8 <;> cases sigB results 4 <;> cases sigB locals 256 <;> cases sigB outer 4 <;> cases inner <;> simp [show ((outer.length : Int) = 0) ↔ outer.length = 0 by omega]
/-- Why a function can't be laid. -/
def canE (name : List UInt8) (inner : Bool) (outer params results locals : List Int) (code : List (Int × Int)) (lines : List Int) (nodes : List Nd) (at' : List Int) (live : List St) : Int :=
  if mayB name = false then 7 else if typesB inner outer params results locals = false then 9 else
  if 256 < params.length + results.length + locals.length ∨ code.length < 1 ∨ 2000 < code.length then 6 else
  if code.all (fun p => rightN p.1 p.2) = false then 8 else if lines.length ≠ code.length ∨ linesB lines = false then 19 else
  if tablesB code nodes at' live (params.length + results.length + locals.length) = false then 14 else 0
@[simp] theorem sp_Can1 {a b : Int} : S_fnc_Can_1 a b = some (!rightN a b, ()) := u_fnc_Can_1 (N := 0) (by simp [M_fnc_Can_1, sp_iRight])
theorem sp_Can (hn : Len name) (h : LenF outer params results locals code lines nodes at' live) (h7 : nodes.length ≤ 1000000) : S_fnc_Can name inner outer params results locals code lines nodes at' live = some (canE name inner outer params results locals code lines nodes at' live, ()) := by
  obtain ⟨g1, g2, g3, g4, g5, g6, g7, g8, g9⟩ := h
  refine u_fnc_Can (N := code.length + 1) ?_
  unfold canE
  simp [M_fnc_Can, sp_May hn, sp_types g1 g2 g3 g4]
  cases h1 : mayB name with
  | false => simp
  | true =>
    cases h2 : typesB inner outer params results locals with
    | false => simp
    | true =>
      obtain ⟨b1, b2, b3, b4⟩ := typesB_len h2
      simp [sp_many (a := name) (b := inner) (c := outer) (d := params) (e := results) (f := locals) (g := code) (h := lines) (i := nodes) (j := at') (k := live) (by omega) (by omega) (by omega)]
      by_cases h3 : 256 < params.length + results.length + locals.length
      · simp [h3, show (256 : Int) < (params.length : Int) + results.length + locals.length by omega]
      · simp only [h3, show ¬(256 : Int) < (params.length : Int) + results.length + locals.length by omega, if_false, false_or]
        by_cases h4 : code.length < 1
        · simp [show code = [] from List.eq_nil_of_length_eq_zero (by omega)]
        · have hc : code ≠ [] := fun e => by subst e; simp at h4
          by_cases h5 : 2000 < code.length
          · simp [hc, h5, show ¬(code.length : Int) < 1 by omega, show (2000 : Int) < code.length by omega]
          · simp [hc, h5, show ¬(code.length : Int) < 1 by omega, show ¬(2000 : Int) < code.length by omega]
            refine (iter_all (l := code) (p := fun p => rightN p.1 p.2) (bad := some (8, ())) (fin := some (if ¬lines.length = code.length ∨ linesB lines = false then 19 else if tablesB code nodes at' live (params.length + results.length + locals.length) = false then 14 else 0, ())) (by omega) (by omega) ?_ ?_).trans ?_
            · intro k again hk
              simp [hk, bnd_get hk, cnd_b]
            · intro again
              have e6 : ((lines.length : Int) = code.length) ↔ lines.length = code.length := by omega
              simp [e6, sp_linesRight (l := lines) (by omega), sp_tables (name := name) (inner := inner) (outer := outer) (lines := lines) (code := code) (show params.length + results.length + locals.length ≤ 256 by omega) h7 g8 g9]
              by_cases h6 : lines.length = code.length <;> cases h7 : linesB lines <;> cases h8 : tablesB code nodes at' live (params.length + results.length + locals.length) <;> simp [h6]
            · cases ha : code.all fun p => rightN p.1 p.2 <;> simp
theorem sp_rCan (hn : Len name) (h : LenF outer params results locals code lines nodes at' live) : S_ref15_Can name inner outer params results locals code lines nodes at' live = some (canE name inner outer params results locals code lines nodes at' live, ()) := by
  obtain ⟨g1, g2, g3, g4, g5, g6, g7, g8, g9⟩ := h
  refine u_ref15_Can (N := code.length + 1) ?_
  unfold canE
  have w1 : wrp .i64 ((params.length : Int) + results.length) = (params.length : Int) + results.length := wi64 (by omega) (by omega)
  have w2 : wrp .i64 ((params.length : Int) + results.length + locals.length) = (params.length : Int) + results.length + locals.length := wi64 (by omega) (by omega)
  simp [M_ref15_Can, sp_rMay hn, sp_rRight11 (l := outer) (by omega), sp_rRight11 (l := params) (by omega), sp_rRight11 (l := results) (by omega), sp_rRight11 (l := locals) (by omega), w1, w2]
  cases h1 : mayB name with
  | false => simp
  | true =>
    have hJ : ∀ {β : Type}, (cnd (sigB outer 4) (cnd (sigB params 8) (cnd (sigB results 4) (cnd (sigB locals 256) (if 0 < outer.length then leftK (!inner, ()) else leftK (false, ())) (leftK (true, ()))) (leftK (true, ()))) (leftK (true, ()))) (leftK (true, ())) : Option ((Bool × Unit) ⊕ β)) = leftK (!typesB inner outer params results locals, ()) := by
      intro β
      unfold typesB
      cases sigB outer 4 <;> cases sigB params 8 <;> cases sigB results 4 <;> cases sigB locals 256 <;> simp
      by_cases h0 : 0 < outer.length
      · have : outer ≠ [] := fun e => by subst e; simp at h0
        cases inner <;> simp [h0, this]
      · have : outer = [] := List.eq_nil_of_length_eq_zero (by omega)
        simp [this]
    rw [hJ]
    cases h2 : typesB inner outer params results locals with
    | false => simp
    | true =>
      obtain ⟨b1, b2, b3, b4⟩ := typesB_len h2
      by_cases h3 : 256 < params.length + results.length + locals.length
      · simp [h3, show (256 : Int) < (params.length : Int) + results.length + locals.length by omega]
      · simp only [h3, show ¬(256 : Int) < (params.length : Int) + results.length + locals.length by omega, if_false, false_or]
        by_cases h4 : code.length < 1
        · simp [show code = [] from List.eq_nil_of_length_eq_zero (by omega)]
        · have hc : code ≠ [] := fun e => by subst e; simp at h4
          by_cases h5 : 2000 < code.length
          · simp [hc, h5, show ¬(code.length : Int) < 1 by omega, show (2000 : Int) < code.length by omega]
          · simp [hc, h5, show ¬(code.length : Int) < 1 by omega, show ¬(2000 : Int) < code.length by omega]
            refine (iter_all (l := code) (p := fun p => rightN p.1 p.2) (bad := some (8, ())) (fin := some (if ¬lines.length = code.length ∨ linesB lines = false then 19 else if tablesB code nodes at' live (params.length + results.length + locals.length) = false then 14 else 0, ())) (by omega) (by omega) ?_ ?_).trans ?_
            · intro k again hk
              simp [hk, bnd_get hk, cnd_b, sp_rRight]
            · intro again
              have e6 : ((lines.length : Int) = code.length) ↔ lines.length = code.length := by omega
              have hT := sp_rtables (name := name) (inner := inner) (outer := outer) (lines := lines) (code := code) (show params.length + results.length + locals.length ≤ 256 by omega) g7 g8 g9
              simp [e6, sp_rRight12 (l := lines) (by omega), hT]
              by_cases h6 : lines.length = code.length <;> cases h7 : linesB lines <;> cases h8 : tablesB code nodes at' live (params.length + results.length + locals.length) <;> simp [h6]
            · cases ha : code.all fun p => rightN p.1 p.2 <;> simp
end
end Go.Proofs.YtkdnbnkbnegckaaGreat
