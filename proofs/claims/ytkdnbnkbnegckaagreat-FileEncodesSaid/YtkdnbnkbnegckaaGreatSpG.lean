/- Bytes of rows, trees, tables, and of functions: what the lifted functions come to. A function's bytes, and its copy: what the lifted functions come to. -/
import Derived.Test.YtkdnbnkbnegckaaGreatSpP
namespace Go.Proofs.YtkdnbnkbnegckaaGreat
open Go.RowKit
set_option maxRecDepth 8000
theorem sp_Of {l : List Int} (hl : l.length ≤ 1000000) : S_runs_Of l = some (groupsG l, ()) := by
  obtain ⟨-, -, h3, -⟩ := groupsG_all l
  refine u_runs_Of (N := (groupsG l).length + 1) ?_
  simp [M_runs_Of, sp_groups hl]
  generalize groupsG l = L at *
  refine iter_to (fun d => L.length - d.2.1.toNat) (fun d => ∃ k : Nat, d = (L.take k, ((k : Int), ())) ∧ k ≤ L.length) ?_ _ _ ⟨0, by simp, Nat.zero_le _⟩ (by simp)
  rintro _ again ⟨k, rfl, hk⟩ ih
  by_cases h : k < L.length
  · have hw : wrp .i64 ((k : Int) + 1) = (k : Int) + 1 := wi64 (by omega) (by omega)
    have hr := room_t (a := k) (b := 1) (c := 16) (by omega) (by omega)
    have hm : min k L.length = k := by omega
    have := ih (L.take (k + 1), ((k : Int) + 1, ())) ⟨k + 1, rfl, h⟩ (by simp; omega)
    have e : L.take k ++ [(L[k].1, L[k].2)] = L.take (k + 1) := by rw [List.take_succ_eq_append_getElem h]
    simpa [h, bnd_get h, hw, hr, hm, e] using this
  · have : k = L.length := by omega
    subst this
    simp
/-- A run's bytes. -/
def runL (p : Int × Int) : List UInt8 := putB p.1.toNat ++ intB p.2
def runsL (l : List Int) : List UInt8 := (groupsG l).flatMap runL
theorem runL_le (p : Int × Int) : (runL p).length ≤ 20 := by
  have h1 := putB_le p.1.toNat
  have h2 := intB_le p.2
  simp only [runL, List.length_append]; omega
theorem runsL_le (l : List Int) : (runsL l).length ≤ l.length * 20 := by
  have h1 := flatMap_le (l := groupsG l) (g := runL) (c := 20) fun x _ => runL_le x
  have h2 := (groupsG_all l).2.2.1
  exact Nat.le_trans h1 (Nat.mul_le_mul_right _ h2)
theorem sp_runsPut {b : List UInt8} {l : List Int} (hb : b.length ≤ 1000000000) (hl : l.length ≤ 1000000) (hI : ∀ v ∈ l, I64 v) : S_runs_Put b l = some (b ++ runsL l, ()) := by
  obtain ⟨-, -, h3, h4⟩ := groupsG_all l
  refine u_runs_Put (N := (groupsG l).length + 1) ?_
  simp [M_runs_Put, sp_Of hl]
  refine iter_lay (l := groupsG l) (g := runL) (c := 20) (by omega) (by omega) (fun x _ => runL_le x) ?_ ?_
  · intro k acc again hk ha
    obtain ⟨q1, q2, q3⟩ := h4 _ (List.getElem_mem hk)
    have hA : acc.length ≤ 1030000000 := by omega
    obtain ⟨n, hn⟩ := Int.eq_ofNat_of_zero_le (show 0 ≤ (groupsG l)[k].1 by omega)
    have hw : wrp .u64 (n : Int) = (n : Int) := wu64 (by omega) (by omega)
    have hp := putB_le n
    simp [hk, bnd_get hk, hw, sp_uPut (b := acc) (n := n) (by omega) (by omega), sp_PutInt (b := acc ++ putB n) (by simp; omega) (hI _ q3), runL, hn]
  · intro again
    simp [runsL]
theorem sp_linesPut {b : List UInt8} {l : List Int} (hb : b.length ≤ 1000000000) (hl : l.length ≤ 1000000) (hI : ∀ v ∈ l, I64 v) : S_lines_Put b l = some (b ++ runsL l, ()) := u_lines_Put (N := 0) (by simp [M_lines_Put, sp_runsPut hb hl hI])
/-- A node's bytes. -/
def nodeL (p : Nd) : List UInt8 := intB p.1 ++ (intB p.2.1 ++ (intB p.2.2.1 ++ (intB p.2.2.2.1 ++ (intB p.2.2.2.2.1 ++ (intB p.2.2.2.2.2.1 ++ intB p.2.2.2.2.2.2)))))
theorem nodeL_le (p : Nd) : (nodeL p).length ≤ 70 := by
  have h1 := intB_le p.1
  have h2 := intB_le p.2.1
  have h3 := intB_le p.2.2.1
  have h4 := intB_le p.2.2.2.1
  have h5 := intB_le p.2.2.2.2.1
  have h6 := intB_le p.2.2.2.2.2.1
  have h7 := intB_le p.2.2.2.2.2.2
  simp only [nodeL, List.length_append]; omega
def I64N (p : Nd) : Prop := I64 p.1 ∧ I64 p.2.1 ∧ I64 p.2.2.1 ∧ I64 p.2.2.2.1 ∧ I64 p.2.2.2.2.1 ∧ I64 p.2.2.2.2.2.1 ∧ I64 p.2.2.2.2.2.2
def treeL (l : List Nd) : List UInt8 := putB l.length ++ l.flatMap nodeL
theorem treeL_le (l : List Nd) : (treeL l).length ≤ 10 + l.length * 70 := by
  have h1 := putB_le l.length
  have h2 := flatMap_le (l := l) (g := nodeL) (c := 70) fun x _ => nodeL_le x
  simp only [treeL, List.length_append]; omega
theorem sp_treePut {b : List UInt8} {l : List Nd} (hb : b.length ≤ 1000000000) (hl : l.length ≤ 1000000) (hI : ∀ p ∈ l, I64N p) : S_tree_Put b l = some (b ++ treeL l, ()) := by
  refine u_tree_Put (N := l.length + 1) ?_
  have h1 := putB_le l.length
  have hw : wrp .u64 (l.length : Int) = (l.length : Int) := wu64 (by omega) (by omega)
  simp [M_tree_Put, hw, sp_uPut (n := l.length) (show b.length ≤ 10000000000 by omega) (by omega)]
  refine iter_lay (l := l) (g := nodeL) (c := 70) (by omega) (by omega) (fun x _ => nodeL_le x) ?_ ?_
  · intro k acc again hk ha
    obtain ⟨i1, i2, i3, i4, i5, i6, i7⟩ := hI _ (List.getElem_mem hk)
    have hA : acc.length ≤ 2000000000 := by simp at ha; omega
    have hs := fun n => intB_le n
    generalize hp : l[k] = p at *
    have a1 := hs p.1
    have a2 := hs p.2.1
    have a3 := hs p.2.2.1
    have a4 := hs p.2.2.2.1
    have a5 := hs p.2.2.2.2.1
    have a6 := hs p.2.2.2.2.2.1
    simp [hk, bnd_get hk, hp, nodeL, sp_PutInt (b := acc) (by omega) i1, sp_PutInt (b := acc ++ intB p.1) (by simp; omega) i2, sp_PutInt (b := acc ++ (intB p.1 ++ intB p.2.1)) (by simp; omega) i3, sp_PutInt (b := acc ++ (intB p.1 ++ (intB p.2.1 ++ intB p.2.2.1))) (by simp; omega) i4,
      sp_PutInt (b := acc ++ (intB p.1 ++ (intB p.2.1 ++ (intB p.2.2.1 ++ intB p.2.2.2.1)))) (by simp; omega) i5, sp_PutInt (b := acc ++ (intB p.1 ++ (intB p.2.1 ++ (intB p.2.2.1 ++ (intB p.2.2.2.1 ++ intB p.2.2.2.2.1))))) (by simp; omega) i6, sp_PutInt (b := acc ++ (intB p.1 ++ (intB p.2.1 ++ (intB p.2.2.1 ++ (intB p.2.2.2.1 ++ (intB p.2.2.2.2.1 ++ intB p.2.2.2.2.2.1)))))) (by simp; omega) i7]
  · intro again
    simp [treeL]
/-! Tables of sets -/
/-- A group as the program keeps it. -/
def cntD (p : Int × St) : Int × (Int × (Int × (Int × Int))) := (p.2.1, (p.2.2.1, (p.2.2.2.1, (p.2.2.2.2, p.1))))
theorem sp_count {l : List St} (hl : l.length ≤ 1000000) : S_maps_count l = some ((groupsG l).map cntD, ()) := by
  refine u_maps_count (N := l.length + 1) ?_
  simp [M_maps_count]
  refine iter_to (fun d => l.length - d.2.2.2.2.2.2.1.toNat) (fun d => ∃ (k : Nat) (a b c d' m : Int), d = ((groupsG (l.take k)).map cntD, (a, (b, (c, (d', (m, ((k : Int), ()))))))) ∧ k ≤ l.length ∧ (match (groupsG (l.take k)).getLast? with | some p => (a, (b, (c, d'))) = p.2 ∧ m = p.1 | none => m = 0)) ?_ _ _ ⟨0, 0, 0, 0, 0, 0, by simp [groupsG], Nat.zero_le _, by simp [groupsG]⟩ (by simp)
  rintro _ again ⟨k, a, b, c, d', m, rfl, hk, hL⟩ ih
  by_cases h : k < l.length
  · have hw : wrp .i64 ((k : Int) + 1) = (k : Int) + 1 := wi64 (by omega) (by omega)
    obtain ⟨-, -, h3, h4⟩ := groupsG_ok l k hk
    have hi : ∀ a b c d' m, (match (stepG (groupsG (l.take k)) l[k]).getLast? with | some p => (a, (b, (c, d'))) = p.2 ∧ m = p.1 | none => m = 0) → again ((stepG (groupsG (l.take k)) l[k]).map cntD, (a, (b, (c, (d', (m, ((k : Int) + 1, ()))))))) = some ((groupsG l).map cntD, ()) := fun a b c d' m hx => ih ((stepG (groupsG (l.take k)) l[k]).map cntD, (a, (b, (c, (d', (m, ((k : Int) + 1, ()))))))) ⟨k + 1, a, b, c, d', m, by rw [groupsG_take h]; rfl, h, by rw [groupsG_take h]; exact hx⟩ (by simp; omega)
    clear ih
    obtain ⟨s1, s2, s3, s4, hs⟩ : ∃ s1 s2 s3 s4, l[k] = (s1, (s2, (s3, s4))) := ⟨_, _, _, _, rfl⟩
    rw [hs] at hi
    generalize groupsG (l.take k) = acc at *
    have hr := room_t (a := acc.length) (b := 1) (c := 40) (by omega) (by omega)
    cases hg : acc.getLast? with
    | none =>
      have : acc = [] := List.getLast?_eq_none_iff.1 hg
      subst this
      simp at hL hr
      subst hL
      have := hi s1 s2 s3 s4 1 (by simp [stepG])
      simp [stepG, cntD] at this
      simpa [h, bnd_get h, hw, hr, hs] using this
    | some p =>
      obtain ⟨ys, rfl⟩ := List.getLast?_eq_some_iff.1 hg
      rw [hg] at hL
      obtain ⟨m', p1, p2, p3, p4⟩ := p
      obtain ⟨hL1, hL2⟩ := hL
      simp only [Prod.mk.injEq] at hL1 hL2
      obtain ⟨rfl, rfl, rfl, rfl⟩ := hL1
      subst hL2
      have hp := h4 (m, (a, (b, (c, d')))) (by simp)
      simp only at hp
      simp at h3 hr
      have hw2 : wrp .i64 (ys.length : Int) = ys.length := wi64 (by omega) (by omega)
      have hw3 : wrp .i64 (m + 1) = m + 1 := wi64 (by omega) (by omega)
      by_cases e : (a, (b, (c, d'))) = (s1, (s2, (s3, s4)))
      · simp only [Prod.mk.injEq] at e
        obtain ⟨rfl, rfl, rfl, rfl⟩ := e
        have e2 := stepG_same (ys := ys) (p := (m, (a, (b, (c, d')))))
        simp only at e2
        rw [e2] at hi
        have := hi a b c d' (m + 1) (by simp)
        simp [cntD] at this
        simpa [h, bnd_get h, hw, hw2, hw3, hs, eqL, show (0 : Int) < m by omega, cntD, show (ys.length : Int) < ys.length + 1 by omega] using this
      · have e2 := stepG_new (ys := ys) (p := (m, (a, (b, (c, d'))))) (v := (s1, (s2, (s3, s4)))) e
        rw [e2] at hi
        have := hi s1 s2 s3 s4 1 (by simp)
        simp [cntD] at this
        have e3 : eqL [a, b, c, d'] [s1, s2, s3, s4] = false := by
          simp only [Prod.mk.injEq] at e
          simp [eqL]
          exact fun h1 h2 h3 h4 => e ⟨h1, h2, h3, h4⟩
        simpa [h, bnd_get h, hw, hw2, hr, hs, e3, show (0 : Int) < m by omega, cntD] using this
  · have : k = l.length := by omega
    subst this
    simp
/-- A group's bytes. -/
def cntL (p : Int × St) : List UInt8 := putB p.1.toNat ++ (putB p.2.1.toNat ++ (putB p.2.2.1.toNat ++ (putB p.2.2.2.1.toNat ++ putB p.2.2.2.2.toNat)))
theorem cntL_le (p : Int × St) : (cntL p).length ≤ 50 := by
  have h1 := putB_le p.1.toNat
  have h2 := putB_le p.2.1.toNat
  have h3 := putB_le p.2.2.1.toNat
  have h4 := putB_le p.2.2.2.1.toNat
  have h5 := putB_le p.2.2.2.2.toNat
  simp only [cntL, List.length_append]; omega
def mapsL (l : List St) : List UInt8 := (groupsG l).flatMap cntL
theorem mapsL_le (l : List St) : (mapsL l).length ≤ l.length * 50 := by
  have h1 := flatMap_le (l := groupsG l) (g := cntL) (c := 50) fun x _ => cntL_le x
  exact Nat.le_trans h1 (Nat.mul_le_mul_right _ (groupsG_all l).2.2.1)
def U64 (n : Int) : Prop := 0 ≤ n ∧ n < 18446744073709551616
def U64S (s : St) : Prop := U64 s.1 ∧ U64 s.2.1 ∧ U64 s.2.2.1 ∧ U64 s.2.2.2
theorem sp_mapsPut {b : List UInt8} {l : List St} (hb : b.length ≤ 1000000000) (hl : l.length ≤ 1000000) (hU : ∀ s ∈ l, U64S s) : S_maps_Put b l = some (b ++ mapsL l, ()) := by
  obtain ⟨-, -, h3, h4⟩ := groupsG_all l
  refine u_maps_Put (N := (groupsG l).length + 1) ?_
  simp [M_maps_Put, sp_count hl]
  refine iter_lay (l := groupsG l) (g := cntL) (c := 50) (by omega) (by omega) (fun x _ => cntL_le x) ?_ ?_
  · intro k acc again hk ha
    obtain ⟨q1, q2, q3⟩ := h4 _ (List.getElem_mem hk)
    obtain ⟨u1, u2, u3, u4⟩ := hU _ q3
    have hA : acc.length ≤ 1060000000 := by omega
    obtain ⟨m, a, b', c, d, hp⟩ : ∃ m a b' c d, (groupsG l)[k] = (m, (a, (b', (c, d)))) := ⟨_, _, _, _, _, rfl⟩
    rw [hp] at q1 q2 u1 u2 u3 u4
    simp only at q1 q2 u1 u2 u3 u4
    obtain ⟨m, rfl⟩ := Int.eq_ofNat_of_zero_le (show 0 ≤ m by omega)
    obtain ⟨a, rfl⟩ := Int.eq_ofNat_of_zero_le u1.1
    obtain ⟨b', rfl⟩ := Int.eq_ofNat_of_zero_le u2.1
    obtain ⟨c, rfl⟩ := Int.eq_ofNat_of_zero_le u3.1
    obtain ⟨d, rfl⟩ := Int.eq_ofNat_of_zero_le u4.1
    have v1 := u1.2
    have v2 := u2.2
    have v3 := u3.2
    have v4 := u4.2
    have hw : wrp .u64 (m : Int) = (m : Int) := wu64 (by omega) (by omega)
    have hs := fun n => putB_le n
    have a1 := hs m
    have a2 := hs a
    have a3 := hs b'
    have a4 := hs c
    simp [hk, bnd_get hk, hp, hw, cntD, cntL, sp_uPut (b := acc) (n := m) (by omega) (by omega), sp_uPut (b := acc ++ putB m) (n := a) (by simp; omega) (by omega), sp_uPut (b := acc ++ (putB m ++ putB a)) (n := b') (by simp; omega) (by omega),
      sp_uPut (b := acc ++ (putB m ++ (putB a ++ putB b'))) (n := c) (by simp; omega) (by omega), sp_uPut (b := acc ++ (putB m ++ (putB a ++ (putB b' ++ putB c)))) (n := d) (by simp; omega) (by omega)]
  · intro again
    simp [mapsL]
end Go.Proofs.YtkdnbnkbnegckaaGreat
namespace Go.Proofs.YtkdnbnkbnegckaaGreat
open Go.RowKit
set_option maxRecDepth 8000
def flagU (inner bare : Bool) : UInt8 := if inner then (if bare then 1 else 3) else (if bare then 0 else 2)
section
variable {name : List UInt8} {inner : Bool} {outer params results locals lines at' : List Int} {code : List (Int × Int)} {nodes : List Nd} {live : List St}
theorem or_1 : bitI .or .u8 0 1 = u8I 1 := by decide +kernel
theorem or_2 : bitI .or .u8 (u8I 0) 2 = u8I 2 := by decide +kernel
theorem or_3 : bitI .or .u8 (u8I 1) 2 = u8I 3 := by decide +kernel
@[simp] theorem sp_flag : S_fnc_flag name inner outer params results locals code lines nodes at' live = some (flagU inner (bareB nodes at' live), ()) := u_fnc_flag (N := 0) (by
  cases inner <;> cases hb : bareB nodes at' live <;> simp [M_fnc_flag, flagU, or_1, or_2, or_3, hb])
def tabL (nodes : List Nd) (at' : List Int) (live : List St) : List UInt8 := if bareB nodes at' live then [] else treeL nodes ++ (runsL at' ++ mapsL live)
/-- The bytes ahead of the code. -/
def headL (name : List UInt8) (inner : Bool) (outer params results locals : List Int) (code : List (Int × Int)) (nodes : List Nd) (at' : List Int) (live : List St) : List UInt8 :=
  putB name.length ++ (name ++ (flagU inner (bareB nodes at' live) :: ((if inner = true then sigL outer else []) ++ (sigL params ++ (sigL results ++ (sigL locals ++ putB code.length))))))
/-- A function's bytes. -/
def fncL (name : List UInt8) (inner : Bool) (outer params results locals : List Int) (code : List (Int × Int)) (lines : List Int) (nodes : List Nd) (at' : List Int) (live : List St) : List UInt8 :=
  headL name inner outer params results locals code nodes at' live ++ (code.flatMap (fun p => instrL p.1 p.2) ++ (runsL lines ++ tabL nodes at' live))
/-- The numbers of a function are those of a word. -/
def DatF (code : List (Int × Int)) (lines : List Int) (nodes : List Nd) (at' : List Int) (live : List St) : Prop :=
  (∀ p ∈ code, I64 p.2) ∧ (∀ v ∈ lines, I64 v) ∧ (∀ p ∈ nodes, I64N p) ∧ (∀ v ∈ at', I64 v) ∧ (∀ s ∈ live, U64S s)
/-- What can be laid. -/
def CanF (name : List UInt8) (inner : Bool) (outer params results locals : List Int) (code : List (Int × Int)) (lines : List Int) (nodes : List Nd) (at' : List Int) (live : List St) : Prop :=
  mayB name = true ∧ typesB inner outer params results locals = true ∧ params.length + results.length + locals.length ≤ 256 ∧ 1 ≤ code.length ∧ code.length ≤ 2000 ∧ (code.all fun p => rightN p.1 p.2) = true ∧ lines.length = code.length ∧ linesB lines = true ∧ tablesB code nodes at' live (params.length + results.length + locals.length) = true
theorem canE_iff : canE name inner outer params results locals code lines nodes at' live = 0 ↔ CanF name inner outer params results locals code lines nodes at' live := by
  unfold canE CanF
  cases mayB name with
  | false => simp
  | true =>
    cases typesB inner outer params results locals with
    | false => simp
    | true =>
      by_cases h1 : 256 < params.length + results.length + locals.length ∨ code.length < 1 ∨ 2000 < code.length
      · simp only [Bool.true_eq_false, if_false, if_pos h1, true_and]
        constructor
        · intro h; cases h
        · intro h; omega
      · simp only [Bool.true_eq_false, if_false, if_neg h1, true_and]
        cases code.all fun p => rightN p.1 p.2 with
        | false => simp
        | true =>
          by_cases h2 : lines.length ≠ code.length ∨ linesB lines = false
          · simp only [Bool.true_eq_false, if_false, if_pos h2, true_and]
            constructor
            · intro h; cases h
            · intro h
              rcases h2 with h2 | h2
              · exact absurd h.2.2.2.1 h2
              · rw [h2] at h; simp at h
          · simp only [Bool.true_eq_false, if_false, if_neg h2, true_and]
            have h3 : lines.length = code.length := Decidable.byContradiction fun h => h2 (.inl h)
            have h4 : linesB lines = true := by
              cases hl : linesB lines with
              | true => rfl
              | false => exact absurd (.inr hl) h2
            cases tablesB code nodes at' live (params.length + results.length + locals.length) with
            | false => simp
            | true => simp [h3, h4]; omega
theorem CanF.len (h : CanF name inner outer params results locals code lines nodes at' live) : name.length ≤ 12 ∧ outer.length ≤ 4 ∧ params.length + results.length + locals.length ≤ 256 ∧ code.length ≤ 2000 ∧ lines.length ≤ 2000 ∧ nodes.length ≤ 120 ∧ at'.length ≤ 2000 ∧ live.length ≤ 2000 := by
  obtain ⟨h1, h2, h3, h4, h5, h6, h7, h8, h9⟩ := h
  obtain ⟨t1, t2, t3, t4⟩ := typesB_len h2
  have hn : name.length ≤ 12 := by
    cases name with
    | nil => simp
    | cons x l =>
      simp only [mayB, Bool.and_eq_true, decide_eq_true_eq] at h1
      simp
      omega
  refine ⟨hn, t4, h3, h5, by omega, ?_⟩
  simp only [tablesB, Bool.or_eq_true, Bool.and_eq_true, decide_eq_true_eq, bareB, rightT] at h9
  omega
theorem fncL_le (h : CanF name inner outer params results locals code lines nodes at' live) : (fncL name inner outer params results locals code lines nodes at' live).length ≤ 250000 := by
  obtain ⟨h1, h2, h3, h4, h5, h6, h7, h8⟩ := h.len
  have a1 := putB_le name.length
  have a2 := sigL_le outer
  have a3 := sigL_le params
  have a4 := sigL_le results
  have a5 := sigL_le locals
  have a6 := putB_le code.length
  have a7 := flatMap_le (l := code) (g := fun p => instrL p.1 p.2) (c := 11) fun p _ => instrL_le p.1 p.2
  have a8 := runsL_le lines
  have a9 : (tabL nodes at' live).length ≤ 10 + nodes.length * 70 + at'.length * 20 + live.length * 50 := by
    have b1 := treeL_le nodes
    have b2 := runsL_le at'
    have b3 := mapsL_le live
    unfold tabL
    split
    · simp
    · simp only [List.length_append]; omega
  have a10 : (if inner = true then sigL outer else []).length ≤ 14 := by
    split
    · omega
    · simp
  simp only [fncL, headL, List.length_append, List.length_cons]
  omega
theorem cnd_put {β : Type} {B : List UInt8} {outer : List Int} {k : List UInt8 × Unit → Option β} (h : S_sig_Put B outer = some (B ++ sigL outer, ())) : joinK (cnd inner (bnd (S_sig_Put B outer) fun p => leftK (p.1, ())) (leftK (B, ()))) k = k (B ++ (if inner = true then sigL outer else []), ()) := by
  cases inner <;> simp [h]
theorem sp_Put {b : List UInt8} (hb : b.length ≤ 100000000) (hD : DatF code lines nodes at' live) (h : CanF name inner outer params results locals code lines nodes at' live) : S_fnc_Put b name inner outer params results locals code lines nodes at' live = some (b ++ fncL name inner outer params results locals code lines nodes at' live, ()) := by
  obtain ⟨n1, n2, n3, n4, n5, n6, n7, n8⟩ := h.len
  have hC := sp_Can (name := name) (inner := inner) (outer := outer) (params := params) (results := results) (locals := locals) (code := code) (lines := lines) (nodes := nodes) (at' := at') (live := live) (by unfold Len; omega) (by unfold LenF; omega) (by omega)
  rw [canE_iff.2 h] at hC
  obtain ⟨h1, h2, h3, h4, h5, h6, h7, h8, h9⟩ := h
  obtain ⟨d1, d2, d3, d4, d5⟩ := hD
  simp only [typesB, sigB, Bool.and_eq_true] at h2
  obtain ⟨⟨⟨⟨⟨-, t1⟩, -, t2⟩, -, t3⟩, -, t4⟩, -⟩ := h2
  refine u_fnc_Put (N := code.length + 1) ?_
  have w1 : wrp .u64 (name.length : Int) = (name.length : Int) := wu64 (by omega) (by omega)
  have w2 : wrp .u64 (code.length : Int) = (code.length : Int) := wu64 (by omega) (by omega)
  have a1 := putB_le name.length
  have r1 := room_b (a := b.length + (putB name.length).length) (b := name.length) (by omega)
  have r2 := room_b (a := b.length + (putB name.length).length + name.length) (b := 1) (by omega)
  have e3 : b.length + (putB name.length).length + name.length + 1 = b.length + (putB name.length).length + (name.length + 1) := by omega
  simp [M_fnc_Put, hC, w1, sp_uPut (b := b) (n := name.length) (by omega) (by omega), r1, r2, e3]
  rw [cnd_put (sp_sigPut (by simp; omega) (by omega) t4)]
  have a2 := sigL_le outer
  have a3 := sigL_le params
  have a4 := sigL_le results
  have a5 := sigL_le locals
  have a6 := putB_le code.length
  have hB1 : (b ++ (putB name.length ++ (name ++ [flagU inner (bareB nodes at' live)])) ++ (if inner = true then sigL outer else [])).length ≤ 100001000 := by
    cases inner <;> simp <;> omega
  have hH : b ++ headL name inner outer params results locals code nodes at' live = b ++ (putB name.length ++ (name ++ [flagU inner (bareB nodes at' live)])) ++ (if inner = true then sigL outer else []) ++ sigL params ++ sigL results ++ sigL locals ++ putB code.length := by simp [headL]
  have hF : b ++ fncL name inner outer params results locals code lines nodes at' live = b ++ headL name inner outer params results locals code nodes at' live ++ (code.flatMap (fun p => instrL p.1 p.2) ++ (runsL lines ++ tabL nodes at' live)) := by simp [fncL]
  rw [hF, hH]
  generalize b ++ (putB name.length ++ (name ++ [flagU inner (bareB nodes at' live)])) ++ (if inner = true then sigL outer else []) = B1 at *
  have hB2 : (B1 ++ sigL params ++ sigL results ++ sigL locals ++ putB code.length).length ≤ 100002000 := by simp; omega
  simp only [sp_sigPut (b := B1) (l := params) (by omega) (by omega) t1, sp_sigPut (b := B1 ++ sigL params) (l := results) (by simp; omega) (by omega) t2, sp_sigPut (b := B1 ++ sigL params ++ sigL results) (l := locals) (by simp; omega) (by omega) t3, bnd_s, w2,
    sp_uPut (b := B1 ++ sigL params ++ sigL results ++ sigL locals) (n := code.length) (by simp; omega) (by omega)]
  generalize B1 ++ sigL params ++ sigL results ++ sigL locals ++ putB code.length = B2 at *
  refine iter_to (fun d => code.length - d.2.2.2.2.2.2.2.2.2.2.2.2.1.toNat) (fun d => ∃ k : Nat, d = (B2 ++ (code.take k).flatMap (fun p => instrL p.1 p.2), name, inner, outer, params, results, locals, code, lines, nodes, at', live, (k : Int), ()) ∧ k ≤ code.length) ?_ _ _ ⟨0, by simp, Nat.zero_le _⟩ (by simp)
  rintro _ again ⟨k, rfl, hk⟩ ih
  have hf := flatMap_le (l := code.take k) (g := fun p => instrL p.1 p.2) (c := 11) fun p _ => instrL_le p.1 p.2
  have hf2 : (code.take k).length ≤ 2000 := by simp; omega
  by_cases hlt : k < code.length
  · have hw : wrp .i64 ((k : Int) + 1) = (k : Int) + 1 := wi64 (by omega) (by omega)
    have hm : code[k] ∈ code := List.getElem_mem hlt
    have hP := sp_instrPut (b := B2 ++ (code.take k).flatMap (fun p => instrL p.1 p.2)) (n := code[k].1) (a := code[k].2) (by simp only [List.length_append]; omega) (List.all_eq_true.1 h6 _ hm) (d1 _ hm)
    have := ih (B2 ++ (code.take (k + 1)).flatMap (fun p => instrL p.1 p.2), name, inner, outer, params, results, locals, code, lines, nodes, at', live, (k : Int) + 1, ()) ⟨k + 1, rfl, hlt⟩ (by simp; omega)
    rw [List.take_succ_eq_append_getElem hlt, List.flatMap_append, List.flatMap_singleton, ← List.append_assoc] at this
    simp only [hlt, bnd_get hlt, hP, hw, bnd_s, Int.ofNat_lt, if_true, Int.toNat_natCast, show (0 : Int) ≤ (k : Int) by omega]
    exact this
  · have : k = code.length := by omega
    subst this
    rw [List.take_of_length_le (Nat.le_refl _)] at hf ⊢
    have b1 := runsL_le lines
    have b2 := treeL_le nodes
    have b3 := runsL_le at'
    have hl1 := sp_linesPut (b := B2 ++ code.flatMap (fun p => instrL p.1 p.2)) (l := lines) (by simp only [List.length_append]; omega) (by omega) d2
    simp only [Int.lt_irrefl, if_false, hl1, bnd_s]
    cases hbare : bareB nodes at' live with
    | true => simp [tabL, hbare]
    | false =>
      have hl2 := sp_treePut (b := B2 ++ code.flatMap (fun p => instrL p.1 p.2) ++ runsL lines) (l := nodes) (by simp only [List.length_append]; omega) (by omega) d3
      have hl3 := sp_runsPut (b := B2 ++ code.flatMap (fun p => instrL p.1 p.2) ++ runsL lines ++ treeL nodes) (l := at') (by simp only [List.length_append]; omega) (by omega) d4
      have hl4 := sp_mapsPut (b := B2 ++ code.flatMap (fun p => instrL p.1 p.2) ++ runsL lines ++ treeL nodes ++ runsL at') (l := live) (by simp only [List.length_append]; omega) (by omega) d5
      simp only [cnd_f, hl2, hl3, hl4, bnd_s]
      simp [tabL, hbare]
end
end Go.Proofs.YtkdnbnkbnegckaaGreat
