/- Whether a function can be laid: what the lifted functions come to. -/
import Derived.Test.YtkdnbnkbnegckaaDoorDaS
namespace Go.Proofs.YtkdnbnkbnegckaaDoor
open Go.RowKit
set_option maxRecDepth 20000
set_option linter.unusedVariables false
abbrev Len (l : List UInt8) : Prop := l.length ≤ 140737488351232
def firstQ (x : UInt8) : Bool := decide (97 ≤ u8I x ∧ u8I x ≤ 122)
def otherQ (x : UInt8) : Bool := firstQ x || decide (48 ≤ u8I x ∧ u8I x ≤ 57) || decide (u8I x = 95)
def mayQ : List UInt8 → Bool
  | [] => false
  | x :: l => decide (l.length < 12) && firstQ x && (x :: l).all otherQ
theorem all_drop {l : List UInt8} {p : UInt8 → Bool} {k : Nat} (h : k < l.length) : (l.drop k).all p = (p l[k] && (l.drop (k + 1)).all p) := by
  rw [List.drop_eq_getElem_cons h, List.all_cons]
def headQ : List UInt8 → Bool
  | [] => true
  | x :: l => firstQ x && l.all otherQ
theorem sp_rMay {l : List UInt8} (hl : Len l) : S_ref05_May l = some (mayQ l, ()) := by
  refine u_ref05_May (N := l.length + 1) ?_
  simp [M_ref05_May]
  have h0 : mayQ l = (decide (1 ≤ l.length ∧ l.length ≤ 12) && (if 0 = 0 then headQ l else (l.drop 0).all otherQ)) := by
    cases l with
    | nil => rfl
    | cons x l => cases h : firstQ x <;> simp [mayQ, headQ, h, otherQ, show l.length < 12 ↔ l.length + 1 ≤ 12 by omega]
  refine iter_to (fun d => l.length - d.1.toNat) (fun d => ∃ k : Nat, d = ((k : Int), ()) ∧ k ≤ l.length ∧ mayQ l = (decide (1 ≤ l.length ∧ l.length ≤ 12) && (if k = 0 then headQ l else (l.drop k).all otherQ))) ?_ _ _ ⟨0, rfl, Nat.zero_le _, h0⟩ (by simp)
  rintro _ again ⟨k, rfl, h3, h4⟩ ih
  by_cases hk : k < l.length
  · simp [hk, bnd_get hk]
    rw [wi64 (by omega) (by unfold Len at hl; omega)]
    have hgood : (if k = 0 then firstQ l[k] else otherQ l[k]) = true → again ((k : Int) + 1, ()) = some (mayQ l, ()) := fun hg => by
      refine ih _ ⟨k + 1, rfl, hk, ?_⟩ (by simp; omega)
      rw [h4]
      congr 1
      by_cases h0 : k = 0
      · subst h0
        cases l with
        | nil => simp at hk
        | cons x l =>
          simp at hg
          simp [headQ, hg]
      · rw [if_neg h0] at hg ⊢
        rw [if_neg (by omega), all_drop hk, hg]; rfl
    have hbad : (if k = 0 then firstQ l[k] else otherQ l[k]) = false → mayQ l = false := fun hg => by
      rw [h4]
      by_cases h0 : k = 0
      · subst h0
        cases l with
        | nil => simp at hk
        | cons x l =>
          simp at hg
          simp [headQ, hg]
      · rw [if_neg h0] at hg ⊢
        rw [all_drop hk, hg]; simp
    have hP : (if k = 0 then firstQ l[k] else otherQ l[k]) = true ↔ (97 ≤ u8I l[k] ∧ u8I l[k] ≤ 122) ∨ (k ≠ 0 ∧ (48 ≤ u8I l[k] ∧ u8I l[k] ≤ 57 ∨ u8I l[k] = 95)) := by
      by_cases h0 : k = 0 <;> simp [h0, firstQ, otherQ]
      omega
    generalize (if k = 0 then firstQ l[k] else otherQ l[k]) = g at *
    generalize hu : u8I l[k] = u at *
    cases g with
    | true =>
      rw [hgood rfl]
      have := hP.1 rfl
      simp only [joinK_if, joinK_l, joinK_r]
      repeat' split
      all_goals first | rfl | (exfalso; omega)
    | false =>
      rw [hbad rfl]
      have : ¬_ := fun h => Bool.noConfusion (hP.2 h)
      simp only [joinK_if, joinK_l, joinK_r]
      repeat' split
      all_goals first | rfl | (exfalso; omega)
  · have : k = l.length := by omega
    subst this
    rw [h4]
    simp
    cases l with
    | nil => simp
    | cons x l => simp; rw [if_pos (by omega)]; simp; omega
/-- The kind of an instruction's number, and how great it may be. -/
def kindN (n : Int) : Int := if n = 1 then 1 else if n = 2 ∨ n = 3 then 2 else if n = 21 ∨ n = 22 then 3 else if n = 23 ∨ n = 24 then 4 else if n = 28 ∨ n = 29 then 5 else if n = 33 ∨ n = 34 then 6 else 0
def mostN (k : Int) : Int := if k = 2 then 255 else if k = 3 then 1999 else if k = 4 then 39 else if k = 5 then 3 else if k = 6 then 119 else 0
def rightN (n a : Int) : Bool := decide (0 ≤ n ∧ n < 35 ∧ (kindN n = 1 ∨ 0 ≤ a ∧ a ≤ mostN (kindN n)))
theorem kindN_le (n : Int) : 0 ≤ kindN n ∧ kindN n ≤ 6 := by
  unfold kindN
  repeat' split
  all_goals omega
theorem sp_rOperand {n : Int} : S_ref09_Operand n = some (kindN n, ()) := by
  refine u_ref09_Operand (N := 0) ?_
  simp [M_ref09_Operand]
  unfold kindN
  by_cases h1 : n = 1
  · simp [h1]
  · by_cases h2 : n = 2 ∨ n = 3
    · rcases h2 with rfl | rfl <;> simp
    · by_cases h3 : n = 21 ∨ n = 22
      · rcases h3 with rfl | rfl <;> simp
      · by_cases h4 : n = 23 ∨ n = 24
        · rcases h4 with rfl | rfl <;> simp
        · by_cases h5 : n = 28 ∨ n = 29
          · rcases h5 with rfl | rfl <;> simp
          · by_cases h6 : n = 33 ∨ n = 34
            · rcases h6 with rfl | rfl <;> simp
            · have : ¬n = 2 ∧ ¬n = 3 ∧ ¬n = 21 ∧ ¬n = 22 ∧ ¬n = 23 ∧ ¬n = 24 ∧ ¬n = 28 ∧ ¬n = 29 ∧ ¬n = 33 ∧ ¬n = 34 := by omega
              simp [h1, this]
theorem sp_rmost {n : Int} (h0 : 0 ≤ n) (h6 : n ≤ 6) : S_ref10_most n = some (mostN n, ()) := by
  refine u_ref10_most (N := 0) ?_
  have : n = 0 ∨ n = 1 ∨ n = 2 ∨ n = 3 ∨ n = 4 ∨ n = 5 ∨ n = 6 := by omega
  rcases this with rfl | rfl | rfl | rfl | rfl | rfl | rfl <;> simp [M_ref10_most, mostN]
theorem sp_rRight {n a : Int} : S_ref10_Right n a = some (rightN n a, ()) := by
  refine u_ref10_Right (N := 0) ?_
  obtain ⟨k1, k2⟩ := kindN_le n
  unfold rightN
  by_cases h1 : n < 0
  · simp [M_ref10_Right, h1]; omega
  · by_cases h2 : 35 ≤ n
    · simp [M_ref10_Right, h1, h2]; omega
    · have h3 : 0 ≤ n := by omega
      have h4 : n < 35 := by omega
      by_cases h5 : kindN n = 1
      · simp [M_ref10_Right, sp_rOperand, h1, h2, h3, h4, h5]
      · by_cases h6 : 0 ≤ a <;> simp [M_ref10_Right, sp_rOperand, sp_rmost k1 k2, h1, h2, h3, h4, h5, h6]
/-- The words of the set of all slots below n. -/
def mw (n j : Nat) : Int := ((2 ^ (min (n - 64 * j) 64) - 1 : Nat) : Int)
def insideQ (s t : St) : Bool := decide (bitI .andNot .u64 s.1 t.1 = 0 ∧ bitI .andNot .u64 s.2.1 t.2.1 = 0 ∧ bitI .andNot .u64 s.2.2.1 t.2.2.1 = 0 ∧ bitI .andNot .u64 s.2.2.2 t.2.2.2 = 0)
def belowQ (s : St) (n : Nat) : Bool := insideQ s (mw n 0, (mw n 1, (mw n 2, mw n 3)))
theorem add_step : ∀ r : Nat, r < 64 → wrp .u64 (((2 ^ r - 1 : Nat) : Int) + wrp .u64 (shlI .u64 1 (r : Int))) = ((2 ^ (r + 1) - 1 : Nat) : Int) := by decide +kernel
theorem mw_at {n j r : Nat} (h : n = 64 * j + r) (hr : r < 64) : mw n j = ((2 ^ r - 1 : Nat) : Int) ∧ mw (n + 1) j = ((2 ^ (r + 1) - 1 : Nat) : Int) := by
  subst h
  refine ⟨?_, ?_⟩
  · rw [mw, show min (64 * j + r - 64 * j) 64 = r by omega]
  · rw [mw, show min (64 * j + r + 1 - 64 * j) 64 = r + 1 by omega]
theorem mw_ne {n i j r : Nat} (h : n = 64 * j + r) (hr : r < 64) (hi : i ≠ j) : mw (n + 1) i = mw n i := by
  subst h
  rw [mw, mw]
  rcases Nat.lt_or_gt_of_ne hi with h | h
  · rw [show min (64 * j + r + 1 - 64 * i) 64 = 64 by omega, show min (64 * j + r - 64 * i) 64 = 64 by omega]
  · rw [show min (64 * j + r + 1 - 64 * i) 64 = 0 by omega, show min (64 * j + r - 64 * i) 64 = 0 by omega]
theorem sp_rrange {n : Nat} (hn : n ≤ 256) : S_ref03_Range 0 n = some (mw n 0, (mw n 1, (mw n 2, (mw n 3, ())))) := by
  refine u_ref03_Range (N := n + 1) ?_
  simp [M_ref03_Range, show maxI 0 0 = 0 from rfl, show minI (n : Int) 256 = n by simp [minI]; omega]
  refine iter_to (fun d => n - d.2.2.2.2.2.2.2.2.1.toNat) (fun d => ∃ k : Nat, d = (0, (0, (0, (0, (mw k 0, (mw k 1, (mw k 2, (mw k 3, ((k : Int), ()))))))))) ∧ k ≤ n) ?_ _ _ ⟨0, rfl, Nat.zero_le _⟩ (by simp)
  rintro _ again ⟨k, rfl, hk⟩ ih
  by_cases h : k < n
  · have hw : wrp .i64 ((k : Int) + 1) = (k : Int) + 1 := wi64 (by omega) (by omega)
    obtain ⟨j, r, hj, hr⟩ : ∃ j r, k = 64 * j + r ∧ r < 64 := ⟨k / 64, k % 64, by omega, by omega⟩
    obtain ⟨e1, e2⟩ := mw_at hj hr
    have e3 := add_step r hr
    have d1 : wrp .i64 ((k : Int) / 64) = j := by rw [show (k : Int) / 64 = j by omega]; exact wi64 (by omega) (by omega)
    have d2 : (k : Int).tmod 64 = r := by rw [Int.tmod_eq_emod_of_nonneg (by omega)]; omega
    have d3 : wrp .u64 (r : Int) = r := wu64 (by omega) (by omega)
    rw [← e1, ← e2] at e3
    have := ih (0, (0, (0, (0, (mw (k + 1) 0, (mw (k + 1) 1, (mw (k + 1) 2, (mw (k + 1) 3, ((k : Int) + 1, ()))))))))) ⟨k + 1, rfl, h⟩ (by simp; omega)
    have h4 : j = 0 ∨ j = 1 ∨ j = 2 ∨ j = 3 := by omega
    rcases h4 with rfl | rfl | rfl | rfl
    · rw [mw_ne hj hr (i := 1) (by omega), mw_ne hj hr (i := 2) (by omega), mw_ne hj hr (i := 3) (by omega)] at this
      simpa [h, d1, d2, d3, e3, hw] using this
    · rw [mw_ne hj hr (i := 0) (by omega), mw_ne hj hr (i := 2) (by omega), mw_ne hj hr (i := 3) (by omega)] at this
      simpa [h, d1, d2, d3, e3, hw] using this
    · rw [mw_ne hj hr (i := 1) (by omega), mw_ne hj hr (i := 0) (by omega), mw_ne hj hr (i := 3) (by omega)] at this
      simpa [h, d1, d2, d3, e3, hw] using this
    · rw [mw_ne hj hr (i := 1) (by omega), mw_ne hj hr (i := 2) (by omega), mw_ne hj hr (i := 0) (by omega)] at this
      simpa [h, d1, d2, d3, e3, hw] using this
  · have : k = n := by omega
    subst this
    simp
@[simp] theorem sp_rsub {a b c d e f g h : Int} : S_ref03_Sub a b c d e f g h = some (bitI .andNot .u64 a e, (bitI .andNot .u64 b f, (bitI .andNot .u64 c g, (bitI .andNot .u64 d h, ())))) := u_ref03_Sub (N := 0) (by simp [M_ref03_Sub])
theorem sp_rinside {a b c d e f g h : Int} : S_ref03_Inside a b c d e f g h = some (insideQ (a, (b, (c, d))) (e, (f, (g, h))), ()) := by
  refine u_ref03_Inside (N := 0) ?_
  simp [M_ref03_Inside, eqL, insideQ]
/-- A loop that goes on while all is well. -/
theorem iter_all {α β : Type} {l : List α} {p : α → Bool} {bad fin : Option β} {f : Int × Unit → (Int × Unit → Option β) → Option β} {N : Nat} (hN : l.length < N) (hl : l.length ≤ 1000000000000000000)
    (hf : ∀ (k : Nat) again, (hk : k < l.length) → f ((k : Int), ()) again = if p l[k] = true then again (wrp .i64 ((k : Int) + 1), ()) else bad) (he : ∀ again, f ((l.length : Int), ()) again = fin) : iter f N (0, ()) = if l.all p = true then fin else bad := by
  refine iter_to (fun d => l.length - d.1.toNat) (fun d => ∃ k : Nat, d = ((k : Int), ()) ∧ k ≤ l.length ∧ l.all p = (l.drop k).all p) ?_ _ _ ⟨0, rfl, Nat.zero_le _, rfl⟩ (by simpa using hN)
  rintro _ again ⟨k, rfl, hk, hr⟩ ih
  by_cases h : k < l.length
  · have hw : wrp .i64 ((k : Int) + 1) = (k : Int) + 1 := wi64 (by omega) (by omega)
    rw [hf k again h, hw]
    rw [List.drop_eq_getElem_cons h, List.all_cons] at hr
    cases hp : p l[k] with
    | true =>
      rw [hp] at hr
      exact (if_pos rfl).trans (ih _ ⟨k + 1, rfl, h, by simpa using hr⟩ (by simp; omega))
    | false =>
      rw [hp] at hr
      simp [hr]
  · have : k = l.length := by omega
    subst this
    rw [he, hr, List.drop_eq_nil_of_le (Nat.le_refl _)]
    simp
def typeQ (t : Int) : Bool := decide (t = 1) || decide (t = 2)
@[simp] theorem sp_rMay11 {n : Int} : S_ref11_May n = some (typeQ n, ()) := u_ref11_May (N := 0) (by by_cases h : n = 1 <;> simp [M_ref11_May, typeQ, h])
def sigQ (l : List Int) (m : Int) : Bool := decide ((l.length : Int) ≤ m) && l.all typeQ
theorem sp_rRight11 {l : List Int} {m : Int} (hl : l.length ≤ 1000000000000000000) : S_ref11_Right l m = some (sigQ l m, ()) := by
  refine u_ref11_Right (N := l.length + 1) ?_
  simp [M_ref11_Right]
  refine (iter_all (p := typeQ) (bad := some (false, ())) (fin := some (decide ((l.length : Int) ≤ m), ())) (by omega) hl ?_ ?_).trans ?_
  · intro k again hk
    simp [hk, bnd_get hk, cnd_b]
  · intro again
    simp
  · cases ha : l.all typeQ <;> simp [sigQ, ha]
def lineQ (v : Int) : Bool := decide (0 ≤ v ∧ v ≤ 65535)
def linesQ (l : List Int) : Bool := decide (l.length ≤ 2000) && l.all lineQ
theorem sp_rRight12 {l : List Int} (hl : l.length ≤ 1000000000000000000) : S_ref12_Right l = some (linesQ l, ()) := by
  refine u_ref12_Right (N := l.length + 1) ?_
  simp [M_ref12_Right]
  refine (iter_all (p := lineQ) (bad := some (false, ())) (fin := some (decide ((l.length : Int) ≤ 2000), ())) (by omega) hl ?_ ?_).trans ?_
  · intro k again hk
    by_cases h1 : l[k] < 0
    · simp [hk, bnd_get hk, lineQ, h1, show ¬0 ≤ l[k] by omega]
    · by_cases h2 : 65535 < l[k]
      · simp [hk, bnd_get hk, lineQ, h1, h2, show ¬l[k] ≤ 65535 by omega]
      · simp [hk, bnd_get hk, lineQ, h1, h2, show 0 ≤ l[k] by omega, show l[k] ≤ 65535 by omega]
  · intro again
    simp
  · cases ha : l.all lineQ <;> simp [linesQ, show (l.length : Int) ≤ 2000 ↔ l.length ≤ 2000 by omega, ha]
def mapsQ (l : List St) (n : Nat) : Bool := decide (l.length ≤ 2000) && l.all fun s => belowQ s n
theorem sp_rRight14 {l : List St} {n : Nat} (hl : l.length ≤ 1000000000000000000) (hn : n ≤ 256) : S_ref14_Right l n = some (mapsQ l n, ()) := by
  refine u_ref14_Right (N := l.length + 1) ?_
  simp [M_ref14_Right]
  refine (iter_all (p := fun s => belowQ s n) (bad := some (false, ())) (fin := some (decide ((l.length : Int) ≤ 2000), ())) (by omega) hl ?_ ?_).trans ?_
  · intro k again hk
    obtain ⟨a, b, c, d, e⟩ : ∃ a b c d, l[k] = (a, (b, (c, d))) := ⟨_, _, _, _, rfl⟩
    simp [hk, bnd_get hk, cnd_b, sp_rrange hn, sp_rinside, belowQ, e]
  · intro again
    simp
  · cases ha : l.all fun s => belowQ s n <;> simp [mapsQ, show (l.length : Int) ≤ 2000 ↔ l.length ≤ 2000 by omega, ha]
def bareQ (nodes : List Nd) (at' : List Int) (live : List St) : Bool := decide (nodes.length = 0 ∧ at'.length = 0 ∧ live.length = 0)
theorem sp_rRight13 {l : List Nd} (h : l.length ≤ 1000000000) : S_ref13_Right l = some (rightTree (l.map nodeOf), ()) := by simp [S_ref13_Right, h]
section
variable {name : List UInt8} {inner : Bool} {outer params results locals lines at' : List Int} {code : List (Int × Int)} {nodes : List Nd} {live : List St}
@[simp] theorem sp_Bare : S_fnc_Bare name inner outer params results locals code lines nodes at' live = some (bareQ nodes at' live, ()) := u_fnc_Bare (N := 0) (by
  by_cases h1 : nodes.length = 0 <;> by_cases h2 : at'.length = 0 <;> simp [M_fnc_Bare, bareQ, h1, h2, show ∀ n : Nat, (n : Int) = 0 ↔ n = 0 from fun n => by omega])
theorem sp_rBare (h1 : nodes.length ≤ 1000000000000) (h2 : at'.length ≤ 1000000000000) (h3 : live.length ≤ 1000000000000) : S_ref15_Bare name inner outer params results locals code lines nodes at' live = some (bareQ nodes at' live, ()) := u_ref15_Bare (N := 0) (by
  simp [M_ref15_Bare]
  rw [wi64 (n := (nodes.length : Int) + at'.length) (by omega) (by omega), wi64 (n := (nodes.length : Int) + at'.length + live.length) (by omega) (by omega), Bool.eq_iff_iff]
  unfold bareQ
  simp only [decide_eq_true_eq]
  omega)
/-- A place's node. -/
def atQ (n : Nat) (v : Int) : Bool := decide (0 ≤ v ∧ v < n)
def tablesQ (code : List (Int × Int)) (nodes : List Nd) (at' : List Int) (live : List St) (k : Nat) : Bool :=
  bareQ nodes at' live || (rightTree (nodes.map nodeOf) && decide (at'.length = code.length) && decide (live.length = code.length) && at'.all (atQ nodes.length) && mapsQ live k)
/-- Lists are no longer than there is room for. -/
def LenF (outer params results locals : List Int) (code : List (Int × Int)) (lines : List Int) (nodes : List Nd) (at' : List Int) (live : List St) : Prop :=
  outer.length ≤ 1000000000 ∧ params.length ≤ 1000000000 ∧ results.length ≤ 1000000000 ∧ locals.length ≤ 1000000000 ∧ code.length ≤ 1000000000 ∧ lines.length ≤ 1000000000 ∧ nodes.length ≤ 1000000000 ∧ at'.length ≤ 1000000000 ∧ live.length ≤ 1000000000
theorem sp_rtables (hp : params.length + results.length + locals.length ≤ 256) (h7 : nodes.length ≤ 1000000000) (h8 : at'.length ≤ 1000000000) (h9 : live.length ≤ 1000000000) :
    S_ref15_tables name inner outer params results locals code lines nodes at' live (params.length + results.length + locals.length) = some (tablesQ code nodes at' live (params.length + results.length + locals.length), ()) := by
  refine u_ref15_tables (N := at'.length + 1) ?_
  have hM := sp_rRight14 (l := live) (n := params.length + results.length + locals.length) (by omega) hp
  have hc : ((params.length + results.length + locals.length : Nat) : Int) = (params.length : Int) + results.length + locals.length := by omega
  rw [hc] at hM
  simp [M_ref15_tables, tablesQ, sp_rRight13 (l := nodes) (by omega), sp_rBare (nodes := nodes) (at' := at') (live := live) (by omega) (by omega) (by omega), hM, show ∀ a b : Nat, (a : Int) = b ↔ a = b from fun a b => by omega]
  cases hb : bareQ nodes at' live with
  | true => simp [cnd_b]
  | false =>
    cases hr : rightTree (nodes.map nodeOf) with
    | false => simp [cnd_b]
    | true =>
      by_cases e1 : at'.length = code.length
      · by_cases e2 : live.length = code.length
        · cases hm : mapsQ live (params.length + results.length + locals.length) with
          | false => simp [cnd_b, e1, e2]
          | true =>
            simp [cnd_b, e1, e2]
            refine (iter_all (l := at') (p := atQ nodes.length) (bad := some (false, ())) (fin := some (true, ())) (by omega) (by omega) ?_ ?_).trans ?_
            · intro k again hk
              have hk2 : k < code.length := by omega
              by_cases h1 : at'[k] < 0
              · simp [hk2, bnd_get hk, atQ, h1, show ¬0 ≤ at'[k] by omega]
              · by_cases h2 : (nodes.length : Int) ≤ at'[k]
                · simp [hk2, bnd_get hk, atQ, h1, h2, show ¬at'[k] < nodes.length by omega]
                · simp [hk2, bnd_get hk, atQ, h1, h2, show 0 ≤ at'[k] by omega, show at'[k] < nodes.length by omega]
            · intro again
              simp [e1]
            · cases ha : at'.all (atQ nodes.length) <;> simp [ha]
        · simp [cnd_b, e1, e2]
      · simp [cnd_b, e1]
def typesQ (inner : Bool) (outer params results locals : List Int) : Bool := sigQ params 8 && sigQ results 4 && sigQ locals 256 && sigQ outer 4 && (inner || decide (outer.length = 0))
theorem typesB_len {inner : Bool} {outer params results locals : List Int} (h : typesQ inner outer params results locals = true) : params.length ≤ 8 ∧ results.length ≤ 4 ∧ locals.length ≤ 256 ∧ outer.length ≤ 4 := by
  simp only [typesQ, sigQ, Bool.and_eq_true, decide_eq_true_eq] at h
  omega
/-- Why a function can't be laid. -/
def canE (name : List UInt8) (inner : Bool) (outer params results locals : List Int) (code : List (Int × Int)) (lines : List Int) (nodes : List Nd) (at' : List Int) (live : List St) : Int :=
  if mayQ name = false then 7 else if typesQ inner outer params results locals = false then 9 else
  if 256 < params.length + results.length + locals.length ∨ code.length < 1 ∨ 2000 < code.length then 6 else
  if code.all (fun p => rightN p.1 p.2) = false then 8 else if lines.length ≠ code.length ∨ linesQ lines = false then 19 else
  if tablesQ code nodes at' live (params.length + results.length + locals.length) = false then 14 else 0
theorem sp_rCan (hn : Len name) (h : LenF outer params results locals code lines nodes at' live) : S_ref15_Can name inner outer params results locals code lines nodes at' live = some (canE name inner outer params results locals code lines nodes at' live, ()) := by
  obtain ⟨g1, g2, g3, g4, g5, g6, g7, g8, g9⟩ := h
  refine u_ref15_Can (N := code.length + 1) ?_
  unfold canE
  have w1 : wrp .i64 ((params.length : Int) + results.length) = (params.length : Int) + results.length := wi64 (by omega) (by omega)
  have w2 : wrp .i64 ((params.length : Int) + results.length + locals.length) = (params.length : Int) + results.length + locals.length := wi64 (by omega) (by omega)
  simp [M_ref15_Can, sp_rMay hn, sp_rRight11 (l := outer) (by omega), sp_rRight11 (l := params) (by omega), sp_rRight11 (l := results) (by omega), sp_rRight11 (l := locals) (by omega), w1, w2]
  cases h1 : mayQ name with
  | false => simp
  | true =>
    have hJ : ∀ {β : Type}, (cnd (sigQ outer 4) (cnd (sigQ params 8) (cnd (sigQ results 4) (cnd (sigQ locals 256) (if 0 < outer.length then leftK (!inner, ()) else leftK (false, ())) (leftK (true, ()))) (leftK (true, ()))) (leftK (true, ()))) (leftK (true, ())) : Option ((Bool × Unit) ⊕ β)) = leftK (!typesQ inner outer params results locals, ()) := by
      intro β
      unfold typesQ
      cases sigQ outer 4 <;> cases sigQ params 8 <;> cases sigQ results 4 <;> cases sigQ locals 256 <;> simp
      by_cases h0 : 0 < outer.length
      · have : outer ≠ [] := fun e => by subst e; simp at h0
        cases inner <;> simp [h0, this]
      · have : outer = [] := List.eq_nil_of_length_eq_zero (by omega)
        simp [this]
    rw [hJ]
    cases h2 : typesQ inner outer params results locals with
    | false => simp
    | true =>
      obtain ⟨b1, b2, b3, b4⟩ := typesB_len h2
      by_cases h3 : 256 < params.length + results.length + locals.length
      · simp [h3, show (256 : Int) < (params.length : Int) + results.length + locals.length by omega]
      · simp only [h3, show ¬(256 : Int) < (params.length : Int) + results.length + locals.length by omega, if_false, false_or]
        by_cases h4 : code.length < 1
        · simp [show code = [] from List.eq_nil_of_length_eq_zero (by omega)]
        · have hc : code ≠ [] := fun e => by subst e; simp at h4
          by_cases h5 : 2000 < code.length
          · simp [hc, h5, show ¬(code.length : Int) < 1 by omega, show (2000 : Int) < code.length by omega]
          · simp [hc, h5, show ¬(code.length : Int) < 1 by omega, show ¬(2000 : Int) < code.length by omega]
            refine (iter_all (l := code) (p := fun p => rightN p.1 p.2) (bad := some (8, ())) (fin := some (if ¬lines.length = code.length ∨ linesQ lines = false then 19 else if tablesQ code nodes at' live (params.length + results.length + locals.length) = false then 14 else 0, ())) (by omega) (by omega) ?_ ?_).trans ?_
            · intro k again hk
              simp [hk, bnd_get hk, cnd_b, sp_rRight]
            · intro again
              have e6 : ((lines.length : Int) = code.length) ↔ lines.length = code.length := by omega
              have hT := sp_rtables (name := name) (inner := inner) (outer := outer) (lines := lines) (code := code) (show params.length + results.length + locals.length ≤ 256 by omega) g7 g8 g9
              simp [e6, sp_rRight12 (l := lines) (by omega), hT]
              by_cases h6 : lines.length = code.length <;> cases h7 : linesQ lines <;> cases h8 : tablesQ code nodes at' live (params.length + results.length + locals.length) <;> simp [h6]
            · cases ha : code.all fun p => rightN p.1 p.2 <;> simp
end
end Go.Proofs.YtkdnbnkbnegckaaDoor
