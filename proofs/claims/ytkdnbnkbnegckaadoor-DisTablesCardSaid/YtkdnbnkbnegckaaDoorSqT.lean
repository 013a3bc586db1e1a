/- Sets of slots: words and bits. The slots of a set, rising: plain. The tables' text, by the reference. -/
import Derived.Test.YtkdnbnkbnegckaaDoorSigP
import Derived.Lib.TrailingZeros
import Derived.Laws.Bits64b
import Derived.Test.YtkdnbnkbnegckaaDoorSqC
namespace Go.Proofs.YtkdnbnkbnegckaaDoor

def word (s : SetT) (i : Nat) : Nat := if i = 0 then s.a else if i = 1 then s.b else if i = 2 then s.c else s.d
def hasS (s : SetT) (n : Nat) : Bool := decide (n < 256) && (word s (n / 64)).testBit (n % 64)
theorem word_64 {s : SetT} (h : Set64 s) (k : Nat) : word s k < 18446744073709551616 := by
  obtain ⟨h1, h2, h3, h4⟩ := h
  unfold word
  split
  · exact h1
  · split
    · exact h2
    · split
      · exact h3
      · exact h4
end Go.Proofs.YtkdnbnkbnegckaaDoor
namespace Go.Proofs.YtkdnbnkbnegckaaDoor
open Go.RowKit

def bitsL (x : Nat) : List Nat := (List.range 64).filter fun j => x.testBit j
def slotsOf (s : SetT) (n : Nat) : List Nat := (List.range n).filter (hasS s)
theorem bitsL_zero : bitsL 0 = [] := by simp [bitsL]
theorem low_bits (k m j : Nat) : (2 ^ k * (2 * m + 1)).testBit j = if j < k then false else (2 * m + 1).testBit (j - k) := by
  rw [Nat.mul_comm, Nat.testBit_mul_two_pow]
  by_cases h : j < k
  · simp [h, Nat.not_le.2 h]
  · simp [h, Nat.not_lt.1 h]
theorem pred_bits (k m j : Nat) : (2 ^ k * (2 * m + 1) - 1).testBit j = if j < k then true else (2 * m).testBit (j - k) := by
  have hp : 0 < 2 ^ k := Nat.two_pow_pos k
  have e : 2 ^ k * (2 * m + 1) - 1 = 2 ^ k * (2 * m) + (2 ^ k - 1) := by rw [Nat.mul_add]; omega
  rw [e, Nat.testBit_two_pow_mul_add _ (by omega)]
  by_cases h : j < k
  · simp [h, Nat.testBit_two_pow_sub_one]
  · simp [h]
theorem range_split {k : Nat} (hk : k < 64) (p : Nat → Bool) : (List.range 64).filter p = (List.range' 0 k).filter p ++ (if p k then [k] else []) ++ (List.range' (k + 1) (63 - k)).filter p := by
  have e : List.range 64 = List.range' 0 k ++ (k :: List.range' (k + 1) (63 - k)) := by
    rw [List.range_eq_range', ← List.range'_succ]
    have := List.range'_append_1 (s := 0) (m := k) (n := 63 - k + 1)
    rw [Nat.zero_add, show k + (63 - k + 1) = 64 by omega] at this
    exact this.symm
  rw [e, List.filter_append, List.filter_cons]
  cases p k <;> simp
theorem bitsL_step {x : Nat} (h0 : x ≠ 0) (h : x < 18446744073709551616) : bitsL x = Lib.ctz 64 x :: bitsL (x &&& (x - 1)) ∧ Lib.ctz 64 x < 64 := by
  obtain ⟨m, hm, hk⟩ := Lib.ctzFrom_spec 64 x (by omega) h
  have e : Lib.ctz 64 x = Lib.ctzFrom 64 x := by simp [Lib.ctz, h0]
  rw [e]
  refine ⟨?_, hk⟩
  generalize Lib.ctzFrom 64 x = k at *
  have hx : ∀ j, x.testBit j = if j < k then false else (2 * m + 1).testBit (j - k) := fun j => by rw [hm]; exact low_bits k m j
  have hy : ∀ j, (x &&& (x - 1)).testBit j = if j < k then false else if j = k then false else x.testBit j := fun j => by
    rw [Nat.testBit_and, hx j]
    rw [show (x - 1).testBit j = if j < k then true else (2 * m).testBit (j - k) by rw [hm]; exact pred_bits k m j]
    by_cases h1 : j < k
    · simp [h1]
    · by_cases h2 : j = k
      · subst h2
        simp
      · obtain ⟨i, hi⟩ : ∃ i, j - k = i + 1 := ⟨j - k - 1, by omega⟩
        simp only [h1, h2, if_false, hi, Nat.testBit_succ]
        rw [show (2 * m + 1) / 2 = m by omega, show 2 * m / 2 = m by omega, Bool.and_self]
  rw [bitsL, bitsL, range_split hk, range_split hk]
  have f1 : (List.range' 0 k).filter (fun j => x.testBit j) = [] := List.filter_eq_nil_iff.2 fun j hj => by
    have := (List.mem_range'_1.1 hj).2
    simp [hx j, show j < k by omega]
  have f2 : (List.range' 0 k).filter (fun j => (x &&& (x - 1)).testBit j) = [] := List.filter_eq_nil_iff.2 fun j hj => by
    have := (List.mem_range'_1.1 hj).2
    simp only [hy j, show j < k by omega, if_true]
    simp
  have f3 : (List.range' (k + 1) (63 - k)).filter (fun j => (x &&& (x - 1)).testBit j) = (List.range' (k + 1) (63 - k)).filter (fun j => x.testBit j) := List.filter_congr fun j hj => by
    have := (List.mem_range'_1.1 hj).1
    rw [hy j, if_neg (by omega), if_neg (by omega)]
  have g1 : x.testBit k = true := by rw [hx k]; simp
  have g2 : (x &&& (x - 1)).testBit k = false := by rw [hy k]; simp
  rw [f1, f2, f3, g1, g2]
  simp
theorem and_lt {x : Nat} (h0 : x ≠ 0) : x &&& (x - 1) < x := Nat.lt_of_le_of_lt Nat.and_le_right (by omega)
theorem and_pred_u64 {x : Nat} (h0 : x ≠ 0) (h : x < 18446744073709551616) : bits .and .u64 (x : Int) ((x : Int) - 1) = ((x &&& (x - 1) : Nat) : Int) := by
  rw [show (x : Int) - 1 = ((x - 1 : Nat) : Int) by omega, bits_and_u64_nat x _ h (by omega)]
theorem slotsOf_word {s : SetT} {k : Nat} (hk : k < 4) : slotsOf s (64 * (k + 1)) = slotsOf s (64 * k) ++ (bitsL (word s k)).map (64 * k + ·) := by
  rw [slotsOf, show 64 * (k + 1) = 64 * k + 64 by omega, List.range_add, List.filter_append, List.filter_map]
  congr 2
  refine List.filter_congr fun j hj => ?_
  have hj := List.mem_range.1 hj
  show hasS s (64 * k + j) = _
  rw [hasS, decide_eq_true (by omega), Bool.true_and, show (64 * k + j) / 64 = k by omega, show (64 * k + j) % 64 = j by omega]
theorem slotsOf_len (s : SetT) (n : Nat) : (slotsOf s n).length ≤ n := by
  have := List.length_filter_le (hasS s) (List.range n)
  rwa [List.length_range] at this
theorem slotsOf_mem {s : SetT} {n x : Nat} (h : x ∈ slotsOf s n) : x < n := List.mem_range.1 (List.mem_filter.1 h).1
theorem setI_word {s : SetT} {k : Nat} (hk : k < 4) : (setI s)[k]? = some ((word s k : Nat) : Int) := by
  rcases k with _ | _ | _ | _ | k <;> first | rfl | omega
end Go.Proofs.YtkdnbnkbnegckaaDoor
namespace Go.Proofs.YtkdnbnkbnegckaaDoor
open Go.RowKit
set_option maxRecDepth 20000
set_option linter.unusedVariables false
def setOf (x : St) : SetT := ⟨x.1.toNat, x.2.1.toNat, x.2.2.1.toNat, x.2.2.2.toNat⟩
def U64S (x : St) : Prop := (0 ≤ x.1 ∧ x.1 < 18446744073709551616) ∧ (0 ≤ x.2.1 ∧ x.2.1 < 18446744073709551616) ∧ (0 ≤ x.2.2.1 ∧ x.2.2.1 < 18446744073709551616) ∧ (0 ≤ x.2.2.2 ∧ x.2.2.2 < 18446744073709551616)
def stOf (s : SetT) : St := ((s.a : Int), ((s.b : Int), ((s.c : Int), (s.d : Int))))
theorem setOf_ints {x : St} (h : U64S x) : stOf (setOf x) = x := by
  obtain ⟨h1, h2, h3, h4⟩ := h
  simp only [stOf, setOf, Int.toNat_of_nonneg h1.1, Int.toNat_of_nonneg h2.1, Int.toNat_of_nonneg h3.1, Int.toNat_of_nonneg h4.1]
theorem setOf_64 {x : St} (h : U64S x) : Set64 (setOf x) := by
  obtain ⟨h1, h2, h3, h4⟩ := h
  simp only [Set64, setOf]
  omega
def setAt (live : List St) (i : Nat) : St := live[i]?.getD (0, (0, (0, 0)))
theorem setAt_ok {live : List St} (h : ∀ x ∈ live, U64S x) (i : Nat) : U64S (setAt live i) := by
  unfold setAt
  cases hq : live[i]? with
  | none => exact ⟨by decide, by decide, by decide, by decide⟩
  | some v => exact h v (List.mem_of_getElem? hq)
theorem shr_bit (x : Nat) {r : Nat} (hr : r < 64) : (shrI .u64 (x : Int) (r : Int)).tmod 2 = if x.testBit r = true then 1 else 0 := by
  have e : shrI .u64 (x : Int) (r : Int) = ((x / 2 ^ r : Nat) : Int) := by
    simp only [shrI]
    rw [Int.toNat_natCast, show min r (IntKind.u64.bits) = r from Nat.min_eq_left (Nat.le_of_lt hr), Int.fdiv_eq_ediv_of_nonneg _ (by exact Int.le_of_lt (Int.pow_pos (by decide)))]
    push_cast
    rfl
  have hb : x.testBit r = decide (x / 2 ^ r % 2 = 1) := Nat.testBit_eq_decide_div_mod_eq
  rw [e, Int.tmod_eq_emod_of_nonneg (Int.natCast_nonneg _), hb]
  generalize x / 2 ^ r = q
  by_cases h : q % 2 = 1 <;> simp [h] <;> omega
theorem sp_Has {s : SetT} {n : Nat} (hn : n < 256) : S_ref03_Has s.a s.b s.c s.d n = some (hasS s n, ()) := by
  refine u_ref03_Has (N := 0) ?_
  obtain ⟨j, r, hj, hr⟩ : ∃ j r, n = 64 * j + r ∧ r < 64 := ⟨n / 64, n % 64, by omega, by omega⟩
  have d1 : wrp .i64 ((n : Int) / 64) = j := by rw [show (n : Int) / 64 = j by omega]; exact wi64 (by omega) (by omega)
  have d2 : (n : Int).tmod 64 = r := by rw [Int.tmod_eq_emod_of_nonneg (by omega)]; omega
  have d3 : wrp .u64 (r : Int) = r := wu64 (by omega) (by omega)
  have hw : hasS s n = (word s j).testBit r := by rw [hasS, decide_eq_true hn, Bool.true_and, show n / 64 = j by omega, show n % 64 = r by omega]
  rw [hw]
  have h4 : j = 0 ∨ j = 1 ∨ j = 2 ∨ j = 3 := by omega
  rcases h4 with rfl | rfl | rfl | rfl <;> simp [M_ref03_Has, show (n : Int) ≤ 255 by omega, d1, d2, d3, word] <;> rw [shr_bit _ hr] <;> split <;> simp_all
theorem slotsOf_succ (s : SetT) (k : Nat) : slotsOf s (k + 1) = slotsOf s k ++ if hasS s k = true then [k] else [] := by
  rw [slotsOf, List.range_succ, List.filter_append]
  cases h : hasS s k <;> simp [slotsOf, h]
theorem sp_List {s : SetT} : S_ref03_List s.a s.b s.c s.d = some ((slotsOf s 256).map fun n : Nat => (n : Int), ()) := by
  refine u_ref03_List (N := 257) ?_
  simp [M_ref03_List]
  refine iter_to (fun d => 256 - d.2.1.toNat) (fun d => ∃ k : Nat, d = ((slotsOf s k).map fun n : Nat => (n : Int), ((k : Int), ())) ∧ k ≤ 256) ?_ _ _ ⟨0, by simp [slotsOf], by omega⟩ (by simp)
  rintro _ again ⟨k, rfl, hk⟩ ih
  have hl := slotsOf_len s k
  by_cases h : k < 256
  · have hw : wrp .i64 ((k : Int) + 1) = (k : Int) + 1 := wi64 (by omega) (by omega)
    have := ih ((slotsOf s (k + 1)).map fun n : Nat => (n : Int), ((k : Int) + 1, ())) ⟨k + 1, rfl, h⟩ (by simp; omega)
    have hr := room_t (a := (slotsOf s k).length) (b := 1) (c := 8) (by omega) (by omega)
    rw [slotsOf_succ] at this
    cases hb : hasS s k with
    | true =>
      rw [hb] at this
      simp [show (k : Int) < 256 by omega, sp_Has h, hb, hr, hw] at this ⊢
      exact this
    | false =>
      rw [hb] at this
      simp [show (k : Int) < 256 by omega, sp_Has h, hb, hw] at this ⊢
      exact this
  · obtain rfl : k = 256 := by omega
    simp
theorem sp_mapsAt {live : List St} {i : Nat} : S_maps_At live i = some ((setAt live i).1, ((setAt live i).2.1, ((setAt live i).2.2.1, ((setAt live i).2.2.2, ())))) := by
  refine u_maps_At (N := 0) ?_
  by_cases h : i < live.length
  · simp [M_maps_At, show ¬(i : Int) < 0 by omega, show ¬(live.length : Int) ≤ i by omega, setAt, h, bnd_get h]
  · simp [M_maps_At, show ¬(i : Int) < 0 by omega, show (live.length : Int) ≤ i by omega, setAt, List.getElem?_eq_none (show live.length ≤ i by omega)]
theorem sp_rmapsAt {live : List St} {i : Nat} : S_ref14_At live i = some ((setAt live i).1, ((setAt live i).2.1, ((setAt live i).2.2.1, ((setAt live i).2.2.2, ())))) := by
  refine u_ref14_At (N := 0) ?_
  by_cases h : i < live.length
  · simp [M_ref14_At, show ¬(i : Int) < 0 by omega, show ¬(live.length : Int) ≤ i by omega, setAt, h, bnd_get h]
  · simp [M_ref14_At, show ¬(i : Int) < 0 by omega, show (live.length : Int) ≤ i by omega, setAt, List.getElem?_eq_none (show live.length ≤ i by omega)]
def slB (n : Nat) : List UInt8 := 32 :: decB (n : Int)
def slT (s : SetT) : List UInt8 := (slotsOf s 256).flatMap slB
def rowT (at' : List Int) (live : List St) (i : Nat) : List UInt8 := decB (i : Int) ++ 32 :: (decB (atL at' i) ++ (slT (setOf (setAt live i)) ++ [10]))
def rowsT (at' : List Int) (live : List St) (n : Nat) : List UInt8 := (List.range n).flatMap (rowT at' live)
def tabT (n : Nat) (nodes : List Nd) (at' : List Int) (live : List St) : List UInt8 := if bareQ nodes at' live = true then [] else treeText (nodes.map nodeOf) nodes.length ++ rowsT at' live n
theorem flat_le {l : List Nat} (h : ∀ n ∈ l, n < 256) : (l.flatMap slB).length ≤ l.length * 30 := flatMap_le fun n hn => by
  have := h n hn
  have := decB_len (n := (n : Int)) (by omega) (by omega)
  simp only [slB, List.length_cons]
  omega
theorem slT_len (s : SetT) : (slT s).length ≤ 8000 := by
  have h1 := flat_le (l := slotsOf s 256) fun n hn => slotsOf_mem hn
  have h2 := slotsOf_len s 256
  unfold slT
  omega
theorem rowT_len {at' : List Int} {live : List St} {i : Nat} (ha : ∀ v ∈ at', I64s v) (hi : i ≤ 1000000000) : (rowT at' live i).length ≤ 8100 := by
  have h1 := slT_len (setOf (setAt live i))
  have h2 := decB_len (n := (i : Int)) (by omega) (by omega)
  have h3 := atL_ok (i := i) ha
  have h4 := decB_len h3.1 h3.2
  simp only [rowT, List.length_append, List.length_cons, List.length_nil]
  omega
theorem rowsT_len {at' : List Int} {live : List St} {n : Nat} (ha : ∀ v ∈ at', I64s v) (hn : n ≤ 1000000) : (rowsT at' live n).length ≤ n * 8100 := by
  have := flatMap_le (l := List.range n) (g := rowT at' live) (c := 8100) fun i hi => rowT_len ha (by have := List.mem_range.1 hi; omega)
  rwa [List.length_range] at this
theorem rowsT_succ (at' : List Int) (live : List St) (k : Nat) : rowsT at' live (k + 1) = rowsT at' live k ++ rowT at' live k := by
  rw [rowsT, List.range_succ, List.flatMap_append, List.flatMap_singleton, rowsT]
/-- One row's slots. -/
theorem iter_slots {β : Type} {l : List Nat} (hl : ∀ n ∈ l, n < 256) (hn : l.length ≤ 256) {b : List UInt8} (hb : b.length ≤ 1000000000000000) {N : Nat} (hN : l.length < N) {k : List UInt8 → Option β} {f : List UInt8 × (Int × Unit) → (List UInt8 × (Int × Unit) → Option β) → Option β}
    (hf : ∀ (j : Nat) (h : j < l.length) (acc : List UInt8) again, acc.length ≤ 1000000000100000 → f (acc, ((j : Int), ())) again = again (acc ++ 32 :: decB (l[j] : Int), ((j : Int) + 1, ())))
    (he : ∀ (acc : List UInt8) again, acc.length ≤ 1000000000100000 → f (acc, ((l.length : Int), ())) again = k acc) : iter f N (b, (0, ())) = k (b ++ l.flatMap slB) := by
  refine iter_to (fun d => l.length - d.2.1.toNat) (fun d => ∃ j : Nat, d = (b ++ (l.take j).flatMap slB, ((j : Int), ())) ∧ j ≤ l.length) ?_ _ _ ⟨0, by simp, Nat.zero_le _⟩ (by simpa using hN)
  rintro _ again ⟨j, rfl, hj⟩ ih
  by_cases h : j < l.length
  · have h1 := flat_le (l := l.take j) fun n hn => hl n (List.mem_of_mem_take hn)
    have h2 : (l.take j).length ≤ 256 := by simp; omega
    rw [hf j h _ again (by rw [List.length_append]; omega)]
    refine ih _ ⟨j + 1, ?_, h⟩ (by simp; omega)
    rw [List.take_succ_eq_append_getElem h, List.flatMap_append, List.flatMap_singleton, List.append_assoc]
    rfl
  · obtain rfl : j = l.length := by omega
    have h1 := flat_le (l := l) hl
    rw [List.take_of_length_le (Nat.le_refl _), he _ _ (by rw [List.length_append]; omega)]
section
variable {name : List UInt8} {inner : Bool} {outer params results locals lines at' : List Int} {code : List (Int × Int)} {nodes : List Nd} {live : List St}
theorem sp_rTables (h7 : nodes.length ≤ 100000) (h8 : at'.length ≤ 1000000) (h9 : live.length ≤ 1000000) (hc : code.length ≤ 1000000) (ha : ∀ v ∈ at', I64s v) (hl : ∀ x ∈ live, U64S x) (hn : ∀ n ∈ nodes.map nodeOf, Node64 n) (hr : bareQ nodes at' live = true ∨ rightTree (nodes.map nodeOf) = true) :
    S_ref18_Tables name inner outer params results locals code lines nodes at' live = some (tabT code.length nodes at' live, ()) := by
  have hB := sp_rBare (name := name) (inner := inner) (outer := outer) (params := params) (results := results) (locals := locals) (code := code) (lines := lines) (nodes := nodes) (at' := at') (live := live) (by omega) (by omega) (by omega)
  refine u_ref18_Tables (N := code.length + 300) ?_
  simp [M_ref18_Tables, hB]
  cases hbb : bareQ nodes at' live with
  | true => simp [tabT, hbb]
  | false =>
    have hr2 : rightTree (nodes.map nodeOf) = true := by rcases hr with h | h; · rw [hbb] at h; cases h
                                                         · exact h
    have hT : S_ref13_Text nodes = some (treeText (nodes.map nodeOf) nodes.length, ()) := by unfold S_ref13_Text; exact if_pos ⟨h7, hn, hr2⟩
    have htl : (treeText (nodes.map nodeOf) nodes.length).length ≤ 100000 * 300000 := by
      have := treeText_len hn (by rw [List.length_map]; exact h7) nodes.length (by rw [List.length_map]; exact Nat.le_refl _)
      exact Nat.le_trans this (Nat.mul_le_mul_right _ h7)
    have hD : ∀ {n : Int}, I64s n → S_ref05_Digits n = some (decB n, ()) := fun h => sp_rDig h
    simp [hT, tabT, hbb]
    generalize treeText (nodes.map nodeOf) nodes.length = tt at *
    refine iter_to (fun d => code.length - d.2.1.toNat) (fun d => ∃ k : Nat, d = (tt ++ rowsT at' live k, ((k : Int), ())) ∧ k ≤ code.length) ?_ _ _ ⟨0, by simp [rowsT], Nat.zero_le _⟩ (by simp)
    rintro _ again ⟨k, rfl, hk⟩ ih
    by_cases h : k < code.length
    · have hw : wrp .i64 ((k : Int) + 1) = (k : Int) + 1 := wi64 (by omega) (by omega)
      have h2 := ih (tt ++ rowsT at' live (k + 1), ((k : Int) + 1, ())) ⟨k + 1, rfl, h⟩ (by simp; omega)
      have hA := atL_ok (i := k) ha
      have q1 := rowsT_len (live := live) (n := k) ha (by omega)
      have q2 := decB_len (n := (k : Int)) (by omega) (by omega)
      have q3 := decB_len hA.1 hA.2
      have q4 : k * 8100 ≤ 1000000 * 8100 := Nat.mul_le_mul_right _ (by omega)
      have hj : ∀ {β : Type}, ((if k < at'.length then bnd at'[k]? fun n15 => leftK (n15, ()) else leftK (0, ())) : Option ((Int × Unit) ⊕ β)) = leftK (atL at' k, ()) := by
        intro β
        by_cases h5 : k < at'.length
        · rw [if_pos h5, bnd_get h5, atL, List.getElem?_eq_getElem h5]; rfl
        · rw [if_neg h5, atL, List.getElem?_eq_none (by omega)]; rfl
      have hs := setOf_ints (setAt_ok hl k)
      have hL : S_ref03_List (setAt live k).1 (setAt live k).2.1 (setAt live k).2.2.1 (setAt live k).2.2.2 = some ((slotsOf (setOf (setAt live k)) 256).map fun n : Nat => (n : Int), ()) := by
        have := sp_List (s := setOf (setAt live k))
        rw [show (((setOf (setAt live k)).a : Nat) : Int) = (setAt live k).1 from congrArg (·.1) hs, show (((setOf (setAt live k)).b : Nat) : Int) = (setAt live k).2.1 from congrArg (·.2.1) hs, show (((setOf (setAt live k)).c : Nat) : Int) = (setAt live k).2.2.1 from congrArg (·.2.2.1) hs, show (((setOf (setAt live k)).d : Nat) : Int) = (setAt live k).2.2.2 from congrArg (·.2.2.2) hs] at this
        exact this
      rw [rowsT_succ, rowT, slT] at h2
      simp [h, hj, hD (n := (k : Int)) ⟨by omega, by omega⟩, hD hA, sp_rmapsAt, hL]
      have hlen := slotsOf_len (setOf (setAt live k)) 256
      have hmem : ∀ n ∈ slotsOf (setOf (setAt live k)) 256, n < 256 := fun n hn => slotsOf_mem hn
      generalize slotsOf (setOf (setAt live k)) 256 = sl at *
      refine ⟨by omega, by omega, by omega, ?_⟩
      refine (iter_slots (l := sl) (k := fun acc => again (acc ++ [10], ((k : Int) + 1, ()))) hmem hlen (by simp; omega) (by omega) ?_ ?_).trans ?_
      · intro j hj2 acc again2 hacc
        have hw2 : wrp .i64 ((j : Int) + 1) = (j : Int) + 1 := wi64 (by omega) (by omega)
        have hm := hmem sl[j] (List.getElem_mem hj2)
        have h9 := decB_len (n := (sl[j] : Int)) (by omega) (by omega)
        simp [hj2, bnd_get hj2, hD (n := (sl[j] : Int)) ⟨by omega, by omega⟩, slB, hw2]
        rw [if_pos (by omega), if_pos (by omega)]
      · intro acc again2 hacc
        simp [hw]
        omega
      · simpa using h2
    · obtain rfl : k = code.length := by omega
      simp
end
end Go.Proofs.YtkdnbnkbnegckaaDoor
