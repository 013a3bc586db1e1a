/- Sets of slots: words and bits. -/
import Derived.Test.YtofdkhilapmccaaData
namespace Go.Proofs.Ytofdkhilapmccaa

def word (s : SetT) (i : Nat) : Nat := if i = 0 then s.a else if i = 1 then s.b else if i = 2 then s.c else s.d
def setW (s : SetT) (i v : Nat) : SetT := if i = 0 then { s with a := v } else if i = 1 then { s with b := v } else if i = 2 then { s with c := v } else { s with d := v }
def hasS (s : SetT) (n : Nat) : Bool := decide (n < 256) && (word s (n / 64)).testBit (n % 64)
def zeroS : SetT := ⟨0, 0, 0, 0⟩
def subN (x y : Nat) : Nat := x &&& (18446744073709551615 - y)
def map2 (f : Nat → Nat → Nat) (s t : SetT) : SetT := ⟨f s.a t.a, f s.b t.b, f s.c t.c, f s.d t.d⟩
def subS (s t : SetT) : SetT := map2 subN s t
def orS (s t : SetT) : SetT := map2 (· ||| ·) s t
def withS (s : SetT) (n : Nat) : SetT := setW s (n / 64) (word s (n / 64) ||| 2 ^ (n % 64))
/-- The first k words are of t, the others of s. -/
def mixS (s t : SetT) (k : Nat) : SetT := ⟨if 0 < k then t.a else s.a, if 1 < k then t.b else s.b, if 2 < k then t.c else s.c, if 3 < k then t.d else s.d⟩

theorem word_setW {s : SetT} {i j v : Nat} (hi : i < 4) (hj : j < 4) : word (setW s i v) j = if i = j then v else word s j := by
  rcases (by omega : i = 0 ∨ i = 1 ∨ i = 2 ∨ i = 3) with rfl | rfl | rfl | rfl <;>
  rcases (by omega : j = 0 ∨ j = 1 ∨ j = 2 ∨ j = 3) with rfl | rfl | rfl | rfl <;> simp [word, setW]
theorem word_map2 (f : Nat → Nat → Nat) (s t : SetT) {i : Nat} (hi : i < 4) : word (map2 f s t) i = f (word s i) (word t i) := by
  rcases (by omega : i = 0 ∨ i = 1 ∨ i = 2 ∨ i = 3) with rfl | rfl | rfl | rfl <;> simp [word, map2]
theorem mixS_0 (s t : SetT) : mixS s t 0 = s := by simp [mixS]
theorem mixS_4 (s t : SetT) : mixS s t 4 = t := by simp [mixS]
theorem mixS_word {s t : SetT} {k : Nat} (hk : k < 4) : word (mixS s t k) k = word s k := by
  rcases (by omega : k = 0 ∨ k = 1 ∨ k = 2 ∨ k = 3) with rfl | rfl | rfl | rfl <;> simp [word, mixS]
theorem mixS_step {s t : SetT} {k : Nat} (hk : k < 4) : setW (mixS s t k) k (word t k) = mixS s t (k + 1) := by
  rcases (by omega : k = 0 ∨ k = 1 ∨ k = 2 ∨ k = 3) with rfl | rfl | rfl | rfl <;> simp [word, mixS, setW]
theorem setC_get (s : SetT) {k : Nat} (hk : k < 4) : (setC s)[k]? = some (.int .u64 (word s k)) := by
  rcases (by omega : k = 0 ∨ k = 1 ∨ k = 2 ∨ k = 3) with rfl | rfl | rfl | rfl <;> rfl
theorem setC_set (s : SetT) {k : Nat} (hk : k < 4) (v : Nat) : (setC s).toArray.setIfInBounds k (.int .u64 v) = (setC (setW s k v)).toArray := by
  rcases (by omega : k = 0 ∨ k = 1 ∨ k = 2 ∨ k = 3) with rfl | rfl | rfl | rfl <;> rfl
theorem setW_64 {s : SetT} (h : Set64 s) {k v : Nat} (hv : v < 18446744073709551616) : Set64 (setW s k v) := by
  obtain ⟨h1, h2, h3, h4⟩ := h
  unfold setW
  split
  · exact ⟨hv, h2, h3, h4⟩
  · split
    · exact ⟨h1, hv, h3, h4⟩
    · split
      · exact ⟨h1, h2, hv, h4⟩
      · exact ⟨h1, h2, h3, hv⟩
theorem word_64 {s : SetT} (h : Set64 s) (k : Nat) : word s k < 18446744073709551616 := by
  obtain ⟨h1, h2, h3, h4⟩ := h
  unfold word
  split
  · exact h1
  · split
    · exact h2
    · split
      · exact h3
      · exact h4
theorem or_64 {x y : Nat} (hx : x < 18446744073709551616) (hy : y < 18446744073709551616) : x ||| y < 18446744073709551616 :=
  Nat.or_lt_two_pow (n := 64) hx hy
theorem and_64 {x y : Nat} (hx : x < 18446744073709551616) : x &&& y < 18446744073709551616 :=
  Nat.lt_of_le_of_lt Nat.and_le_left hx
theorem pow_64 {j : Nat} (hj : j < 64) : 2 ^ j < 18446744073709551616 := by
  have : 2 ^ j < 2 ^ 64 := Nat.pow_lt_pow_right (by decide) hj
  exact this
theorem withS_64 {s : SetT} (h : Set64 s) (n : Nat) : Set64 (withS s n) := setW_64 h (or_64 (word_64 h _) (pow_64 (Nat.mod_lt _ (by decide))))
theorem subS_64 {s t : SetT} (h : Set64 s) : Set64 (subS s t) := ⟨and_64 h.1, and_64 h.2.1, and_64 h.2.2.1, and_64 h.2.2.2⟩
theorem orS_64 {s t : SetT} (h : Set64 s) (k : Set64 t) : Set64 (orS s t) := ⟨or_64 h.1 k.1, or_64 h.2.1 k.2.1, or_64 h.2.2.1 k.2.2.1, or_64 h.2.2.2 k.2.2.2⟩
theorem testBit_64 {x : Nat} (hx : x < 18446744073709551616) {j : Nat} (hj : 64 ≤ j) : x.testBit j = false :=
  Nat.testBit_lt_two_pow (Nat.lt_of_lt_of_le hx (Nat.pow_le_pow_right (n := 2) (by decide) hj))
theorem full_bit {y j : Nat} (hy : y < 18446744073709551616) (hj : j < 64) : (18446744073709551615 - y).testBit j = !y.testBit j := by
  have := Nat.testBit_two_pow_sub_succ (n := 64) (x := y) hy j
  rw [show 2 ^ 64 - (y + 1) = 18446744073709551615 - y by omega] at this
  rw [this]; simp [hj]
theorem subN_bit {x y j : Nat} (hy : y < 18446744073709551616) (hj : j < 64) : (subN x y).testBit j = (x.testBit j && !y.testBit j) := by
  rw [subN, Nat.testBit_and, full_bit hy hj]
theorem hasS_lt {s : SetT} {n : Nat} (h : hasS s n = true) : n < 256 := by simp [hasS] at h; exact h.1
theorem hasS_sub {s t : SetT} (ht : Set64 t) (n : Nat) : hasS (subS s t) n = (hasS s n && !hasS t n) := by
  unfold hasS
  by_cases hn : n < 256
  · have h4 : n / 64 < 4 := by omega
    rw [subS, word_map2 subN s t h4, subN_bit (word_64 ht _) (Nat.mod_lt _ (by decide))]
    simp [hn]
  · simp [hn]
theorem hasS_or (s t : SetT) (n : Nat) : hasS (orS s t) n = (hasS s n || hasS t n) := by
  unfold hasS
  by_cases hn : n < 256
  · have h4 : n / 64 < 4 := by omega
    rw [orS, word_map2 _ s t h4, Nat.testBit_or]
    simp [hn]
  · simp [hn]
theorem hasS_with (s : SetT) {n : Nat} (hn : n < 256) (m : Nat) : hasS (withS s n) m = (m == n || hasS s m) := by
  unfold hasS
  by_cases hm : m < 256
  · have h4 : n / 64 < 4 := by omega
    have h5 : m / 64 < 4 := by omega
    rw [withS, word_setW h4 h5]
    by_cases hq : n / 64 = m / 64
    · rw [if_pos hq, Nat.testBit_or, Nat.testBit_two_pow, hq]
      have : decide (n % 64 = m % 64) = (m == n) := by
        rw [Bool.eq_iff_iff]; simp only [decide_eq_true_eq, beq_iff_eq]; omega
      rw [this]
      simp only [hm, decide_true, Bool.true_and]
      rw [Bool.or_comm]
    · rw [if_neg hq]
      have : (m == n) = false := beq_eq_false_iff_ne.2 (by rintro rfl; exact hq rfl)
      simp [this]
  · have : (m == n) = false := beq_eq_false_iff_ne.2 (by omega)
    simp [hm, this]
theorem hasS_zero (n : Nat) : hasS zeroS n = false := by
  have : ∀ i, word zeroS i = 0 := by intro i; simp only [word, zeroS]; split <;> (try split) <;> (try split) <;> rfl
  simp [hasS, this]
theorem ext_word {x y : Nat} (hx : x < 18446744073709551616) (hy : y < 18446744073709551616) (h : ∀ j < 64, x.testBit j = y.testBit j) : x = y := by
  refine Nat.eq_of_testBit_eq fun j => ?_
  by_cases hj : j < 64
  · exact h j hj
  · rw [testBit_64 hx (by omega), testBit_64 hy (by omega)]
theorem setS_ext {s t : SetT} (hs : Set64 s) (ht : Set64 t) (h : ∀ n < 256, hasS s n = hasS t n) : s = t := by
  have key : ∀ i < 4, word s i = word t i := fun i hi => by
    refine ext_word (word_64 hs i) (word_64 ht i) fun j hj => ?_
    have := h (i * 64 + j) (by omega)
    simp only [hasS, show i * 64 + j < 256 by omega, decide_true, Bool.true_and, show (i * 64 + j) / 64 = i by omega, show (i * 64 + j) % 64 = j by omega] at this
    exact this
  cases s; cases t
  have k0 := key 0 (by decide)
  have k1 := key 1 (by decide)
  have k2 := key 2 (by decide)
  have k3 := key 3 (by decide)
  simp [word] at k0 k1 k2 k3
  subst k0 k1 k2 k3
  rfl
theorem zeroS_64 : Set64 zeroS := by simp [Set64, zeroS]

/-- The slots from lo on, ahead of k. -/
def rangeN (lo : Nat) : Nat → SetT
  | 0 => zeroS
  | k + 1 => if lo ≤ k then withS (rangeN lo k) k else rangeN lo k
theorem rangeN_64 (lo : Nat) : ∀ k, Set64 (rangeN lo k)
  | 0 => zeroS_64
  | k + 1 => by
    rw [rangeN]; split
    · exact withS_64 (rangeN_64 lo k) k
    · exact rangeN_64 lo k
theorem hasS_range (lo : Nat) : ∀ k, k ≤ 256 → ∀ n, hasS (rangeN lo k) n = (decide (lo ≤ n) && decide (n < k))
  | 0, _, n => by simp [rangeN, hasS_zero]
  | k + 1, hk, n => by
    rw [rangeN]
    split
    · rw [hasS_with _ (by omega), hasS_range lo k (by omega)]
      rw [Bool.eq_iff_iff]; simp only [Bool.or_eq_true, beq_iff_eq, Bool.and_eq_true, decide_eq_true_eq]; omega
    · rw [hasS_range lo k (by omega)]
      rw [Bool.eq_iff_iff]; simp only [Bool.and_eq_true, decide_eq_true_eq]; omega
theorem rangeN_low {lo : Nat} : ∀ k, k ≤ lo → rangeN lo k = zeroS
  | 0, _ => rfl
  | k + 1, h => by rw [rangeN, if_neg (by omega), rangeN_low k (by omega)]
theorem add_or {x j : Nat} (hx : x < 18446744073709551616) (hj : j < 64) (h : x.testBit j = false) : x + 2 ^ j = x ||| 2 ^ j := by
  have hp := pow_64 hj
  have h0 : x &&& 2 ^ j = 0 := by
    refine Nat.eq_of_testBit_eq fun i => ?_
    rw [Nat.testBit_and, Nat.testBit_two_pow, Nat.zero_testBit]
    by_cases hij : j = i
    · subst hij; simp [h]
    · simp [hij]
  have h1 := BitVec.add_eq_or_of_and_eq_zero (w := 65) (BitVec.ofNat 65 x) (BitVec.ofNat 65 (2 ^ j)) (by
    apply BitVec.eq_of_toNat_eq
    rw [BitVec.toNat_and, BitVec.toNat_ofNat, BitVec.toNat_ofNat, Nat.mod_eq_of_lt (by omega), Nat.mod_eq_of_lt (by omega), h0]; rfl)
  have h2 := congrArg BitVec.toNat h1
  rw [BitVec.toNat_add, BitVec.toNat_or, BitVec.toNat_ofNat, BitVec.toNat_ofNat, Nat.mod_eq_of_lt (a := x) (by omega), Nat.mod_eq_of_lt (a := 2 ^ j) (by omega), Nat.mod_eq_of_lt (by omega)] at h2
  exact h2
/-- A slot that is not there: adding its bit lays it. -/
theorem add_with {s : SetT} (hs : Set64 s) {n : Nat} (hn : n < 256) (h : hasS s n = false) : word s (n / 64) + 2 ^ (n % 64) = word s (n / 64) ||| 2 ^ (n % 64) := by
  refine add_or (word_64 hs _) (Nat.mod_lt _ (by decide)) ?_
  simpa [hasS, hn] using h
/-- The slots from one on, ahead of another one. -/
def rangeS (lo hi : Int) : SetT := rangeN (max lo 0).toNat (min hi 256).toNat
theorem rangeS_64 (lo hi : Int) : Set64 (rangeS lo hi) := rangeN_64 _ _
theorem hasS_rangeS (lo hi : Int) (n : Nat) : hasS (rangeS lo hi) n = (decide (lo ≤ n) && decide (n < 256) && decide ((n : Int) < hi)) := by
  rw [rangeS, hasS_range _ _ (by omega), Bool.eq_iff_iff]
  simp only [Bool.and_eq_true, decide_eq_true_eq]
  omega
end Go.Proofs.Ytofdkhilapmccaa
