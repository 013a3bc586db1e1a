/- Instructions are taken, and read, as they were: the plain law. -/
import Derived.Test.YtofdkhilapmccaaInstrK
import Derived.Test.YtofdkhilapmccaaInstrP
import Derived.Test.YtofdkhilapmccaaUvarQ
namespace Go.Proofs.Ytofdkhilapmccaa
open Go.RowKit

theorem intS_put {n : Int} (h : I64 n) (rest : List UInt8) : intS (putI n ++ rest) 0 = (n, rest, 0) := by
  unfold intS putI
  rw [bitsS_put (by have := foldN_lt h.1 h.2; omega) rest, unfold_fold]
theorem byteS_cons (b : UInt8) (t : List UInt8) : byteS (b :: t) 0 = (b.toNat, t, 0) := rfl
theorem insB_nat {i : InstrT} (h : isOp i.1 = true) : ((insB i).toNat : Int) = i.1 ∧ (insB i).toNat < 35 := by
  simp only [isOp, Bool.and_eq_true, decide_eq_true_eq] at h
  obtain ⟨k, hk⟩ := Int.eq_ofNat_of_zero_le h.1
  have hk2 : k < 35 := by omega
  unfold insB
  rw [hk, Int.toNat_natCast, UInt8.toNat_ofNat']
  omega
theorem right_is {i : InstrT} (h : rightInstr i = true) : isOp i.1 = true := by
  unfold rightInstr at h; rw [Bool.and_eq_true] at h; exact h.1
theorem right_none {i : InstrT} (h : rightInstr i = true) (h0 : operandI i.1 = 0) : i.2 = 0 := by
  unfold rightInstr at h
  rw [Bool.and_eq_true, h0] at h
  have h2 := h.2
  simp [mayOperand, mostI] at h2
  omega
theorem instrTake_put {i : InstrT} (h : rightInstr i = true) (hb : I64 i.2) (rest : List UInt8) : instrTake (putInstr i ++ rest) 0 = (i, rest, 0) := by
  obtain ⟨h1, h2⟩ := insB_nat (right_is h)
  by_cases h0 : operandI i.1 = 0
  · have e : putInstr i ++ rest = insB i :: rest := by rw [putInstr_0 h (by rw [h0]; rfl)]; rfl
    rw [e]
    have q := (instrTake_eq (insB i :: rest) 0 _ rfl _ rfl).2.2.1
    rw [byteS_cons] at q
    have q2 := q rfl (by show ¬ 35 ≤ (insB i).toNat; omega) (by show operandI ((insB i).toNat : Int) = 0; rw [h1]; exact h0)
    rw [q2]
    have h3 := right_none h h0
    obtain ⟨a, b⟩ := i
    simp only at h1 h3 ⊢
    rw [h1, h3]
  · have e : putInstr i ++ rest = insB i :: (putI i.2 ++ rest) := by rw [putInstr_1 h (by simpa using h0)]; rfl
    rw [e]
    have q := (instrTake_eq (insB i :: (putI i.2 ++ rest)) 0 _ rfl _ rfl).2.2.2.2.1
    rw [byteS_cons] at q
    simp only [intS_put hb] at q
    have q2 := q trivial (by omega) (by rw [h1]; exact h0) trivial (by rw [h1]; exact h)
    rw [q2, h1]

theorem wrap64_mul (x y : Int) : wrap64 (10 * wrap64 x + y) = wrap64 (10 * x + y) := by unfold wrap64; omega
theorem digN_dig : ∀ (f m : Nat), m ≤ f → (digN m).all isDig = true := by
  intro f
  induction f with
  | zero => intro m h; obtain rfl : m = 0 := by omega
            rw [digN_lt (by decide)]; decide
  | succ f ih =>
    intro m h
    have hd : ∀ d, d < 10 → isDig (dig8 d) = true := fun d hd => by
      unfold isDig; rw [dig8_nat hd, decide_eq_true (by omega), decide_eq_true (by omega)]; rfl
    by_cases hm : m < 10
    · rw [digN_lt hm]; simp [hd m hm]
    · rw [digN_ge (by omega), List.all_append, ih (m / 10) (by omega), digN_lt (show m % 10 < 10 by omega)]
      simp [hd (m % 10) (by omega)]
theorem digN_val (sg : Int) : ∀ (f m : Nat), m ≤ f → digW sg (digN m) 0 = wrap64 (sg * (m : Int)) := by
  intro f
  have hd : ∀ d : Nat, d < 10 → ((dig8 d).toNat : Int) - 48 = d := fun d hd => by rw [dig8_nat hd]; omega
  induction f with
  | zero =>
    intro m h
    obtain rfl : m = 0 := by omega
    rw [digN_lt (by decide)]
    show wrap64 (10 * 0 + sg * (((dig8 0).toNat : Int) - 48)) = _
    rw [hd 0 (by decide)]; simp
  | succ f ih =>
    intro m h
    by_cases hm : m < 10
    · rw [digN_lt hm]
      show wrap64 (10 * 0 + sg * (((dig8 m).toNat : Int) - 48)) = _
      rw [hd m hm]; simp
    · rw [digN_ge (by omega), digN_lt (show m % 10 < 10 by omega), digW_snoc, ih (m / 10) (by omega), hd (m % 10) (by omega), wrap64_mul]
      congr 1
      have e : (m : Int) = 10 * ((m / 10 : Nat) : Int) + ((m % 10 : Nat) : Int) := by omega
      rw [e, Int.mul_add, Int.mul_left_comm]
theorem digN_ne (m : Nat) : digN m ≠ [] := by unfold digN; simp [revDig_ne]
theorem negN_dig {l : List UInt8} (h : l.all isDig = true) : negN l = false := by
  cases l with
  | nil => rfl
  | cons b t =>
    have hb : isDig b = true := by simp at h; exact h.1
    rw [← Bool.not_eq_true, negN_iff]
    simp only [List.head?_cons, Option.some.injEq]
    rintro rfl
    exact absurd hb (by decide)
theorem wrap64_id {n : Int} (h : I64 n) : wrap64 n = n := by obtain ⟨h1, h2⟩ := h; unfold wrap64; omega
theorem numN_dec {n : Int} (h : I64 n) : numN (decB n) = (n, 0) := by
  have hl := decB_len h.1 h.2
  by_cases h0 : n < 0
  · have e := decB_neg h0
    have hn : negN (decB n) = true := by rw [e]; rfl
    have hr : restN (decB n) = digN n.natAbs := by unfold restN; rw [if_pos hn, e]; rfl
    have hs : sgN (decB n) = -1 := by unfold sgN; rw [if_pos hn]
    have hv : digW (sgN (decB n)) (restN (decB n)) 0 = n := by
      rw [hr, hs, digN_val _ _ _ (Nat.le_refl _), show (-1 : Int) * (n.natAbs : Int) = n by omega, wrap64_id h]
    rw [numN_ok ⟨by rw [hr]; exact digN_ne _, by rw [hr]; exact digN_dig _ _ (Nat.le_refl _), hl, by rw [hv]⟩, hv]
  · have e := decB_nn h0
    have hn : negN (decB n) = false := by rw [e]; exact negN_dig (digN_dig _ _ (Nat.le_refl _))
    have hr : restN (decB n) = digN n.natAbs := by unfold restN; rw [if_neg (by rw [hn]; decide), e]
    have hs : sgN (decB n) = 1 := by unfold sgN; rw [if_neg (by rw [hn]; decide)]
    have hv : digW (sgN (decB n)) (restN (decB n)) 0 = n := by
      rw [hr, hs, digN_val _ _ _ (Nat.le_refl _), show (1 : Int) * (n.natAbs : Int) = n by omega, wrap64_id h]
    rw [numN_ok ⟨by rw [hr]; exact digN_ne _, by rw [hr]; exact digN_dig _ _ (Nat.le_refl _), hl, by rw [hv]⟩, hv]

theorem name_blank : ∀ k < 35, ∀ b ∈ nameAt k, b ≠ 32 := by decide +kernel
theorem name_find : ∀ k < 35, findI (nameAt k) = ((k : Int), true) := by decide +kernel
theorem sp_all {s : List UInt8} (h : ∀ b ∈ s, b ≠ 32) : sp s = s.length := by
  induction s with
  | nil => rfl
  | cons b t ih =>
    have hb : b ≠ 32 := h b (by simp)
    simp only [sp, hb, if_false, List.length_cons]
    rw [ih (fun c hc => h c (by simp [hc]))]
theorem sp_cut {s : List UInt8} (h : ∀ b ∈ s, b ≠ 32) (t : List UInt8) : sp (s ++ 32 :: t) = s.length := by
  induction s with
  | nil => simp [sp]
  | cons b s ih =>
    have hb : b ≠ 32 := h b (by simp)
    simp only [List.cons_append, sp, hb, if_false, List.length_cons]
    rw [ih (fun c hc => h c (by simp [hc]))]
theorem readI_text {i : InstrT} (h : rightInstr i = true) (hb : I64 i.2) : readI (textI i) = (i, 0) := by
  have his := right_is h
  have his2 := his
  simp only [isOp, Bool.and_eq_true, decide_eq_true_eq] at his2
  obtain ⟨k, hk⟩ := Int.eq_ofNat_of_zero_le his2.1
  have hk35 : k < 35 := by omega
  have hnm : opNameL i.1 = nameAt k := by unfold opNameL; rw [if_pos his, hk]; rfl
  by_cases h0 : operandI i.1 = 0
  · have e := textI_bare h h0
    rw [hnm] at e
    have hs : sp (textI i) = (textI i).length := by rw [e]; exact sp_all (name_blank k hk35)
    have hf : ((k : Int), true) = findI ((textI i).take (sp (textI i))) := by rw [hs, List.take_length, e, name_find k hk35]
    have q := (readI_eq (textI i) _ hf _ rfl).2.2.1 rfl (by rw [← hk]; exact h0) (by rw [hs]; omega)
    rw [q]
    have h3 := right_none h h0
    obtain ⟨a, b⟩ := i
    simp only at hk h3 ⊢
    rw [hk, h3]
  · have e := textI_has h h0
    rw [hnm] at e
    have hs : sp (textI i) = (nameAt k).length := by rw [e]; exact sp_cut (name_blank k hk35) _
    have hl : (nameAt k).length < (textI i).length := by rw [e]; simp
    have hf : ((k : Int), true) = findI ((textI i).take (sp (textI i))) := by rw [hs, e, List.take_left', name_find k hk35]; rfl
    have hr : restS (textI i) = decB i.2 := by
      unfold restS
      rw [if_pos (by rw [hs]; exact hl), hs, e]
      simp
    have q := (readI_eq (textI i) _ hf (i.2, 0) (by rw [hr, numN_dec hb])).2.2.2.2.2.1 rfl (by rw [← hk]; exact h0) (by rw [hs]; exact hl) rfl (by rw [← hk]; exact h)
    rw [q, ← hk]
end Go.Proofs.Ytofdkhilapmccaa
