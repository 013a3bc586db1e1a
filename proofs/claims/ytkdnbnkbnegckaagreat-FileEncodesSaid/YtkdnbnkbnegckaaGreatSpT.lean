/- Functions, lifted: what the program comes to by them. All lifted functions. The number that bytes begin with: what the lifted functions come to. Cursors: what the lifted functions come to, as a parser. Names and types: what the lifted functions come to. Lists of types: what the lifted functions come to. -/
import Derived.Test.YtkdnbnkbnegckaaGreatLwA
import Derived.Test.YtkdnbnkbnegckaaGreatLw5
import Derived.Test.YtkdnbnkbnegckaaGreatLw6
import Derived.Test.YtkdnbnkbnegckaaGreatLw7
import Derived.Test.YtkdnbnkbnegckaaGreatLw8
import Derived.Test.YtkdnbnkbnegckaaGreatLw9
import Derived.Test.YtkdnbnkbnegckaaGreatLw10
import Derived.Test.YtkdnbnkbnegckaaGreatLw12
import Derived.Test.YtkdnbnkbnegckaaGreatEvQ
import Derived.Laws.DeepNot64
namespace Go.Proofs.YtkdnbnkbnegckaaGreat
open Go.RowKit
set_option maxRecDepth 100000
set_option linter.unusedVariables false
end Go.Proofs.YtkdnbnkbnegckaaGreat

namespace Go.Proofs.YtkdnbnkbnegckaaGreat
open Go.RowKit

theorem pow7 (i : Nat) : 2 ^ (7 * (i + 1)) = 2 ^ (7 * i) * 128 := by rw [Nat.mul_add, Nat.pow_add]
theorem sp_uvar_Get {l : List UInt8} (hl : l.length ≤ 140737488351232) : S_uvar_Get l = some (((getB l).1 : Int), (((getB l).2.1 : Int), ((getB l).2.2, ()))) := by
  refine u_uvar_Get (N := l.length + 1) ?_
  unfold M_uvar_Get
  simp
  refine iter_join (fun d => l.length - d.2.2.2.1.toNat) (fun d => ∃ k n : Nat, d = ((n : Int), (3, (0, ((k : Int), ())))) ∧ k ≤ l.length ∧ k ≤ 9 ∧ n < 2 ^ (7 * k) ∧ getB l = getG k n (l.drop k)) ?_ _ _ ⟨0, 0, rfl, Nat.zero_le _, by decide, by decide, rfl⟩ (by simp)
  rintro _ again ⟨k, n, rfl, h1, h2, h3, h4⟩ ih
  by_cases hlt : k < l.length
  · have hs := getB_step hlt h4
    have hc := l[k].toNat_lt
    have hg : l[k]? = some l[k] := List.getElem?_eq_getElem hlt
    have hp := pow7 k
    have hp9 : 2 ^ (7 * k) ≤ 9223372036854775808 := Nat.le_trans (Nat.pow_le_pow_right (by decide) (show 7 * k ≤ 63 by omega)) (by decide)
    have hp8 : k ≠ 9 → 2 ^ (7 * k) ≤ 72057594037927936 := fun h => Nat.le_trans (Nat.pow_le_pow_right (by decide) (show 7 * k ≤ 56 by omega)) (by decide)
    obtain ⟨c, hu, hcn⟩ : ∃ c : Nat, u8I l[k] = c ∧ l[k].toNat = c := ⟨_, rfl, rfl⟩
    rw [hcn] at hs hc
    by_cases hA : k = 9 ∧ 1 < c
    · obtain ⟨rfl, hA⟩ := hA
      simp [hg, hu, hs.1 rfl hA, show (1 : Int) < c by omega, show (9 : Int) < l.length by omega]
    · have hA' : k = 9 → c ≤ 1 := by omega
      have hA2 : ¬((k : Int) = 9 ∧ (1 : Int) < c) := by omega
      simp [hg, hu, hlt, hA2]
      have s7 : ∀ a : Int, shlI .u64 a (7 * (k : Int)) = a * 2 ^ (7 * k) := fun a => by
        have e : min (7 * (k : Int)).toNat 64 = 7 * k := by omega
        simp only [shlI, IntKind.bits, e]
      by_cases hB : 128 ≤ c
      · have hk9 : k ≠ 9 := by omega
        have h8 := hp8 hk9
        have hle : (c - 128) * 2 ^ (7 * k) ≤ 127 * 2 ^ (7 * k) := Nat.mul_le_mul_right _ (by omega)
        have hO : bitI .or .u64 (n : Int) (wrp .u64 (wrp .u64 (bitI .andNot .u8 (c : Int) 128) * 2 ^ (7 * k))) = ((n + (c - 128) * 2 ^ (7 * k) : Nat) : Int) := by
          rw [show wrp .u64 (bitI .andNot .u8 (c : Int) 128) = ((c - 128 : Nat) : Int) from andNot128 hB hc]
          exact getOr h3 (by omega)
        rw [if_pos (show (128 : Int) ≤ c by omega)]
        simp (disch := omega) only [wi64, s7, hO]
        rw [if_pos (by omega)]
        exact ih _ ⟨k + 1, n + (c - 128) * 2 ^ (7 * k), rfl, by omega, by omega, by rw [hp]; omega, hs.2.1 hA' hB⟩ (by simp; omega)
      · rw [if_neg (show ¬(128 : Int) ≤ c by omega)]
        by_cases hC : c = 0 ∧ 0 < k
        · rw [if_pos hC, hs.2.2.1 hA' (by omega) hC.1 hC.2]; rfl
        · rw [if_neg hC, hs.2.2.2 hA' (by omega) (by omega)]
          have hle : n + c * 2 ^ (7 * k) < 18446744073709551616 := by
            by_cases h9 : k = 9
            · have : c * 2 ^ (7 * k) ≤ 1 * 2 ^ (7 * k) := Nat.mul_le_mul_right _ (hA' h9)
              omega
            · have := hp8 h9
              have : c * 2 ^ (7 * k) ≤ 127 * 2 ^ (7 * k) := Nat.mul_le_mul_right _ (by omega)
              omega
          have hO : bitI .or .u64 (n : Int) (wrp .u64 ((c : Int) * 2 ^ (7 * k))) = ((n + c * 2 ^ (7 * k) : Nat) : Int) := getOr h3 hle
          simp (disch := omega) only [wi64, wu64, s7, hO]
          rw [if_pos (by omega)]
          simp
  · have e : k = l.length := by omega
    subst e
    rw [h4]
    simp [getG]
end Go.Proofs.YtkdnbnkbnegckaaGreat
namespace Go.Proofs.YtkdnbnkbnegckaaGreat
open Go.RowKit

/-- A parser: what bytes begin with, and the bytes behind; or what is wrong. -/
abbrev Pr (α : Type) := Except Int (α × List UInt8)
/-- What a function of the program, that takes from a cursor, comes to (T: results of any shape). -/
def ImT {α : Type} (r : Option (List UInt8 × (Bool × (Int × α)))) (p : Pr α) (z : α) : Prop :=
  match p with
  | .ok (a, l) => r = some (l, (true, (0, a)))
  | .error e => e ≠ 0 ∧ ∃ l, r = some (l, (true, (e, z)))
def Im {α : Type} (r : Option (List UInt8 × (Bool × (Int × (α × Unit))))) (p : Pr α) (z : α) : Prop :=
  match p with
  | .ok (a, l) => r = some (l, (true, (0, (a, ()))))
  | .error e => e ≠ 0 ∧ ∃ l, r = some (l, (true, (e, (z, ()))))
/-- What a function of the document's answer comes to. -/
def Rf {α : Type} (r : Option (α × (List UInt8 × (Int × Unit)))) (p : Pr α) : Prop :=
  match p with
  | .ok (a, l) => r = some (a, (l, (0, ())))
  | .error e => e ≠ 0 ∧ ∃ a l, r = some (a, (l, (e, ())))
/-! Errors, and what a cursor has -/
@[simp] theorem sp_Err {l : List UInt8} {e : Int} : S_cursor_Cursor_Err l true e = some (l, (true, (e, (e, ())))) := u_cursor_Cursor_Err (N := 0) (by simp [M_cursor_Cursor_Err])
@[simp] theorem sp_Fail {l : List UInt8} {e x : Int} : S_cursor_Cursor_Fail l true e x = some (l, (true, ((if e = 0 then x else e), ()))) := u_cursor_Cursor_Fail (N := 0) (by simp [M_cursor_Cursor_Fail]; split <;> simp)
@[simp] theorem sp_Left {l : List UInt8} {e : Int} : S_cursor_Cursor_Left l true e = some (l, (true, (e, ((if e = 0 then (l.length : Int) else 0), ())))) := u_cursor_Cursor_Left (N := 0) (by simp [M_cursor_Cursor_Left]; split <;> simp_all)
@[simp] theorem sp_rfail {l : List UInt8} {e x : Int} : S_ref02_fail l e x = some (l, ((if e = 0 then x else e), ())) := u_ref02_fail (N := 0) (by simp [M_ref02_fail]; split <;> simp)
@[simp] theorem sp_rFail {l : List UInt8} {e x : Int} : S_ref02_Fail l e x = some (l, ((if e = 0 then x else e), ())) := u_ref02_Fail (N := 0) (by simp [M_ref02_Fail])
@[simp] theorem sp_rLeft {l : List UInt8} {e : Int} : S_ref02_Left l e = some ((if e = 0 then (l.length : Int) else 0), ()) := u_ref02_Left (N := 0) (by simp [M_ref02_Left]; split <;> simp_all)
theorem sp_New {l : List UInt8} (hl : l.length ≤ 140737488351232) : S_cursor_New l = some (l, (true, (0, ()))) := u_cursor_New (N := 0) (by simp [M_cursor_New, S_slices_Clone_byte_byte, hl])

/-! Numbers -/
def bitsP (l : List UInt8) : Pr Int := if (getB l).2.2 = 0 then .ok (((getB l).1 : Int), l.drop (getB l).2.1) else .error (getB l).2.2
abbrev Len (l : List UInt8) : Prop := l.length ≤ 140737488351232
theorem bitsP_lt {l l' : List UInt8} {u : Int} (h : bitsP l = .ok (u, l')) : 0 ≤ u ∧ u < 18446744073709551616 := by
  obtain ⟨h1, _⟩ := getB_ok l
  unfold bitsP at h
  split at h
  · simp only [Except.ok.injEq, Prod.mk.injEq] at h; omega
  · cases h
theorem bitsP_len {l l' : List UInt8} {x : Int} (h : bitsP l = .ok (x, l')) : l'.length ≤ l.length := by
  unfold bitsP at h
  split at h
  · simp only [Except.ok.injEq, Prod.mk.injEq] at h; obtain ⟨_, rfl⟩ := h; simp
  · cases h
theorem im_Bits {l : List UInt8} (hl : Len l) : Im (S_cursor_Cursor_Bits l true 0) (bitsP l) 0 := by
  obtain ⟨h1, h2, h3, h4⟩ := getB_ok l
  unfold bitsP
  split
  · rename_i h
    refine u_cursor_Cursor_Bits (N := 0) ?_
    simp [M_cursor_Cursor_Bits, sp_uvar_Get hl, h, h2]
  · rename_i h
    refine ⟨h, l, u_cursor_Cursor_Bits (N := 0) ?_⟩
    simp [M_cursor_Cursor_Bits, sp_uvar_Get hl, h, h4 h]
theorem ime_Bits {l : List UInt8} {e : Int} (he : e ≠ 0) : S_cursor_Cursor_Bits l true e = some (l, (true, (e, (0, ())))) := by
  refine u_cursor_Cursor_Bits (N := 0) ?_
  simp [M_cursor_Cursor_Bits, he]
/-- A number with its sign at the lowest bit, back. -/
def unfoldI (u : Nat) : Int := if u % 2 = 1 then -((u / 2 : Nat) : Int) - 1 else (u / 2 : Nat)

theorem unfold_bits {u : Nat} (hu : u < 18446744073709551616) : bits .xor .i64 ((u : Int) / 2) (wrap64 (-wrap64 (bits .and .u64 (u : Int) 1))) = unfoldI u := by
  have e1 : bits .and .u64 (u : Int) 1 = ((u % 2 : Nat) : Int) := by
    have := u64_and_nat u 1 hu (by decide)
    rw [Nat.and_one_is_mod] at this
    exact this
  have e2 : (u : Int) / 2 = ((u / 2 : Nat) : Int) := by omega
  rw [e1, e2]
  unfold unfoldI
  by_cases h : u % 2 = 1
  · rw [if_pos h, h]
    have e3 : wrap64 (-wrap64 ((1 : Nat) : Int)) = -1 := by unfold wrap64; omega
    rw [e3]
    have h2 := i64_not (u / 2) (by omega)
    have h3 : bits .xor .i64 ((u / 2 : Nat) : Int) (-1) = bits .xor .i64 (-1) ((u / 2 : Nat) : Int) := by
      show IntKind.i64.wrap ((BitVec.ofInt 64 _ ^^^ BitVec.ofInt 64 _).toNat : Int) = IntKind.i64.wrap ((BitVec.ofInt 64 _ ^^^ BitVec.ofInt 64 _).toNat : Int)
      rw [BitVec.xor_comm]
    rw [h3, h2]; omega
  · rw [if_neg h, show u % 2 = 0 by omega]
    have e3 : wrap64 (-wrap64 ((0 : Nat) : Int)) = 0 := by unfold wrap64; omega
    rw [e3]
    show IntKind.i64.wrap ((BitVec.ofInt 64 ((u / 2 : Nat) : Int) ^^^ BitVec.ofInt 64 0).toNat : Int) = _
    have : (BitVec.ofInt 64 ((u / 2 : Nat) : Int) ^^^ BitVec.ofInt 64 0) = BitVec.ofInt 64 ((u / 2 : Nat) : Int) := by
      rw [show BitVec.ofInt 64 0 = 0#64 from rfl, BitVec.xor_zero]
    rw [this, BitVec.ofInt_natCast, BitVec.toNat_ofNat, IntKind.wrap_i64]
    omega
theorem sp_Unfold {u : Int} (h0 : 0 ≤ u) (h1 : u < 18446744073709551616) : S_uvar_Unfold u = some (unfoldI u.toNat, ()) := by
  refine u_uvar_Unfold (N := 0) ?_
  obtain ⟨n, rfl⟩ := Int.eq_ofNat_of_zero_le h0
  have e := unfold_bits (u := n) (by omega)
  have e1 : shrI .u64 (n : Int) 1 = (n : Int) / 2 := by
    show (n : Int).fdiv (2 ^ min (1 : Int).toNat 64) = _
    rw [show (2 : Int) ^ min (1 : Int).toNat 64 = 2 from rfl, Int.fdiv_eq_ediv_of_nonneg _ (by decide)]
  have e2 : ∀ x, wrp .i64 x = wrap64 x := fun x => by rw [wrp, IntKind.wrap_i64, wrap64]
  simp [M_uvar_Unfold, e1]
  rw [wi64 (n := (n : Int) / 2) (by omega) (by omega), e2, e2]
  exact e
/-- With its sign. -/
def intP (l : List UInt8) : Pr Int :=
  match bitsP l with
  | .ok (u, l) => .ok (unfoldI u.toNat, l)
  | .error e => .error e
theorem im_Int {l : List UInt8} (hl : Len l) : Im (S_cursor_Cursor_Int l true 0) (intP l) 0 := by
  have hb := im_Bits hl
  unfold intP
  cases h : bitsP l with
  | ok p =>
    obtain ⟨u, l'⟩ := p
    obtain ⟨h1, h2⟩ := bitsP_lt h
    rw [h] at hb
    refine u_cursor_Cursor_Int (N := 0) ?_
    simp [M_cursor_Cursor_Int, show S_cursor_Cursor_Bits l true 0 = _ from hb, sp_Unfold h1 h2]
  | error e =>
    rw [h] at hb
    obtain ⟨he, l', hb⟩ := hb
    refine ⟨he, l', u_cursor_Cursor_Int (N := 0) ?_⟩
    simp [M_cursor_Cursor_Int, hb, sp_Unfold (u := 0) (by omega) (by omega), unfoldI]
theorem ime_Int {l : List UInt8} {e : Int} (he : e ≠ 0) : S_cursor_Cursor_Int l true e = some (l, (true, (e, (0, ())))) := by
  refine u_cursor_Cursor_Int (N := 0) ?_
  simp [M_cursor_Cursor_Int, ime_Bits he, sp_Unfold (u := 0) (by omega) (by omega), unfoldI]
/-- At most so many. -/
def numP (m : Int) (l : List UInt8) : Pr Int :=
  match bitsP l with
  | .ok (u, l) => if m < u then .error 6 else .ok (u, l)
  | .error e => .error e
theorem im_Num {l : List UInt8} {m : Int} (hl : Len l) (h0 : 0 ≤ m) (hm : m < 9223372036854775808) : Im (S_cursor_Cursor_Num l true 0 m) (numP m l) 0 := by
  have hb := im_Bits hl
  unfold numP
  cases h : bitsP l with
  | ok p =>
    obtain ⟨u, l'⟩ := p
    obtain ⟨h1, h2⟩ := bitsP_lt h
    rw [h] at hb
    simp only
    split
    · refine ⟨by decide, l', u_cursor_Cursor_Num (N := 0) ?_⟩
      simp [M_cursor_Cursor_Num, show S_cursor_Cursor_Bits l true 0 = _ from hb]
      simp (disch := omega) [wu64, *]
    · refine u_cursor_Cursor_Num (N := 0) ?_
      simp [M_cursor_Cursor_Num, show S_cursor_Cursor_Bits l true 0 = _ from hb]
      simp (disch := omega) [wu64, wi64, *]
  | error e =>
    rw [h] at hb
    obtain ⟨he, l', hb⟩ := hb
    refine ⟨he, l', u_cursor_Cursor_Num (N := 0) ?_⟩
    simp [M_cursor_Cursor_Num, hb, he]
theorem ime_Num {l : List UInt8} {e m : Int} (he : e ≠ 0) : S_cursor_Cursor_Num l true e m = some (l, (true, (e, (0, ())))) := by
  refine u_cursor_Cursor_Num (N := 0) ?_
  simp [M_cursor_Cursor_Num, ime_Bits he, he]
theorem numP_ok {m u : Int} {l l' : List UInt8} (h : numP m l = .ok (u, l')) : 0 ≤ u ∧ u ≤ m ∧ l'.length ≤ l.length := by
  unfold numP at h
  split at h
  · rename_i u0 l0 hb
    split at h
    · cases h
    · simp only [Except.ok.injEq, Prod.mk.injEq] at h
      obtain ⟨rfl, rfl⟩ := h
      exact ⟨(bitsP_lt hb).1, by omega, bitsP_len hb⟩
  · cases h

/-! Bytes and texts -/
def byteP : List UInt8 → Pr UInt8
  | [] => .error 3
  | x :: l => .ok (x, l)
theorem im_Byte {l : List UInt8} : Im (S_cursor_Cursor_Byte l true 0) (byteP l) 0 := by
  cases l with
  | nil => exact ⟨by decide, [], u_cursor_Cursor_Byte (N := 0) (by simp [M_cursor_Cursor_Byte])⟩
  | cons x l =>
    refine u_cursor_Cursor_Byte (N := 0) ?_
    simp [M_cursor_Cursor_Byte, show ¬((l.length : Int) + 1 = 0) by omega, show (1 : Int) ≤ l.length + 1 by omega]
theorem ime_Byte {l : List UInt8} {e : Int} (he : e ≠ 0) : S_cursor_Cursor_Byte l true e = some (l, (true, (e, (0, ())))) := by
  refine u_cursor_Cursor_Byte (N := 0) ?_
  simp [M_cursor_Cursor_Byte, he]
def textP (m : Int) (l : List UInt8) : Pr (List UInt8) :=
  match numP m l with
  | .ok (u, l) => if (l.length : Int) < u then .error 3 else .ok (l.take u.toNat, l.drop u.toNat)
  | .error e => .error e
theorem im_Text {l : List UInt8} {m : Int} (hl : Len l) (h0 : 0 ≤ m) (hm : m < 9223372036854775808) : Im (S_cursor_Cursor_Text l true 0 m) (textP m l) [] := by
  have hb := im_Num hl h0 hm
  unfold textP
  cases h : numP m l with
  | ok p =>
    obtain ⟨u, l'⟩ := p
    obtain ⟨h1, h2, h3⟩ := numP_ok h
    rw [h] at hb
    simp only
    split
    · refine ⟨by decide, l', u_cursor_Cursor_Text (N := 0) ?_⟩
      simp [M_cursor_Cursor_Text, show S_cursor_Cursor_Num l true 0 m = _ from hb, *]
    · rename_i hu
      obtain ⟨n, rfl⟩ := Int.eq_ofNat_of_zero_le h1
      have hn : n ≤ l'.length := by omega
      refine u_cursor_Cursor_Text (N := 0) ?_
      simp [M_cursor_Cursor_Text, show S_cursor_Cursor_Num l true 0 m = _ from hb, hn]
  | error e =>
    rw [h] at hb
    obtain ⟨he, l', hb⟩ := hb
    refine ⟨he, l', u_cursor_Cursor_Text (N := 0) ?_⟩
    simp [M_cursor_Cursor_Text, hb, he]
end Go.Proofs.YtkdnbnkbnegckaaGreat
namespace Go.Proofs.YtkdnbnkbnegckaaGreat
open Go.RowKit

def firstB (x : UInt8) : Bool := decide (97 ≤ u8I x ∧ u8I x ≤ 122)
def otherB (x : UInt8) : Bool := firstB x || decide (48 ≤ u8I x ∧ u8I x ≤ 57) || decide (u8I x = 95)
def mayB : List UInt8 → Bool
  | [] => false
  | x :: l => decide (l.length < 12) && firstB x && (x :: l).all otherB
@[simp] theorem sp_first {x : UInt8} : S_names_first x = some (firstB x, ()) := u_names_first (N := 0) (by
  by_cases h : 97 ≤ u8I x <;> simp [M_names_first, firstB, h])
@[simp] theorem sp_other {x : UInt8} : S_names_other x = some (otherB x, ()) := u_names_other (N := 0) (by
  cases h : firstB x <;> by_cases h1 : 48 ≤ u8I x <;> by_cases h2 : u8I x ≤ 57 <;> simp [M_names_other, otherB, cnd_b, h, h1, h2])
theorem all_drop {l : List UInt8} {p : UInt8 → Bool} {k : Nat} (h : k < l.length) : (l.drop k).all p = (p l[k] && (l.drop (k + 1)).all p) := by
  rw [List.drop_eq_getElem_cons h, List.all_cons]
theorem sp_May {l : List UInt8} (hl : Len l) : S_names_May l = some (mayB l, ()) := by
  refine u_names_May (N := l.length + 1) ?_
  cases l with
  | nil => simp [M_names_May, mayB]
  | cons x l =>
    simp [M_names_May, mayB]
    by_cases h1 : l.length < 12
    · rw [if_neg (by omega)]
      cases h2 : firstB x with
      | false => simp [cnd_b, h2]
      | true =>
        have hall : (otherB x && l.all otherB) = (x :: l).all otherB := rfl
        simp [cnd_b, h1]
        rw [hall]
        refine iter_to (fun d => (x :: l).length - d.1.toNat) (fun d => ∃ k : Nat, d = ((k : Int), ()) ∧ k ≤ (x :: l).length ∧ (x :: l).all otherB = ((x :: l).drop k).all otherB) ?_ _ _ ⟨0, rfl, Nat.zero_le _, rfl⟩ (by simp)
        rintro _ again ⟨k, rfl, h3, h4⟩ ih
        rw [h4] at ih ⊢
        by_cases hk : k < (x :: l).length
        · rw [all_drop hk]
          have hk2 : (k : Int) < l.length + 1 := by simp at hk; omega
          simp [hk2, bnd_get hk]
          cases h5 : otherB (x :: l)[k] with
          | false => simp
          | true =>
            rw [wi64 (by omega) (by unfold Len at hl; simp at hl; omega)]
            have := ih ((k : Int) + 1, ()) ⟨k + 1, rfl, hk, by rw [all_drop hk, h5]; rfl⟩ (by simp at hk ⊢; omega)
            rw [all_drop hk, h5] at this
            simpa using this
        · have hk2 : ¬(k : Int) < l.length + 1 := by simp at hk; omega
          simp [hk2, List.drop_eq_nil_of_le (Nat.le_of_not_lt hk)]
    · rw [if_pos (by omega)]
      simp [h1]
def headB : List UInt8 → Bool
  | [] => true
  | x :: l => firstB x && l.all otherB
theorem sp_rMay {l : List UInt8} (hl : Len l) : S_ref05_May l = some (mayB l, ()) := by
  refine u_ref05_May (N := l.length + 1) ?_
  simp [M_ref05_May]
  have h0 : mayB l = (decide (1 ≤ l.length ∧ l.length ≤ 12) && (if 0 = 0 then headB l else (l.drop 0).all otherB)) := by
    cases l with
    | nil => rfl
    | cons x l => cases h : firstB x <;> simp [mayB, headB, h, otherB, show l.length < 12 ↔ l.length + 1 ≤ 12 by omega]
  refine iter_to (fun d => l.length - d.1.toNat) (fun d => ∃ k : Nat, d = ((k : Int), ()) ∧ k ≤ l.length ∧ mayB l = (decide (1 ≤ l.length ∧ l.length ≤ 12) && (if k = 0 then headB l else (l.drop k).all otherB))) ?_ _ _ ⟨0, rfl, Nat.zero_le _, h0⟩ (by simp)
  rintro _ again ⟨k, rfl, h3, h4⟩ ih
  by_cases hk : k < l.length
  · simp [hk, bnd_get hk]
    rw [wi64 (by omega) (by unfold Len at hl; omega)]
    have hgood : (if k = 0 then firstB l[k] else otherB l[k]) = true → again ((k : Int) + 1, ()) = some (mayB l, ()) := fun hg => by
      refine ih _ ⟨k + 1, rfl, hk, ?_⟩ (by simp; omega)
      rw [h4]
      congr 1
      by_cases h0 : k = 0
      · subst h0
        cases l with
        | nil => simp at hk
        | cons x l =>
          simp at hg
          simp [headB, hg]
      · rw [if_neg h0] at hg ⊢
        rw [if_neg (by omega), all_drop hk, hg]; rfl
    have hbad : (if k = 0 then firstB l[k] else otherB l[k]) = false → mayB l = false := fun hg => by
      rw [h4]
      by_cases h0 : k = 0
      · subst h0
        cases l with
        | nil => simp at hk
        | cons x l =>
          simp at hg
          simp [headB, hg]
      · rw [if_neg h0] at hg ⊢
        rw [all_drop hk, hg]; simp
    have hP : (if k = 0 then firstB l[k] else otherB l[k]) = true ↔ (97 ≤ u8I l[k] ∧ u8I l[k] ≤ 122) ∨ (k ≠ 0 ∧ (48 ≤ u8I l[k] ∧ u8I l[k] ≤ 57 ∨ u8I l[k] = 95)) := by
      by_cases h0 : k = 0 <;> simp [h0, firstB, otherB]
      omega
    generalize (if k = 0 then firstB l[k] else otherB l[k]) = g at *
    generalize hu : u8I l[k] = u at *
    cases g with
    | true =>
      rw [hgood rfl]
      have := hP.1 rfl
      simp only [joinK_if, joinK_l, joinK_r]
      repeat' split
      all_goals first | rfl | (exfalso; omega)
    | false =>
      rw [hbad rfl]
      have : ¬_ := fun h => Bool.noConfusion (hP.2 h)
      simp only [joinK_if, joinK_l, joinK_r]
      repeat' split
      all_goals first | rfl | (exfalso; omega)
  · have : k = l.length := by omega
    subst this
    rw [h4]
    simp
    cases l with
    | nil => simp
    | cons x l => simp; rw [if_pos (by omega)]; simp; omega
end Go.Proofs.YtkdnbnkbnegckaaGreat
namespace Go.Proofs.YtkdnbnkbnegckaaGreat
open Go.RowKit

@[simp] theorem sp_sigMay {n : Int} : S_sig_May n = some (decide (n = 1) || decide (n = 2), ()) := u_sig_May (N := 0) (by by_cases h : n = 1 <;> simp [M_sig_May, h])
def tyP : Nat → List UInt8 → Pr (List Int)
  | 0, l => .ok ([], l)
  | _ + 1, [] => .error 3
  | n + 1, x :: l => if u8I x = 1 ∨ u8I x = 2 then (match tyP n l with | .ok (r, l) => .ok (u8I x :: r, l) | .error e => .error e) else .error 9
def sigP (m : Int) (l : List UInt8) : Pr (List Int) :=
  match numP m l with
  | .ok (u, l) => tyP u.toNat l
  | .error e => .error e
theorem tyP_ok : ∀ {n : Nat} {l l' : List UInt8} {r : List Int}, tyP n l = .ok (r, l') → r.length = n ∧ l'.length ≤ l.length ∧ ∀ x ∈ r, x = 1 ∨ x = 2
  | 0, l, l', r, h => by simp only [tyP, Except.ok.injEq, Prod.mk.injEq] at h; obtain ⟨rfl, rfl⟩ := h; simp
  | n + 1, [], l', r, h => by simp [tyP] at h
  | n + 1, x :: l, l', r, h => by
    rw [tyP] at h
    split at h
    · rename_i hx
      split at h
      · rename_i r2 l2 h2
        simp only [Except.ok.injEq, Prod.mk.injEq] at h
        obtain ⟨rfl, rfl⟩ := h
        obtain ⟨h3, h4, h5⟩ := tyP_ok h2
        refine ⟨by simp [h3], by simp; omega, ?_⟩
        intro y hy
        rcases List.mem_cons.1 hy with rfl | hy
        · exact hx
        · exact h5 y hy
      · cases h
    · cases h
/-- What comes behind what is there. -/
def withP {α : Type} (out : List α) (p : Pr (List α)) : Pr (List α) :=
  match p with
  | .ok (r, l) => .ok (out ++ r, l)
  | .error e => .error e
theorem Im.of {α : Type} {f g : Option (List UInt8 × (Bool × (Int × (α × Unit))))} {p : Pr α} {z : α} (h : Im f p z) (hu : ∀ q, f = some q → g = some q) : Im g p z := by
  cases p with
  | ok x => exact hu _ h
  | error e => exact ⟨h.1, h.2.choose, hu _ h.2.choose_spec⟩
theorem im_sigTake {l : List UInt8} {m : Int} (hl : Len l) (h0 : 0 ≤ m) (hm : m ≤ 1000000) : Im (S_sig_Take l true 0 m) (sigP m l) [] := by
  have hb := im_Num hl h0 (by omega)
  unfold sigP
  cases h : numP m l with
  | error e =>
    rw [h] at hb
    obtain ⟨he, l', hb⟩ := hb
    refine ⟨he, l', u_sig_Take (N := 1) ?_⟩
    simp [M_sig_Take, hb, iter_s]
  | ok p =>
    obtain ⟨u, l'⟩ := p
    obtain ⟨h1, h2, h3⟩ := numP_ok h
    rw [h] at hb
    obtain ⟨n, rfl⟩ := Int.eq_ofNat_of_zero_le h1
    refine Im.of ?_ fun q hq => u_sig_Take (N := n + 1) hq
    simp [M_sig_Take, show S_cursor_Cursor_Num l true 0 m = _ from hb]
    refine iter_ex (R := fun r => Im r (tyP n l') []) (fun d => n - d.2.2.2.2.1.toNat) (fun d => ∃ (k : Nat) (out : List Int) (l2 : List UInt8), d = (out, (l2, (true, (0, ((k : Int), ()))))) ∧ k ≤ n ∧ out.length = k ∧ Len l2 ∧ tyP n l' = withP out (tyP (n - k) l2)) ?_ _ _ ⟨0, [], l', rfl, Nat.zero_le _, rfl, Nat.le_trans h3 hl, by cases tyP n l' <;> rfl⟩ (by simp)
    rintro _ again ⟨k, out, l2, rfl, hk, ho, hl2, ht⟩ ih
    by_cases hlt : k < n
    · obtain ⟨j, hj⟩ : ∃ j, n - k = j + 1 := ⟨n - k - 1, by omega⟩
      rw [hj] at ht
      cases l2 with
      | nil =>
        obtain ⟨he, l3, hB⟩ := im_Byte (l := [])
        rw [ht]
        refine ⟨by decide, l3, ?_⟩
        simp [hlt, hB]
      | cons x l2 =>
        have hB := im_Byte (l := x :: l2)
        by_cases hx : u8I x = 1 ∨ u8I x = 2
        · have := ih (out ++ [u8I x], (l2, (true, (0, ((k : Int) + 1, ()))))) ⟨k + 1, _, _, rfl, hlt, by simp [ho], by unfold Len at hl2 ⊢; simp at hl2; omega, by
            rw [ht, show n - (k + 1) = j by omega, tyP, if_pos hx]
            cases tyP j l2 <;> simp [withP]⟩ (by simp; omega)
          have hr := room_t (a := k) (b := 1) (c := 8) (by omega) (by omega)
          have hw : wrp .i64 ((k : Int) + 1) = (k : Int) + 1 := wi64 (by omega) (by omega)
          rcases hx with hx | hx <;> simpa [hlt, show S_cursor_Cursor_Byte (x :: l2) true 0 = _ from hB, hx, ho, hr, hw] using this
        · rw [ht, tyP, if_neg hx]
          refine ⟨by decide, l2, ?_⟩
          have hx1 : ¬u8I x = 1 := fun h => hx (.inl h)
          have hx2 : ¬u8I x = 2 := fun h => hx (.inr h)
          simp [hlt, show S_cursor_Cursor_Byte (x :: l2) true 0 = _ from hB, hx1, hx2]
    · have : k = n := by omega
      subst this
      rw [ht]
      simp [tyP, withP]
      rfl
theorem ime_sigTake {l : List UInt8} {e m : Int} (he : e ≠ 0) : S_sig_Take l true e m = some (l, (true, (e, ([], ())))) := by
  refine u_sig_Take (N := 1) ?_
  simp [M_sig_Take, ime_Num he, iter_s]
theorem Rf.of {α : Type} {f g : Option (α × (List UInt8 × (Int × Unit)))} {p : Pr α} (h : Rf f p) (hu : ∀ q, f = some q → g = some q) : Rf g p := by
  cases p with
  | ok x => exact hu _ h
  | error e => exact ⟨h.1, _, _, hu _ h.2.choose_spec.choose_spec⟩
end Go.Proofs.YtkdnbnkbnegckaaGreat
