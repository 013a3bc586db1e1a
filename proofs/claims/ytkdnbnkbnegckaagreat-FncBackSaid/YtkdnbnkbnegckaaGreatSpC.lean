/- Cursors: what the lifted functions come to, as a parser. -/
import Derived.Test.YtkdnbnkbnegckaaGreatSpU
import Derived.Laws.DeepNot64
namespace Go.Proofs.YtkdnbnkbnegckaaGreat
open Go.RowKit

/-- A parser: what bytes begin with, and the bytes behind; or what is wrong. -/
abbrev Pr (α : Type) := Except Int (α × List UInt8)
/-- What a function of the program, that takes from a cursor, comes to (T: results of any shape). -/
def ImT {α : Type} (r : Option (List UInt8 × (Bool × (Int × α)))) (p : Pr α) (z : α) : Prop :=
  match p with
  | .ok (a, l) => r = some (l, (true, (0, a)))
  | .error e => e ≠ 0 ∧ ∃ l, r = some (l, (true, (e, z)))
def Im {α : Type} (r : Option (List UInt8 × (Bool × (Int × (α × Unit))))) (p : Pr α) (z : α) : Prop :=
  match p with
  | .ok (a, l) => r = some (l, (true, (0, (a, ()))))
  | .error e => e ≠ 0 ∧ ∃ l, r = some (l, (true, (e, (z, ()))))
/-- What a function of the document's answer comes to. -/
def Rf {α : Type} (r : Option (α × (List UInt8 × (Int × Unit)))) (p : Pr α) : Prop :=
  match p with
  | .ok (a, l) => r = some (a, (l, (0, ())))
  | .error e => e ≠ 0 ∧ ∃ a l, r = some (a, (l, (e, ())))
/-! Errors, and what a cursor has -/
@[simp] theorem sp_Err {l : List UInt8} {e : Int} : S_cursor_Cursor_Err l true e = some (l, (true, (e, (e, ())))) := u_cursor_Cursor_Err (N := 0) (by simp [M_cursor_Cursor_Err])
@[simp] theorem sp_Fail {l : List UInt8} {e x : Int} : S_cursor_Cursor_Fail l true e x = some (l, (true, ((if e = 0 then x else e), ()))) := u_cursor_Cursor_Fail (N := 0) (by simp [M_cursor_Cursor_Fail]; split <;> simp)
@[simp] theorem sp_Left {l : List UInt8} {e : Int} : S_cursor_Cursor_Left l true e = some (l, (true, (e, ((if e = 0 then (l.length : Int) else 0), ())))) := u_cursor_Cursor_Left (N := 0) (by simp [M_cursor_Cursor_Left]; split <;> simp_all)
@[simp] theorem sp_rfail {l : List UInt8} {e x : Int} : S_ref02_fail l e x = some (l, ((if e = 0 then x else e), ())) := u_ref02_fail (N := 0) (by simp [M_ref02_fail]; split <;> simp)
@[simp] theorem sp_rFail {l : List UInt8} {e x : Int} : S_ref02_Fail l e x = some (l, ((if e = 0 then x else e), ())) := u_ref02_Fail (N := 0) (by simp [M_ref02_Fail])
@[simp] theorem sp_rLeft {l : List UInt8} {e : Int} : S_ref02_Left l e = some ((if e = 0 then (l.length : Int) else 0), ()) := u_ref02_Left (N := 0) (by simp [M_ref02_Left]; split <;> simp_all)
theorem sp_New {l : List UInt8} (hl : l.length ≤ 140737488351232) : S_cursor_New l = some (l, (true, (0, ()))) := u_cursor_New (N := 0) (by simp [M_cursor_New, S_slices_Clone_byte_byte, hl])

/-! Numbers -/
def bitsP (l : List UInt8) : Pr Int := if (getB l).2.2 = 0 then .ok (((getB l).1 : Int), l.drop (getB l).2.1) else .error (getB l).2.2
abbrev Len (l : List UInt8) : Prop := l.length ≤ 140737488351232
theorem bitsP_lt {l l' : List UInt8} {u : Int} (h : bitsP l = .ok (u, l')) : 0 ≤ u ∧ u < 18446744073709551616 := by
  obtain ⟨h1, _⟩ := getB_ok l
  unfold bitsP at h
  split at h
  · simp only [Except.ok.injEq, Prod.mk.injEq] at h; omega
  · cases h
theorem bitsP_len {l l' : List UInt8} {x : Int} (h : bitsP l = .ok (x, l')) : l'.length ≤ l.length := by
  unfold bitsP at h
  split at h
  · simp only [Except.ok.injEq, Prod.mk.injEq] at h; obtain ⟨_, rfl⟩ := h; simp
  · cases h
theorem im_Bits {l : List UInt8} (hl : Len l) : Im (S_cursor_Cursor_Bits l true 0) (bitsP l) 0 := by
  obtain ⟨h1, h2, h3, h4⟩ := getB_ok l
  unfold bitsP
  split
  · rename_i h
    refine u_cursor_Cursor_Bits (N := 0) ?_
    simp [M_cursor_Cursor_Bits, sp_uvar_Get hl, h, h2]
  · rename_i h
    refine ⟨h, l, u_cursor_Cursor_Bits (N := 0) ?_⟩
    simp [M_cursor_Cursor_Bits, sp_uvar_Get hl, h, h4 h]
theorem ime_Bits {l : List UInt8} {e : Int} (he : e ≠ 0) : S_cursor_Cursor_Bits l true e = some (l, (true, (e, (0, ())))) := by
  refine u_cursor_Cursor_Bits (N := 0) ?_
  simp [M_cursor_Cursor_Bits, he]
theorem rf_Bits {l : List UInt8} (hl : Len l) : Rf (S_ref02_Bits l 0) (bitsP l) := by
  obtain ⟨h1, h2, h3, h4⟩ := getB_ok l
  unfold bitsP
  split
  · rename_i h
    refine u_ref02_Bits (N := 0) ?_
    simp [M_ref02_Bits, sp_ref01_Get hl, h, h2]
  · rename_i h
    refine ⟨h, 0, l, u_ref02_Bits (N := 0) ?_⟩
    simp [M_ref02_Bits, sp_ref01_Get hl, h, h4 h]
theorem rfe_Bits {l : List UInt8} {e : Int} (he : e ≠ 0) : S_ref02_Bits l e = some (0, (l, (e, ()))) := by
  refine u_ref02_Bits (N := 0) ?_
  simp [M_ref02_Bits, he]
/-- A number with its sign at the lowest bit, back. -/
def unfoldI (u : Nat) : Int := if u % 2 = 1 then -((u / 2 : Nat) : Int) - 1 else (u / 2 : Nat)

theorem unfold_bits {u : Nat} (hu : u < 18446744073709551616) : bits .xor .i64 ((u : Int) / 2) (wrap64 (-wrap64 (bits .and .u64 (u : Int) 1))) = unfoldI u := by
  have e1 : bits .and .u64 (u : Int) 1 = ((u % 2 : Nat) : Int) := by
    have := u64_and_nat u 1 hu (by decide)
    rw [Nat.and_one_is_mod] at this
    exact this
  have e2 : (u : Int) / 2 = ((u / 2 : Nat) : Int) := by omega
  rw [e1, e2]
  unfold unfoldI
  by_cases h : u % 2 = 1
  · rw [if_pos h, h]
    have e3 : wrap64 (-wrap64 ((1 : Nat) : Int)) = -1 := by unfold wrap64; omega
    rw [e3]
    have h2 := i64_not (u / 2) (by omega)
    have h3 : bits .xor .i64 ((u / 2 : Nat) : Int) (-1) = bits .xor .i64 (-1) ((u / 2 : Nat) : Int) := by
      show IntKind.i64.wrap ((BitVec.ofInt 64 _ ^^^ BitVec.ofInt 64 _).toNat : Int) = IntKind.i64.wrap ((BitVec.ofInt 64 _ ^^^ BitVec.ofInt 64 _).toNat : Int)
      rw [BitVec.xor_comm]
    rw [h3, h2]; omega
  · rw [if_neg h, show u % 2 = 0 by omega]
    have e3 : wrap64 (-wrap64 ((0 : Nat) : Int)) = 0 := by unfold wrap64; omega
    rw [e3]
    show IntKind.i64.wrap ((BitVec.ofInt 64 ((u / 2 : Nat) : Int) ^^^ BitVec.ofInt 64 0).toNat : Int) = _
    have : (BitVec.ofInt 64 ((u / 2 : Nat) : Int) ^^^ BitVec.ofInt 64 0) = BitVec.ofInt 64 ((u / 2 : Nat) : Int) := by
      rw [show BitVec.ofInt 64 0 = 0#64 from rfl, BitVec.xor_zero]
    rw [this, BitVec.ofInt_natCast, BitVec.toNat_ofNat, IntKind.wrap_i64]
    omega
theorem sp_Unfold {u : Int} (h0 : 0 ≤ u) (h1 : u < 18446744073709551616) : S_uvar_Unfold u = some (unfoldI u.toNat, ()) := by
  refine u_uvar_Unfold (N := 0) ?_
  obtain ⟨n, rfl⟩ := Int.eq_ofNat_of_zero_le h0
  have e := unfold_bits (u := n) (by omega)
  have e1 : shrI .u64 (n : Int) 1 = (n : Int) / 2 := by
    show (n : Int).fdiv (2 ^ min (1 : Int).toNat 64) = _
    rw [show (2 : Int) ^ min (1 : Int).toNat 64 = 2 from rfl, Int.fdiv_eq_ediv_of_nonneg _ (by decide)]
  have e2 : ∀ x, wrp .i64 x = wrap64 x := fun x => by rw [wrp, IntKind.wrap_i64, wrap64]
  simp [M_uvar_Unfold, e1]
  rw [wi64 (n := (n : Int) / 2) (by omega) (by omega), e2, e2]
  exact e
theorem sp_rUnfold {u : Int} (h0 : 0 ≤ u) (h1 : u < 18446744073709551616) : S_ref01_Unfold u = some (unfoldI u.toNat, ()) := by
  refine u_ref01_Unfold (N := 0) ?_
  obtain ⟨n, rfl⟩ := Int.eq_ofNat_of_zero_le h0
  have e1 : ((n : Nat) : Int).tmod 2 = ((n % 2 : Nat) : Int) := by rw [Int.tmod_eq_emod_of_nonneg (by omega)]; omega
  have e2 : ((n : Nat) : Int).tdiv 2 = ((n / 2 : Nat) : Int) := by rw [Int.tdiv_eq_ediv_of_nonneg (by omega)]; omega
  simp [M_ref01_Unfold, e1, e2, unfoldI]
  by_cases h : n % 2 = 1
  · rw [if_pos (by omega), if_pos h]
    simp (disch := omega) only [wu64, wi64]
  · rw [if_neg (by omega), if_neg h]
    simp (disch := omega) only [wu64, wi64]
/-- With its sign. -/
def intP (l : List UInt8) : Pr Int :=
  match bitsP l with
  | .ok (u, l) => .ok (unfoldI u.toNat, l)
  | .error e => .error e
theorem im_Int {l : List UInt8} (hl : Len l) : Im (S_cursor_Cursor_Int l true 0) (intP l) 0 := by
  have hb := im_Bits hl
  unfold intP
  cases h : bitsP l with
  | ok p =>
    obtain ⟨u, l'⟩ := p
    obtain ⟨h1, h2⟩ := bitsP_lt h
    rw [h] at hb
    refine u_cursor_Cursor_Int (N := 0) ?_
    simp [M_cursor_Cursor_Int, show S_cursor_Cursor_Bits l true 0 = _ from hb, sp_Unfold h1 h2]
  | error e =>
    rw [h] at hb
    obtain ⟨he, l', hb⟩ := hb
    refine ⟨he, l', u_cursor_Cursor_Int (N := 0) ?_⟩
    simp [M_cursor_Cursor_Int, hb, sp_Unfold (u := 0) (by omega) (by omega), unfoldI]
theorem ime_Int {l : List UInt8} {e : Int} (he : e ≠ 0) : S_cursor_Cursor_Int l true e = some (l, (true, (e, (0, ())))) := by
  refine u_cursor_Cursor_Int (N := 0) ?_
  simp [M_cursor_Cursor_Int, ime_Bits he, sp_Unfold (u := 0) (by omega) (by omega), unfoldI]
theorem rf_Int {l : List UInt8} (hl : Len l) : Rf (S_ref02_Int l 0) (intP l) := by
  have hb := rf_Bits hl
  unfold intP
  cases h : bitsP l with
  | ok p =>
    obtain ⟨u, l'⟩ := p
    obtain ⟨h1, h2⟩ := bitsP_lt h
    rw [h] at hb
    refine u_ref02_Int (N := 0) ?_
    simp [M_ref02_Int, show S_ref02_Bits l 0 = _ from hb, sp_rUnfold h1 h2]
  | error e =>
    rw [h] at hb
    obtain ⟨he, a, l', hb⟩ := hb
    refine ⟨he, 0, l', u_ref02_Int (N := 0) ?_⟩
    simp [M_ref02_Int, hb, he]
theorem rfe_Int {l : List UInt8} {e : Int} (he : e ≠ 0) : S_ref02_Int l e = some (0, (l, (e, ()))) := by
  refine u_ref02_Int (N := 0) ?_
  simp [M_ref02_Int, rfe_Bits he, he]

/-- At most so many. -/
def numP (m : Int) (l : List UInt8) : Pr Int :=
  match bitsP l with
  | .ok (u, l) => if m < u then .error 6 else .ok (u, l)
  | .error e => .error e
theorem im_Num {l : List UInt8} {m : Int} (hl : Len l) (h0 : 0 ≤ m) (hm : m < 9223372036854775808) : Im (S_cursor_Cursor_Num l true 0 m) (numP m l) 0 := by
  have hb := im_Bits hl
  unfold numP
  cases h : bitsP l with
  | ok p =>
    obtain ⟨u, l'⟩ := p
    obtain ⟨h1, h2⟩ := bitsP_lt h
    rw [h] at hb
    simp only
    split
    · refine ⟨by decide, l', u_cursor_Cursor_Num (N := 0) ?_⟩
      simp [M_cursor_Cursor_Num, show S_cursor_Cursor_Bits l true 0 = _ from hb]
      simp (disch := omega) [wu64, *]
    · refine u_cursor_Cursor_Num (N := 0) ?_
      simp [M_cursor_Cursor_Num, show S_cursor_Cursor_Bits l true 0 = _ from hb]
      simp (disch := omega) [wu64, wi64, *]
  | error e =>
    rw [h] at hb
    obtain ⟨he, l', hb⟩ := hb
    refine ⟨he, l', u_cursor_Cursor_Num (N := 0) ?_⟩
    simp [M_cursor_Cursor_Num, hb, he]
theorem ime_Num {l : List UInt8} {e m : Int} (he : e ≠ 0) : S_cursor_Cursor_Num l true e m = some (l, (true, (e, (0, ())))) := by
  refine u_cursor_Cursor_Num (N := 0) ?_
  simp [M_cursor_Cursor_Num, ime_Bits he, he]
theorem rf_Num {l : List UInt8} {m : Int} (hl : Len l) (h0 : 0 ≤ m) (hm : m < 9223372036854775808) : Rf (S_ref02_Num l 0 m) (numP m l) := by
  have hb := rf_Bits hl
  unfold numP
  cases h : bitsP l with
  | ok p =>
    obtain ⟨u, l'⟩ := p
    obtain ⟨h1, h2⟩ := bitsP_lt h
    rw [h] at hb
    simp only
    split
    · refine ⟨by decide, 0, l, u_ref02_Num (N := 0) ?_⟩
      simp [M_ref02_Num, show S_ref02_Bits l 0 = _ from hb]
      simp (disch := omega) [wu64, *]
    · refine u_ref02_Num (N := 0) ?_
      simp [M_ref02_Num, show S_ref02_Bits l 0 = _ from hb]
      simp (disch := omega) [wu64, wi64, *]
  | error e =>
    rw [h] at hb
    obtain ⟨he, a, l', hb⟩ := hb
    refine ⟨he, wrp .i64 a, l', u_ref02_Num (N := 0) ?_⟩
    simp [M_ref02_Num, hb, he]
theorem rfe_Num {l : List UInt8} {e m : Int} (he : e ≠ 0) : S_ref02_Num l e m = some (0, (l, (e, ()))) := by
  refine u_ref02_Num (N := 0) ?_
  simp [M_ref02_Num, rfe_Bits he, he]
theorem numP_ok {m u : Int} {l l' : List UInt8} (h : numP m l = .ok (u, l')) : 0 ≤ u ∧ u ≤ m ∧ l'.length ≤ l.length := by
  unfold numP at h
  split at h
  · rename_i u0 l0 hb
    split at h
    · cases h
    · simp only [Except.ok.injEq, Prod.mk.injEq] at h
      obtain ⟨rfl, rfl⟩ := h
      exact ⟨(bitsP_lt hb).1, by omega, bitsP_len hb⟩
  · cases h

/-! Bytes and texts -/
def byteP : List UInt8 → Pr UInt8
  | [] => .error 3
  | x :: l => .ok (x, l)
theorem im_Byte {l : List UInt8} : Im (S_cursor_Cursor_Byte l true 0) (byteP l) 0 := by
  cases l with
  | nil => exact ⟨by decide, [], u_cursor_Cursor_Byte (N := 0) (by simp [M_cursor_Cursor_Byte])⟩
  | cons x l =>
    refine u_cursor_Cursor_Byte (N := 0) ?_
    simp [M_cursor_Cursor_Byte, show ¬((l.length : Int) + 1 = 0) by omega, show (1 : Int) ≤ l.length + 1 by omega]
theorem ime_Byte {l : List UInt8} {e : Int} (he : e ≠ 0) : S_cursor_Cursor_Byte l true e = some (l, (true, (e, (0, ())))) := by
  refine u_cursor_Cursor_Byte (N := 0) ?_
  simp [M_cursor_Cursor_Byte, he]
theorem rf_Byte {l : List UInt8} : Rf (S_ref02_Byte l 0) (byteP l) := by
  cases l with
  | nil => exact ⟨by decide, 0, [], u_ref02_Byte (N := 0) (by simp [M_ref02_Byte])⟩
  | cons x l =>
    refine u_ref02_Byte (N := 0) ?_
    simp [M_ref02_Byte, show ¬((l.length : Int) + 1 = 0) by omega, show (1 : Int) ≤ l.length + 1 by omega]
theorem rfe_Byte {l : List UInt8} {e : Int} (he : e ≠ 0) : S_ref02_Byte l e = some (0, (l, (e, ()))) := by
  refine u_ref02_Byte (N := 0) ?_
  simp [M_ref02_Byte, he]
def textP (m : Int) (l : List UInt8) : Pr (List UInt8) :=
  match numP m l with
  | .ok (u, l) => if (l.length : Int) < u then .error 3 else .ok (l.take u.toNat, l.drop u.toNat)
  | .error e => .error e
theorem im_Text {l : List UInt8} {m : Int} (hl : Len l) (h0 : 0 ≤ m) (hm : m < 9223372036854775808) : Im (S_cursor_Cursor_Text l true 0 m) (textP m l) [] := by
  have hb := im_Num hl h0 hm
  unfold textP
  cases h : numP m l with
  | ok p =>
    obtain ⟨u, l'⟩ := p
    obtain ⟨h1, h2, h3⟩ := numP_ok h
    rw [h] at hb
    simp only
    split
    · refine ⟨by decide, l', u_cursor_Cursor_Text (N := 0) ?_⟩
      simp [M_cursor_Cursor_Text, show S_cursor_Cursor_Num l true 0 m = _ from hb, *]
    · rename_i hu
      obtain ⟨n, rfl⟩ := Int.eq_ofNat_of_zero_le h1
      have hn : n ≤ l'.length := by omega
      refine u_cursor_Cursor_Text (N := 0) ?_
      simp [M_cursor_Cursor_Text, show S_cursor_Cursor_Num l true 0 m = _ from hb, hn]
  | error e =>
    rw [h] at hb
    obtain ⟨he, l', hb⟩ := hb
    refine ⟨he, l', u_cursor_Cursor_Text (N := 0) ?_⟩
    simp [M_cursor_Cursor_Text, hb, he]
theorem ime_Text {l : List UInt8} {e m : Int} (he : e ≠ 0) : S_cursor_Cursor_Text l true e m = some (l, (true, (e, ([], ())))) := by
  refine u_cursor_Cursor_Text (N := 0) ?_
  simp [M_cursor_Cursor_Text, ime_Num he, he]
theorem rf_Text {l : List UInt8} {m : Int} (hl : Len l) (h0 : 0 ≤ m) (hm : m < 9223372036854775808) : Rf (S_ref02_Text l 0 m) (textP m l) := by
  have hb := rf_Num hl h0 hm
  unfold textP
  cases h : numP m l with
  | ok p =>
    obtain ⟨u, l'⟩ := p
    obtain ⟨h1, h2, h3⟩ := numP_ok h
    rw [h] at hb
    simp only
    split
    · refine ⟨by decide, [], l', u_ref02_Text (N := 0) ?_⟩
      simp [M_ref02_Text, show S_ref02_Num l 0 m = _ from hb, *]
    · rename_i hu
      obtain ⟨n, rfl⟩ := Int.eq_ofNat_of_zero_le h1
      have hn : n ≤ l'.length := by omega
      refine u_ref02_Text (N := 0) ?_
      simp [M_ref02_Text, show S_ref02_Num l 0 m = _ from hb, hn]
  | error e =>
    rw [h] at hb
    obtain ⟨he, a, l', hb⟩ := hb
    refine ⟨he, [], l', u_ref02_Text (N := 0) ?_⟩
    simp [M_ref02_Text, hb, he]
theorem rfe_Text {l : List UInt8} {e m : Int} (he : e ≠ 0) : S_ref02_Text l e m = some ([], (l, (e, ()))) := by
  refine u_ref02_Text (N := 0) ?_
  simp [M_ref02_Text, rfe_Num he, he]
end Go.Proofs.YtkdnbnkbnegckaaGreat
