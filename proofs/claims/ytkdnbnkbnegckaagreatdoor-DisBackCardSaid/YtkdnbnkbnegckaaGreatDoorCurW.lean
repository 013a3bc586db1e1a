/- Whether a type may be. Tables of lines: the walks of lines.Right, lines.At, and of their references. The walks of package uvar's functions that put, and of its reference's. Lists of types: may they be; whether two are the same; their bytes. Decimal digits. Decimal digits: the reference's. The program's data as Lean's: instructions, nodes, sets, functions; their cells; where a function lies. Instructions: what their operands are, whether they may be. The names of the instructions, in plain Lean. The number that bytes begin with: the walks of uvar.Get, Unfold, and of their references. The walks of package cursor's methods. -/
import Derived.Test.YtkdnbnkbnegckaaGreatDoorBase
import Derived.Test.YtkdnbnkbnegckaaGreatDoorStrA
import Derived.Test.YtkdnbnkbnegckaaGreatDoorSigW
import Derived.Outline
import Derived.Test.YtkdnbnkbnegckaaGreatDoorEvA
import Derived.OwnWalk
import Derived.WalkMore
import Derived.Laws.Bits64b
import Derived.Laws.BitsAllLaws
namespace Go.Proofs.YtkdnbnkbnegckaaGreatDoor
open Go.RowKit

end Go.Proofs.YtkdnbnkbnegckaaGreatDoor
namespace Go.Proofs.YtkdnbnkbnegckaaGreatDoor
open Go.RowKit

end Go.Proofs.YtkdnbnkbnegckaaGreatDoor
namespace Go.Proofs.YtkdnbnkbnegckaaGreatDoor
open Go.RowKit

/-- 'string(b)', b a slice of bytes. -/
theorem run_bytes_string {P : Program} {w : World} {src dst e : TypeId} {ao : Option Addr} {cap : Nat} {bs : List UInt8} (n : Nat) (hn : n = bs.length)
    (hs : P.underlying src = some (.slice e)) (he : P.underlying e = some (.int .u8)) (hd : P.underlying dst = some .string)
    (hc : Cells w ao (bs.map byteC)) : (convert src dst (.slice ao n cap)).run P w = .ok (.string ⟨bs.toArray⟩) w := by
  subst hn
  cases ao with
  | none =>
    have := hc.none_nil
    obtain rfl : bs = [] := by simpa using this
    rw [run_convert_bytes_string w src dst e none _ cap hs he hd]
    rfl
  | some ad =>
    refine run_convert_bytes_back w src dst e ad cap bs hs he hd (fun j hj => ?_)
    rw [hc.addAt (by simpa using hj)]
    simp [byteC]

end Go.Proofs.YtkdnbnkbnegckaaGreatDoor
namespace Go.Proofs.YtkdnbnkbnegckaaGreatDoor
open Go.RowKit

end Go.Proofs.YtkdnbnkbnegckaaGreatDoor
namespace Go.Proofs.YtkdnbnkbnegckaaGreatDoor
open Go.RowKit

def dig8 (m : Nat) : UInt8 := UInt8.ofNat (48 + m)
theorem dig8_nat {m : Nat} (h : m < 10) : (dig8 m).toNat = 48 + m := by
  simp only [dig8, UInt8.toNat_ofNat']; omega
/-- The digits of a number, the last one first. -/
def revDig (m : Nat) : List UInt8 := if m < 10 then [dig8 m] else dig8 (m % 10) :: revDig (m / 10)
termination_by m
decreasing_by omega
theorem revDig_lt {m : Nat} (h : m < 10) : revDig m = [dig8 m] := by rw [revDig, if_pos h]
theorem revDig_ge {m : Nat} (h : 10 ≤ m) : revDig m = dig8 (m % 10) :: revDig (m / 10) := by rw [revDig, if_neg (by omega)]
theorem revDig_ne (m : Nat) : revDig m ≠ [] := by rw [revDig]; split <;> simp
theorem revDig_len : ∀ (k m : Nat), 1 ≤ k → m < 10 ^ k → (revDig m).length ≤ k := by
  intro k
  induction k with
  | zero => intro m h; omega
  | succ k ih =>
    intro m _ h
    by_cases hm : m < 10
    · rw [revDig_lt hm]; simp
    · rw [revDig_ge (by omega), List.length_cons]
      have hk : 1 ≤ k := by
        rcases Nat.eq_zero_or_pos k with rfl | h2
        · simp at h; omega
        · exact h2
      have := ih (m / 10) hk (by rw [Nat.div_lt_iff_lt_mul (by decide)]; rw [Nat.pow_succ] at h; exact h)
      omega
/-- The digits of a number, with a sign. -/
def digN (m : Nat) : List UInt8 := (revDig m).reverse
def decB (n : Int) : List UInt8 := if n < 0 then 45 :: digN n.natAbs else digN n.natAbs
theorem digN_lt {m : Nat} (h : m < 10) : digN m = [dig8 m] := by rw [digN, revDig_lt h]; rfl
theorem digN_ge {m : Nat} (h : 10 ≤ m) : digN m = digN (m / 10) ++ digN (m % 10) := by
  rw [digN, revDig_ge h, List.reverse_cons, digN_lt (show m % 10 < 10 by omega)]; rfl
theorem decB_neg {n : Int} (h : n < 0) : decB n = 45 :: digN n.natAbs := by rw [decB, if_pos h]
theorem decB_nn {n : Int} (h : ¬ n < 0) : decB n = digN n.natAbs := by rw [decB, if_neg h]
theorem digN_len {m : Nat} (h : m ≤ 9223372036854775808) : (digN m).length ≤ 19 := by
  rw [digN, List.length_reverse]; exact revDig_len 19 m (by decide) (by omega)
theorem decB_len {n : Int} (h1 : -9223372036854775808 ≤ n) (h2 : n ≤ 9223372036854775807) : (decB n).length ≤ 20 := by
  have := digN_len (m := n.natAbs) (by omega)
  unfold decB; split <;> simp <;> omega
/-- What is left to lay. -/
def restD (m : Nat) (done : List UInt8) : List UInt8 := if m = 0 ∧ done ≠ [] then [] else revDig m
theorem restD_step {m : Nat} {done : List UInt8} (h : ¬ (m = 0 ∧ done ≠ [])) : restD m done = dig8 (m % 10) :: restD (m / 10) (done ++ [dig8 (m % 10)]) := by
  rw [restD, if_neg h]
  by_cases hm : m < 10
  · rw [revDig_lt hm, restD, if_pos ⟨by omega, by simp⟩, show m % 10 = m by omega]
  · rw [revDig_ge (by omega), restD, if_neg]
    rintro ⟨h1, -⟩; omega
theorem restD_end {m : Nat} {done : List UInt8} (h : m = 0 ∧ done ≠ []) : restD m done = [] := by rw [restD, if_pos h]
/-- A measure. -/
def measD (m : Nat) (done : List UInt8) : Nat := 2 * m + (if done = [] then 1 else 0)
theorem measD_step {m : Nat} {done : List UInt8} (h : ¬ (m = 0 ∧ done ≠ [])) (c : UInt8) : measD (m / 10) (done ++ [c]) < measD m done := by
  unfold measD
  rw [if_neg (by simp)]
  by_cases hd : done = []
  · rw [if_pos hd]; omega
  · rw [if_neg hd]
    have : m ≠ 0 := fun e => h ⟨e, hd⟩
    omega
end Go.Proofs.YtkdnbnkbnegckaaGreatDoor
namespace Go.Proofs.YtkdnbnkbnegckaaGreatDoor
open Go.RowKit

def strB (l : List UInt8) : ByteArray := ⟨l.toArray⟩
theorem strB_app (a b : List UInt8) : strB a ++ strB b = strB (a ++ b) := by
  apply ByteArray.ext; simp [strB, ByteArray.data_append]
theorem strB_size (a : List UInt8) : (strB a).size = a.length := by simp [strB, ByteArray.size]
theorem strB_lit1 (c : UInt8) (xs : List UInt8) : (⟨#[c]⟩ : ByteArray) ++ strB xs = strB (c :: xs) := by
  rw [show (⟨#[c]⟩ : ByteArray) = strB [c] from rfl, strB_app]; rfl

theorem conv_one (w : World) (m : Nat) (h : m < 10) : (convert 83 9 (.slice (some ⟨w.heap.size, 0, none⟩) 1 1)).run Tryz.prog (w.alloc (.cells #[.int .u8 (48 + (m : Int))] 5)) = .ok (.string (strB [dig8 m])) (w.alloc (.cells #[.int .u8 (48 + (m : Int))] 5)) := by
  have e : [Value.int .u8 (48 + (m : Int))] = [dig8 m].map byteC := by
    simp only [List.map_cons, List.map_nil, byteC, dig8_nat h]; rfl
  refine run_bytes_string (P := Tryz.prog) 1 rfl Tryz.underlying83 Tryz.underlying5 Tryz.underlying9 ?_
  rw [← e]
  exact cells_new w _ _ _ rfl

set_option maxHeartbeats 1000000 in
set_option maxRecDepth 20000 in
theorem refdigits : ∀ (f m : Nat) (w : World), m < 10 ^ (f + 1) → m ≤ 9223372036854775808 → Calls Tryz.prog 79 #[.int .i64 m] w fun e w' => e = .returned (.string (strB (digN m))) ∧ Ext w w' := by
  intro f
  induction f with
  | zero =>
    intro m w h _
    have hlt : m < 10 := by omega
    have HD := Lib.hid (digN_lt hlt)
    have hw8 : IntKind.u8.wrap ((48 : Int) + m) = 48 + m := by rw [IntKind.wrap_u8]; omega
    have hcv := conv_one w m hlt
    clear h
    go_enter Tryz.func79, Tryz.ntmps79
    go_wp2_with fail
    go_ret
    exact ⟨by rw [HD.out] <;> rfl, (Ext.rf w).al _⟩
  | succ f ih =>
    intro m w h h2
    by_cases hlt : m < 10
    · have HD := Lib.hid (digN_lt hlt)
      have hw8 : IntKind.u8.wrap ((48 : Int) + m) = 48 + m := by rw [IntKind.wrap_u8]; omega
      have hcv := conv_one w m hlt
      clear h ih
      go_enter Tryz.func79, Tryz.ntmps79
      go_wp2_with fail
      go_ret
      exact ⟨by rw [HD.out] <;> rfl, (Ext.rf w).al _⟩
    · have HD := Lib.hid (digN_ge (show 10 ≤ m by omega))
      have HI : Hid (∀ W, Calls Tryz.prog 79 #[.int .i64 ((m : Int) / 10)] W fun e w' => e = .returned (.string (strB (digN (m / 10)))) ∧ Ext W w') := fun W => by
        have := ih (m / 10) W (by rw [Nat.div_lt_iff_lt_mul (by decide)]; rw [Nat.pow_succ] at h; exact h) (by omega)
        rwa [show ((m / 10 : Nat) : Int) = (m : Int) / 10 from by omega] at this
      have HJ : Hid (∀ W, Calls Tryz.prog 79 #[.int .i64 ((m : Int) % 10)] W fun e w' => e = .returned (.string (strB (digN (m % 10)))) ∧ Ext W w') := fun W => by
        have := ih (m % 10) W (Nat.lt_of_lt_of_le (Nat.mod_lt _ (by decide)) (Nat.pow_le_pow_right (n := 10) (by decide) (show 1 ≤ f + 1 by omega))) (by omega)
        rwa [show ((m % 10 : Nat) : Int) = (m : Int) % 10 from by omega] at this
      clear h ih
      go_enter Tryz.func79, Tryz.ntmps79
      go_wp2_with fail
      refine (HI.out _).mono ?_
      rintro e w1 ⟨rfl, hx1⟩
      go_wp2_with fail
      refine (HJ.out _).mono ?_
      rintro e w2 ⟨rfl, hx2⟩
      have hsz : (strB (digN (m / 10))).size + (strB (digN (m % 10))).size ≤ 9223372036854775807 := by
        have h1 := digN_len (m := m / 10) (by omega)
        have h2 := digN_len (m := m % 10) (by omega)
        rw [strB_size, strB_size]; omega
      go_wp2_with fail
      go_ret
      exact ⟨by rw [HD.out, ← strB_app] <;> rfl, hx1.tr hx2⟩

theorem tdiv10 (m : Nat) : (-(m : Int)).tdiv 10 = -((m / 10 : Nat) : Int) := by rw [Int.neg_tdiv]; rfl
theorem tmod10 (m : Nat) : (-(m : Int)).tmod 10 = -((m % 10 : Nat) : Int) := by rw [Int.neg_tmod]; rfl
theorem refdig_any (m : Nat) (w : World) (h : m ≤ 9223372036854775808) : Calls Tryz.prog 79 #[.int .i64 m] w fun e w' => e = .returned (.string (strB (digN m))) ∧ Ext w w' :=
  refdigits 18 m w (by omega) h

set_option maxHeartbeats 1000000 in
set_option maxRecDepth 20000 in
theorem ref_Digits (n : Int) (w : World) (h1 : -9223372036854775808 ≤ n) (h2 : n ≤ 9223372036854775807) : Calls Tryz.prog 52 #[.int .i64 n] w fun e w' => e = .returned (.string (strB (decB n))) ∧ Ext w w' := by
  by_cases h : n < 0
  · obtain ⟨m, rfl⟩ : ∃ m : Nat, n = -(m : Int) := ⟨n.natAbs, by omega⟩
    have HD : Hid (decB (-(m : Int)) = 45 :: digN m) := by rw [Hid, decB_neg h]; congr 2; omega
    have hq := tdiv10 m
    have hr := tmod10 m
    have t1 : decide (0 ≤ -(m : Int)) = false := decide_eq_false (by omega)
    by_cases hm : m < 10
    · have hz : m / 10 = 0 := by omega
      rw [hz] at hq
      have HL := Lib.hid (digN_len (m := m) (by omega))
      have hsz : 1 + (strB (digN m)).size ≤ 9223372036854775807 := by have := HL.out; rw [strB_size]; omega
      have hm0 : decide (m = 0) = false := decide_eq_false (by omega)
      go_enter Tryz.func52, Tryz.ntmps52
      go_wp2_with fail
      refine (refdig_any m _ (by omega)).mono ?_
      rintro e w1 ⟨rfl, hx1⟩
      go_wp2_with fail
      go_ret
      exact ⟨by rw [HD.out, ← strB_lit1] <;> rfl, hx1⟩
    · have HG := Lib.hid (digN_ge (show 10 ≤ m by omega))
      have HL := Lib.hid (digN_len (m := m / 10) (by omega))
      have HM := Lib.hid (digN_len (m := m % 10) (by omega))
      have hsz : 1 + (strB (digN (m / 10))).size ≤ 9223372036854775807 := by have := HL.out; rw [strB_size]; omega
      have hsz2 : 1 + (strB (digN (m / 10))).size + (strB (digN (m % 10))).size ≤ 9223372036854775807 := by have := HL.out; have := HM.out; rw [strB_size, strB_size]; omega
      have hm0 : decide (m = 0) = false := decide_eq_false (by omega)
      have HA := Lib.hid (fun W => refdig_any (m / 10) W (by omega))
      have HB := Lib.hid (fun W => refdig_any (m % 10) W (by omega))
      have hz : 1 ≤ m / 10 := by omega
      have hz3 : m / 10 ≤ 922337203685477580 := by omega
      have hz2 : m % 10 < 10 := Nat.mod_lt _ (by decide)
      have hz0 : ((-((m / 10 : Nat) : Int)) == 0) = false := beq_eq_false_iff_ne.2 (by omega)
      generalize m / 10 = q at *
      generalize m % 10 = r at *
      have hq0 : decide (q = 0) = false := decide_eq_false (by omega)
      go_enter Tryz.func52, Tryz.ntmps52
      go_wp2_with fail
      refine (HA.out _).mono ?_
      rintro e w1 ⟨rfl, hx1⟩
      go_wp2_with fail
      refine (HB.out _).mono ?_
      rintro e w2 ⟨rfl, hx2⟩
      go_wp2_with fail
      go_ret
      exact ⟨by rw [HD.out, HG.out, ← List.cons_append, ← strB_app, ← strB_lit1] <;> rfl, hx1.tr hx2⟩
  · obtain ⟨m, rfl⟩ := Int.eq_ofNat_of_zero_le (show 0 ≤ n by omega)
    have HD : Hid (decB (m : Int) = digN m) := by rw [Hid, decB_nn h]; congr 1
    have t1 : decide (0 ≤ (m : Int)) = true := decide_eq_true (by omega)
    go_enter Tryz.func52, Tryz.ntmps52
    go_wp2_with fail
    refine (refdig_any m _ (by omega)).mono ?_
    rintro e w1 ⟨rfl, hx1⟩
    go_wp2_with fail
    go_ret
    exact ⟨by rw [HD.out] <;> rfl, hx1⟩
end Go.Proofs.YtkdnbnkbnegckaaGreatDoor
namespace Go.Proofs.YtkdnbnkbnegckaaGreatDoor
open Go.RowKit

abbrev InstrT := Int × Int
structure NodeT where
  par : Int
  fn : Int
  line : Int
  frm : Int
  args : Int
  upto : Int
  res : Int
  deriving DecidableEq
structure SetT where
  a : Nat
  b : Nat
  c : Nat
  d : Nat
  deriving DecidableEq
structure FuncT where
  name : ByteArray
  inner : Bool
  outer : List Int
  params : List Int
  results : List Int
  locs : List Int
  code : List InstrT
  lines : List Int
  nodes : List NodeT
  ats : List Int
  live : List SetT
  deriving DecidableEq

def nodeC (n : NodeT) : List Value := [.int .i64 n.par, .int .i64 n.fn, .int .i64 n.line, .int .i64 n.frm, .int .i64 n.args, .int .i64 n.upto, .int .i64 n.res]
def setC (s : SetT) : List Value := [.int .u64 s.a, .int .u64 s.b, .int .u64 s.c, .int .u64 s.d]
def I64 (n : Int) : Prop := -9223372036854775808 ≤ n ∧ n ≤ 9223372036854775807
def Node64 (n : NodeT) : Prop := I64 n.par ∧ I64 n.fn ∧ I64 n.line ∧ I64 n.frm ∧ I64 n.args ∧ I64 n.upto ∧ I64 n.res
def Set64 (s : SetT) : Prop := s.a < 18446744073709551616 ∧ s.b < 18446744073709551616 ∧ s.c < 18446744073709551616 ∧ s.d < 18446744073709551616

/-- Where the parts of a function lie. -/
structure FuncA where
  o1 : Option Addr
  c1 : Nat
  o2 : Option Addr
  c2 : Nat
  o3 : Option Addr
  c3 : Nat
  o4 : Option Addr
  c4 : Nat
  o5 : Option Addr
  c5 : Nat
  o6 : Option Addr
  c6 : Nat
  o7 : Option Addr
  c7 : Nat
  o8 : Option Addr
  c8 : Nat
  o9 : Option Addr
  c9 : Nat

/-- A function lies there. -/
structure FuncIn (w : World) (A : FuncA) (f : FuncT) : Prop where
  h1 : Cells w A.o1 (f.outer.map (.int .i64))
  h2 : Cells w A.o2 (f.params.map (.int .i64))
  h3 : Cells w A.o3 (f.results.map (.int .i64))
  h4 : Cells w A.o4 (f.locs.map (.int .i64))
  h5 : Cells w A.o5 (f.code.flatMap pairC)
  h6 : Cells w A.o6 (f.lines.map (.int .i64))
  h7 : Cells w A.o7 (f.nodes.flatMap nodeC)
  h8 : Cells w A.o8 (f.ats.map (.int .i64))
  h9 : Cells w A.o9 (f.live.flatMap setC)

theorem FuncIn.ext {w w' : World} {A : FuncA} {f : FuncT} (h : FuncIn w A f) (hb : Ext w w') : FuncIn w' A f :=
  ⟨h.h1.ext hb, h.h2.ext hb, h.h3.ext hb, h.h4.ext hb, h.h5.ext hb, h.h6.ext hb, h.h7.ext hb, h.h8.ext hb, h.h9.ext hb⟩

/-- What a machine's function is: numbers of 64 bits, lengths that may be. -/
structure FuncB (f : FuncT) : Prop where
  n0 : f.name.size ≤ 9223372036854775807
  n1 : f.outer.length ≤ 17592186044416
  n2 : f.params.length ≤ 17592186044416
  n3 : f.results.length ≤ 17592186044416
  n4 : f.locs.length ≤ 17592186044416
  n5 : f.code.length ≤ 17592186044416
  n6 : f.lines.length ≤ 17592186044416
  n7 : f.nodes.length ≤ 17592186044416
  n8 : f.ats.length ≤ 17592186044416
  n9 : f.live.length ≤ 17592186044416
  v1 : ∀ n ∈ f.outer, I64 n
  v2 : ∀ n ∈ f.params, I64 n
  v3 : ∀ n ∈ f.results, I64 n
  v4 : ∀ n ∈ f.locs, I64 n
  v5 : ∀ i ∈ f.code, I64 i.1 ∧ I64 i.2
  v6 : ∀ n ∈ f.lines, I64 n
  v7 : ∀ n ∈ f.nodes, Node64 n
  v8 : ∀ n ∈ f.ats, I64 n
  v9 : ∀ s ∈ f.live, Set64 s
end Go.Proofs.YtkdnbnkbnegckaaGreatDoor
namespace Go.Proofs.YtkdnbnkbnegckaaGreatDoor
open Go.RowKit

def opTab : List Int := [0, 1, 2, 2, 0, 0, 0, 0, 0, 0, 0, 0, 0, 0, 0, 0, 0, 0, 0, 0, 0, 3, 3, 4, 4, 0, 0, 0, 5, 5, 0, 0, 0, 6, 6]
def isOp (op : Int) : Bool := decide (0 ≤ op) && decide (op < 35)
def opAt (k : Nat) : Int := opTab.getD k 0
theorem opAt_get {k : Nat} (h : k < 35) : opTab[k]? = some (opAt k) := by
  rw [opAt, List.getD_eq_getElem?_getD, List.getElem?_eq_getElem (show k < opTab.length from h)]; rfl
def operandI (op : Int) : Int := if isOp op then opAt op.toNat else 0
def mostI (k : Int) : Int := if k = 2 then 255 else if k = 3 then 1999 else if k = 4 then 39 else if k = 5 then 3 else if k = 6 then 119 else 0
def mayOperand (k n : Int) : Bool := k == 1 || (decide (0 ≤ n) && decide (n ≤ mostI k))
def rightInstr (i : InstrT) : Bool := isOp i.1 && mayOperand (operandI i.1) i.2

theorem operandI_lt (op : Int) : 0 ≤ operandI op ∧ operandI op < 7 := by
  unfold operandI; split
  · rename_i h
    simp only [isOp, Bool.and_eq_true, decide_eq_true_eq] at h
    obtain ⟨k, rfl⟩ := Int.eq_ofNat_of_zero_le h.1
    have : ∀ k : Nat, k < 35 → 0 ≤ opAt k ∧ opAt k < 7 := by decide
    rw [Int.toNat_natCast]
    exact this k (by omega)
  · decide

theorem ops_is (op : Int) (w : World) : Calls Tryz.prog 103 #[.int .i64 op] w fun e w' => e = .returned (.bool (isOp op)) ∧ w = w' := by
  unfold isOp
  cases t1 : decide (0 ≤ op) <;> cases t2 : decide (op < 35) <;>
  (go_enter Tryz.func103, Tryz.ntmps103
   go_wp2
   go_ret
   exact ⟨rfl, rfl⟩)

set_option maxRecDepth 100000 in
theorem ops_Operand (op : Int) (w : World) : Calls Tryz.prog 77 #[.int .i64 op] w fun e w' => e = .returned (.int .i64 (operandI op)) ∧ w = w' := by
  cases t1 : isOp op with
  | false =>
    have HR : Hid (operandI op = 0) := by simp [Hid, operandI, t1]
    go_enter Tryz.func77, Tryz.ntmps77
    go_wp2_with fail
    refine (ops_is op w).mono ?_
    rw [t1]
    rintro e w1 ⟨rfl, rfl⟩
    clear t1
    go_wp2_with fail
    go_ret
    exact ⟨by rw [HR.out] <;> rfl, rfl⟩
  | true =>
    have HR : Hid (operandI op = opAt op.toNat) := by simp [Hid, operandI, t1]
    have t2 := t1
    simp only [isOp, Bool.and_eq_true, decide_eq_true_eq] at t2
    obtain ⟨h0, h1⟩ := t2
    obtain ⟨k, rfl⟩ := Int.eq_ofNat_of_zero_le h0
    have hk : k < 35 := by omega
    clear h0 h1
    rw [Int.toNat_natCast] at HR
    have hi := fun W => run_index_ints (P := Tryz.prog) (k := .i64) (ki := .i64) (t := 146) (e := 3) (n := 35) Tryz.underlying146 Tryz.underlying3 (fun _ => by kernel_rfl) opTab rfl k hk _ (opAt_get hk) W
    simp only [opTab, List.map_cons, List.map_nil] at hi
    go_enter Tryz.func77, Tryz.ntmps77
    go_wp2_with fail
    refine (ops_is _ w).mono ?_
    rw [t1]
    rintro e w1 ⟨rfl, rfl⟩
    clear t1
    go_wp2_with fail
    go_ret
    exact ⟨by rw [HR.out] <;> rfl, rfl⟩

theorem operand_most (k : Int) (w : World) : Calls Tryz.prog 104 #[.int .i64 k] w fun e w' => e = .returned (.int .i64 (mostI k)) ∧ w = w' := by
  by_cases h0 : k = 2
  · subst h0
    go_enter Tryz.func104, Tryz.ntmps104
    go_wp2
    go_ret
    exact ⟨rfl, rfl⟩
  have n0 : (k == 2) = false := beq_eq_false_iff_ne.2 h0
  by_cases h1 : k = 3
  · subst h1
    go_enter Tryz.func104, Tryz.ntmps104
    go_wp2
    go_ret
    exact ⟨rfl, rfl⟩
  have n1 : (k == 3) = false := beq_eq_false_iff_ne.2 h1
  by_cases h2 : k = 4
  · subst h2
    go_enter Tryz.func104, Tryz.ntmps104
    go_wp2
    go_ret
    exact ⟨rfl, rfl⟩
  have n2 : (k == 4) = false := beq_eq_false_iff_ne.2 h2
  by_cases h3 : k = 5
  · subst h3
    go_enter Tryz.func104, Tryz.ntmps104
    go_wp2
    go_ret
    exact ⟨rfl, rfl⟩
  have n3 : (k == 5) = false := beq_eq_false_iff_ne.2 h3
  by_cases h4 : k = 6
  · subst h4
    go_enter Tryz.func104, Tryz.ntmps104
    go_wp2
    go_ret
    exact ⟨rfl, rfl⟩
  have n4 : (k == 6) = false := beq_eq_false_iff_ne.2 h4
  have HR : Hid (mostI k = 0) := by simp [Hid, mostI, h0, h1, h2, h3, h4]
  clear h0 h1 h2 h3 h4
  go_enter Tryz.func104, Tryz.ntmps104
  go_wp2
  go_ret
  exact ⟨by rw [HR.out] <;> rfl, rfl⟩

theorem operand_may (k n : Int) (w : World) : Calls Tryz.prog 78 #[.int .i64 k, .int .i64 n] w fun e w' => e = .returned (.bool (mayOperand k n)) ∧ w = w' := by
  unfold mayOperand
  cases t1 : k == 1 <;> cases t2 : decide (0 ≤ n) <;> cases t3 : decide (n ≤ mostI k) <;>
  (go_enter Tryz.func78, Tryz.ntmps78
   go_wp2_with fail
   first
   | (refine (operand_most k w).mono ?_
      rintro e w1 ⟨rfl, rfl⟩
      go_wp2_with fail
      go_ret
      exact ⟨rfl, rfl⟩)
   | (go_ret; exact ⟨rfl, rfl⟩))

set_option maxRecDepth 20000 in
theorem instr_Right (a b : Int) (w : World) : Calls Tryz.prog 51 #[.agg #[.int .i64 a, .int .i64 b]] w fun e w' => e = .returned (.bool (rightInstr (a, b))) ∧ Ext w w' := by
  unfold rightInstr isOp
  cases t1 : decide (0 ≤ a) <;> cases t2 : decide (a < 35) <;>
  (go_enter Tryz.func51, Tryz.ntmps51
   go_wp2
   go_quiet ((first | (go_at_call 77; exact quiet_same (ops_Operand _ _)) | (go_at_call 78; exact quiet_same (operand_may _ _ _))))
   go_wp2
   go_ret
   exact ⟨rfl, ((Ext.rf w).al _).drN _⟩)

theorem instr_has (op : Int) (w : World) : Calls Tryz.prog 50 #[.int .i64 op] w fun e w' => e = .returned (.bool (operandI op != 0)) ∧ w = w' := by
  go_enter Tryz.func50, Tryz.ntmps50
  go_wp2_with fail
  refine (ops_Operand op w).mono ?_
  rintro e w1 ⟨rfl, rfl⟩
  go_wp2_with fail
  go_ret
  exact ⟨rfl, rfl⟩

end Go.Proofs.YtkdnbnkbnegckaaGreatDoor
namespace Go.Proofs.YtkdnbnkbnegckaaGreatDoor
open Go.RowKit

/-- All names, one behind the other. -/
def wordsL : List UInt8 := [110, 111, 112, 32, 112, 117, 115, 104, 32, 108, 111, 97, 100, 32, 115, 116, 111, 114, 101, 32, 112, 111, 112, 32, 100, 117, 112, 32, 97, 100, 100, 32, 115, 117, 98, 32, 109, 117, 108, 32, 100, 105, 118, 32, 109, 111, 100, 32, 110, 101, 103, 32, 108, 101, 115, 115, 32, 115, 97, 109, 101, 32, 110, 111, 116, 32, 112, 97, 105, 114, 32, 112, 108, 117, 115, 32, 109, 105, 110, 117, 115, 32, 116, 105, 109, 101, 115, 32, 114, 101, 97, 108, 32, 105, 109, 97, 103, 32, 106, 117, 109, 112, 32, 105, 102, 32, 99, 97, 108, 108, 32, 100, 101, 102, 101, 114, 32, 114, 101, 116, 32, 112, 97, 110, 105, 99, 32, 114, 101, 99, 111, 118, 101, 114, 32, 103, 101, 116, 114, 101, 115, 32, 115, 101, 116, 114, 101, 115, 32, 101, 109, 105, 116, 32, 116, 114, 97, 99, 101, 32, 100, 114, 97, 119, 32, 111, 112, 101, 110, 32, 99, 108, 111, 115, 101]
def opNames : List (List UInt8) := [[110, 111, 112], [112, 117, 115, 104], [108, 111, 97, 100], [115, 116, 111, 114, 101], [112, 111, 112], [100, 117, 112], [97, 100, 100], [115, 117, 98], [109, 117, 108], [100, 105, 118], [109, 111, 100], [110, 101, 103], [108, 101, 115, 115], [115, 97, 109, 101], [110, 111, 116], [112, 97, 105, 114], [112, 108, 117, 115], [109, 105, 110, 117, 115], [116, 105, 109, 101, 115], [114, 101, 97, 108], [105, 109, 97, 103], [106, 117, 109, 112], [105, 102], [99, 97, 108, 108], [100, 101, 102, 101, 114], [114, 101, 116], [112, 97, 110, 105, 99], [114, 101, 99, 111, 118, 101, 114], [103, 101, 116, 114, 101, 115], [115, 101, 116, 114, 101, 115], [101, 109, 105, 116], [116, 114, 97, 99, 101], [100, 114, 97, 119], [111, 112, 101, 110], [99, 108, 111, 115, 101]]
def addW (acc : List (List UInt8)) (b : UInt8) : List (List UInt8) := if b = 32 then acc ++ [[]] else acc.dropLast ++ [acc.getLastD [] ++ [b]]
/-- The names in the first so many bytes. -/
def cutW (k : Nat) : List (List UInt8) := (wordsL.take k).foldl addW [[]]
theorem cutW_all : cutW 175 = opNames := by decide +kernel
theorem cutW_step (k : Nat) (b : UInt8) (h : wordsL[k]? = some b) : cutW (k + 1) = addW (cutW k) b := by
  unfold cutW
  obtain ⟨hk, rfl⟩ := List.getElem?_eq_some_iff.1 h
  rw [List.take_succ_eq_append_getElem hk, List.foldl_append]; rfl
theorem addW_ne (acc : List (List UInt8)) (b : UInt8) : addW acc b ≠ [] := by
  unfold addW; split <;> simp
theorem cutW_ne (k : Nat) : cutW k ≠ [] := by
  have h : ∀ (l : List UInt8) (acc : List (List UInt8)), acc ≠ [] → l.foldl addW acc ≠ [] := by
    intro l
    induction l with
    | nil => intro acc h; exact h
    | cons b l ih => intro acc _; exact ih _ (addW_ne _ _)
  exact h _ _ (by simp)
theorem cutW_len (k : Nat) : (cutW k).length ≤ 1 + k := by
  have h : ∀ (l : List UInt8) (acc : List (List UInt8)), acc ≠ [] → (l.foldl addW acc).length ≤ acc.length + l.length := by
    intro l
    induction l with
    | nil => intro acc _; exact Nat.le_refl _
    | cons b l ih =>
      intro acc hne
      have h1 := ih (addW acc b) (addW_ne _ _)
      have h2 : (addW acc b).length ≤ acc.length + 1 := by
        unfold addW; split
        · simp
        · have := List.length_pos_iff.2 hne
          simp
      simp only [List.foldl_cons, List.length_cons]; omega
  have := h (wordsL.take k) [[]] (by simp)
  simp only [List.length_singleton, List.length_take] at this
  unfold cutW; omega
theorem wordsL_low : ∀ b ∈ wordsL, b.toNat < 128 := by decide +kernel
theorem cutW_small : ∀ k < 176, ∀ x ∈ cutW k, x.length ≤ 10 := by decide +kernel

/-- The name of an instruction. -/
def nameAt (k : Nat) : List UInt8 := (opNames[k]?).getD []
def opNameL (op : Int) : List UInt8 := if isOp op then nameAt op.toNat else []
/-- Whose name it is. -/
def findL (s : List UInt8) : Option Nat := (List.range 35).find? fun k => decide (nameAt k = s)
def findI (s : List UInt8) : Int × Bool := match findL s with
  | some k => ((k : Int), true)
  | none => (0, false)
theorem nameAt_len : ∀ k < 35, (nameAt k).length ≤ 10 := by decide +kernel
theorem opNameL_len (op : Int) : (opNameL op).length ≤ 10 := by
  unfold opNameL; split
  · rename_i h
    simp only [isOp, Bool.and_eq_true, decide_eq_true_eq] at h
    exact nameAt_len _ (by omega)
  · exact Nat.zero_le _
theorem findL_some {s : List UInt8} {k : Nat} (hk : k < 35) (h : nameAt k = s) (h2 : ∀ j < k, nameAt j ≠ s) : findL s = some k := by
  unfold findL
  rw [List.find?_range_eq_some]
  refine ⟨by simp [h], by simpa using hk, fun j hj => by simpa using h2 j hj⟩
theorem findL_none {s : List UInt8} (h2 : ∀ j < 35, nameAt j ≠ s) : findL s = none := by
  unfold findL
  rw [List.find?_eq_none]
  intro k hk
  simpa using h2 k (by simpa using hk)
theorem findI_some {s : List UInt8} {k : Nat} (hk : k < 35) (h : nameAt k = s) (h2 : ∀ j < k, nameAt j ≠ s) : findI s = ((k : Int), true) := by
  unfold findI; rw [findL_some hk h h2]
theorem findI_none {s : List UInt8} (h2 : ∀ j < 35, nameAt j ≠ s) : findI s = (0, false) := by
  unfold findI; rw [findL_none h2]

end Go.Proofs.YtkdnbnkbnegckaaGreatDoor
namespace Go.Proofs.YtkdnbnkbnegckaaGreatDoor
open Go.RowKit

end Go.Proofs.YtkdnbnkbnegckaaGreatDoor
namespace Go.Proofs.YtkdnbnkbnegckaaGreatDoor
open Go.RowKit

theorem frozen_blk {W : World} {g : Nat} {cs : Array Value} {t : TypeId} (h : W.heap[g]? = some (.cells cs t (0, 0))) (j : Nat) : W.frozen? ⟨g, j, none⟩ = false := by simp [World.frozen?, h]
theorem set_blk {W : World} {g : Nat} {cs : Array Value} {t : TypeId} {fz : Nat × Nat} (h : W.heap[g]? = some (.cells cs t fz)) (j : Nat) (v : Value) : (W.setCell ⟨g, j, none⟩ v).heap[g]? = some (.cells (cs.setIfInBounds j v) t fz) := by
  obtain ⟨hlt, hk⟩ := Array.getElem?_eq_some_iff.1 h
  show (W.heap.modify g _)[g]? = _
  rw [Array.getElem?_eq_getElem (by rw [Array.size_modify]; exact hlt), Array.getElem_modify_self, hk]
  rfl
theorem Cells.grown {w w' : World} {ao : Option Addr} {cs : List Value} {g : Nat} (h : Cells w ao cs) (hg : w.grownBy w' (some g)) (hne : ∀ ad, ao = some ad → ad.block ≠ g) : Cells w' ao cs :=
  ⟨h.addr, fun b off e j u hu => hg.cell (h.cell b off e j u hu) (fun e2 => hne _ e (by cases e2; rfl))⟩

theorem Ext.grow {a b : World} (h : Ext a b) (g : Nat) : a.grownBy b (some g) := ⟨h.b.os, h.b.tape, h.b.output, h.size, fun k hk _ => h.block hk⟩
theorem addr_add (b off n : Nat) : (⟨b, off, none⟩ : Addr).add n = ⟨b, off + n, none⟩ := by
  unfold Addr.add; split <;> simp_all
theorem Cells.drop {w : World} {ao : Option Addr} {cs : List Value} (h : Cells w ao cs) (n : Nat) : Cells w (ao.map fun x => x.add n) (cs.drop n) := by
  refine ⟨fun hne => ?_, fun b off e j u hu => ?_⟩
  · obtain ⟨b, off, rfl⟩ := h.addr (by rintro rfl; simp at hne)
    exact ⟨b, off + n, by simp [addr_add]⟩
  · cases ao with
    | none => simp at e
    | some ad =>
      rw [List.getElem?_drop] at hu
      by_cases hne : cs = []
      · subst hne; simp at hu
      obtain ⟨b', off', e'⟩ := h.addr hne
      simp only [Option.some.injEq] at e'
      subst e'
      simp only [Option.map_some, Option.some.injEq, addr_add, Addr.mk.injEq] at e
      obtain ⟨rfl, rfl, -⟩ := e
      have := h.cell _ _ rfl (n + j) u hu
      rw [Nat.add_assoc]
      exact this

end Go.Proofs.YtkdnbnkbnegckaaGreatDoor
