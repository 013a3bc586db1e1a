/- Whether a type may be. Tables of lines: the walks of lines.Right, lines.At, and of their references. The walks of package uvar's functions that put, and of its reference's. Lists of types: may they be; whether two are the same; their bytes. Decimal digits. Decimal digits: the reference's. The program's data as Lean's: instructions, nodes, sets, functions; their cells; where a function lies. -/
import Derived.Test.YtkdnbnkbnegckaaGreatDoorBase
import Derived.Test.YtkdnbnkbnegckaaGreatDoorStrA
import Derived.Test.YtkdnbnkbnegckaaGreatDoorSigW
import Derived.Outline
namespace Go.Proofs.YtkdnbnkbnegckaaGreatDoor
open Go.RowKit

end Go.Proofs.YtkdnbnkbnegckaaGreatDoor
namespace Go.Proofs.YtkdnbnkbnegckaaGreatDoor
open Go.RowKit

end Go.Proofs.YtkdnbnkbnegckaaGreatDoor
namespace Go.Proofs.YtkdnbnkbnegckaaGreatDoor
open Go.RowKit

/-- 'string(b)', b a slice of bytes. -/
theorem run_bytes_string {P : Program} {w : World} {src dst e : TypeId} {ao : Option Addr} {cap : Nat} {bs : List UInt8} (n : Nat) (hn : n = bs.length)
    (hs : P.underlying src = some (.slice e)) (he : P.underlying e = some (.int .u8)) (hd : P.underlying dst = some .string)
    (hc : Cells w ao (bs.map byteC)) : (convert src dst (.slice ao n cap)).run P w = .ok (.string ⟨bs.toArray⟩) w := by
  subst hn
  cases ao with
  | none =>
    have := hc.none_nil
    obtain rfl : bs = [] := by simpa using this
    rw [run_convert_bytes_string w src dst e none _ cap hs he hd]
    rfl
  | some ad =>
    refine run_convert_bytes_back w src dst e ad cap bs hs he hd (fun j hj => ?_)
    rw [hc.addAt (by simpa using hj)]
    simp [byteC]

end Go.Proofs.YtkdnbnkbnegckaaGreatDoor
namespace Go.Proofs.YtkdnbnkbnegckaaGreatDoor
open Go.RowKit

end Go.Proofs.YtkdnbnkbnegckaaGreatDoor
namespace Go.Proofs.YtkdnbnkbnegckaaGreatDoor
open Go.RowKit

def dig8 (m : Nat) : UInt8 := UInt8.ofNat (48 + m)
theorem dig8_nat {m : Nat} (h : m < 10) : (dig8 m).toNat = 48 + m := by
  simp only [dig8, UInt8.toNat_ofNat']; omega
/-- The digits of a number, the last one first. -/
def revDig (m : Nat) : List UInt8 := if m < 10 then [dig8 m] else dig8 (m % 10) :: revDig (m / 10)
termination_by m
decreasing_by omega
theorem revDig_lt {m : Nat} (h : m < 10) : revDig m = [dig8 m] := by rw [revDig, if_pos h]
theorem revDig_ge {m : Nat} (h : 10 ≤ m) : revDig m = dig8 (m % 10) :: revDig (m / 10) := by rw [revDig, if_neg (by omega)]
theorem revDig_len : ∀ (k m : Nat), 1 ≤ k → m < 10 ^ k → (revDig m).length ≤ k := by
  intro k
  induction k with
  | zero => intro m h; omega
  | succ k ih =>
    intro m _ h
    by_cases hm : m < 10
    · rw [revDig_lt hm]; simp
    · rw [revDig_ge (by omega), List.length_cons]
      have hk : 1 ≤ k := by
        rcases Nat.eq_zero_or_pos k with rfl | h2
        · simp at h; omega
        · exact h2
      have := ih (m / 10) hk (by rw [Nat.div_lt_iff_lt_mul (by decide)]; rw [Nat.pow_succ] at h; exact h)
      omega
/-- The digits of a number, with a sign. -/
def digN (m : Nat) : List UInt8 := (revDig m).reverse
def decB (n : Int) : List UInt8 := if n < 0 then 45 :: digN n.natAbs else digN n.natAbs
theorem digN_lt {m : Nat} (h : m < 10) : digN m = [dig8 m] := by rw [digN, revDig_lt h]; rfl
theorem digN_ge {m : Nat} (h : 10 ≤ m) : digN m = digN (m / 10) ++ digN (m % 10) := by
  rw [digN, revDig_ge h, List.reverse_cons, digN_lt (show m % 10 < 10 by omega)]; rfl
theorem decB_neg {n : Int} (h : n < 0) : decB n = 45 :: digN n.natAbs := by rw [decB, if_pos h]
theorem decB_nn {n : Int} (h : ¬ n < 0) : decB n = digN n.natAbs := by rw [decB, if_neg h]
theorem digN_len {m : Nat} (h : m ≤ 9223372036854775808) : (digN m).length ≤ 19 := by
  rw [digN, List.length_reverse]; exact revDig_len 19 m (by decide) (by omega)
theorem decB_len {n : Int} (h1 : -9223372036854775808 ≤ n) (h2 : n ≤ 9223372036854775807) : (decB n).length ≤ 20 := by
  have := digN_len (m := n.natAbs) (by omega)
  unfold decB; split <;> simp <;> omega
/-- What is left to lay. -/
def restD (m : Nat) (done : List UInt8) : List UInt8 := if m = 0 ∧ done ≠ [] then [] else revDig m
theorem restD_step {m : Nat} {done : List UInt8} (h : ¬ (m = 0 ∧ done ≠ [])) : restD m done = dig8 (m % 10) :: restD (m / 10) (done ++ [dig8 (m % 10)]) := by
  rw [restD, if_neg h]
  by_cases hm : m < 10
  · rw [revDig_lt hm, restD, if_pos ⟨by omega, by simp⟩, show m % 10 = m by omega]
  · rw [revDig_ge (by omega), restD, if_neg]
    rintro ⟨h1, -⟩; omega
theorem restD_end {m : Nat} {done : List UInt8} (h : m = 0 ∧ done ≠ []) : restD m done = [] := by rw [restD, if_pos h]
/-- A measure. -/
def measD (m : Nat) (done : List UInt8) : Nat := 2 * m + (if done = [] then 1 else 0)
theorem measD_step {m : Nat} {done : List UInt8} (h : ¬ (m = 0 ∧ done ≠ [])) (c : UInt8) : measD (m / 10) (done ++ [c]) < measD m done := by
  unfold measD
  rw [if_neg (by simp)]
  by_cases hd : done = []
  · rw [if_pos hd]; omega
  · rw [if_neg hd]
    have : m ≠ 0 := fun e => h ⟨e, hd⟩
    omega
end Go.Proofs.YtkdnbnkbnegckaaGreatDoor
namespace Go.Proofs.YtkdnbnkbnegckaaGreatDoor
open Go.RowKit

def strB (l : List UInt8) : ByteArray := ⟨l.toArray⟩
theorem strB_app (a b : List UInt8) : strB a ++ strB b = strB (a ++ b) := by
  apply ByteArray.ext; simp [strB, ByteArray.data_append]
theorem strB_size (a : List UInt8) : (strB a).size = a.length := by simp [strB, ByteArray.size]
theorem strB_lit1 (c : UInt8) (xs : List UInt8) : (⟨#[c]⟩ : ByteArray) ++ strB xs = strB (c :: xs) := by
  rw [show (⟨#[c]⟩ : ByteArray) = strB [c] from rfl, strB_app]; rfl

theorem conv_one (w : World) (m : Nat) (h : m < 10) : (convert 83 9 (.slice (some ⟨w.heap.size, 0, none⟩) 1 1)).run Tryz.prog (w.alloc (.cells #[.int .u8 (48 + (m : Int))] 5)) = .ok (.string (strB [dig8 m])) (w.alloc (.cells #[.int .u8 (48 + (m : Int))] 5)) := by
  have e : [Value.int .u8 (48 + (m : Int))] = [dig8 m].map byteC := by
    simp only [List.map_cons, List.map_nil, byteC, dig8_nat h]; rfl
  refine run_bytes_string (P := Tryz.prog) 1 rfl Tryz.underlying83 Tryz.underlying5 Tryz.underlying9 ?_
  rw [← e]
  exact cells_new w _ _ _ rfl

set_option maxHeartbeats 1000000 in
set_option maxRecDepth 20000 in
theorem refdigits : ∀ (f m : Nat) (w : World), m < 10 ^ (f + 1) → m ≤ 9223372036854775808 → Calls Tryz.prog 79 #[.int .i64 m] w fun e w' => e = .returned (.string (strB (digN m))) ∧ Ext w w' := by
  intro f
  induction f with
  | zero =>
    intro m w h _
    have hlt : m < 10 := by omega
    have HD := Lib.hid (digN_lt hlt)
    have hw8 : IntKind.u8.wrap ((48 : Int) + m) = 48 + m := by rw [IntKind.wrap_u8]; omega
    have hcv := conv_one w m hlt
    clear h
    go_enter Tryz.func79, Tryz.ntmps79
    go_wp2_with fail
    go_ret
    exact ⟨by rw [HD.out] <;> rfl, (Ext.rf w).al _⟩
  | succ f ih =>
    intro m w h h2
    by_cases hlt : m < 10
    · have HD := Lib.hid (digN_lt hlt)
      have hw8 : IntKind.u8.wrap ((48 : Int) + m) = 48 + m := by rw [IntKind.wrap_u8]; omega
      have hcv := conv_one w m hlt
      clear h ih
      go_enter Tryz.func79, Tryz.ntmps79
      go_wp2_with fail
      go_ret
      exact ⟨by rw [HD.out] <;> rfl, (Ext.rf w).al _⟩
    · have HD := Lib.hid (digN_ge (show 10 ≤ m by omega))
      have HI : Hid (∀ W, Calls Tryz.prog 79 #[.int .i64 ((m : Int) / 10)] W fun e w' => e = .returned (.string (strB (digN (m / 10)))) ∧ Ext W w') := fun W => by
        have := ih (m / 10) W (by rw [Nat.div_lt_iff_lt_mul (by decide)]; rw [Nat.pow_succ] at h; exact h) (by omega)
        rwa [show ((m / 10 : Nat) : Int) = (m : Int) / 10 from by omega] at this
      have HJ : Hid (∀ W, Calls Tryz.prog 79 #[.int .i64 ((m : Int) % 10)] W fun e w' => e = .returned (.string (strB (digN (m % 10)))) ∧ Ext W w') := fun W => by
        have := ih (m % 10) W (Nat.lt_of_lt_of_le (Nat.mod_lt _ (by decide)) (Nat.pow_le_pow_right (n := 10) (by decide) (show 1 ≤ f + 1 by omega))) (by omega)
        rwa [show ((m % 10 : Nat) : Int) = (m : Int) % 10 from by omega] at this
      clear h ih
      go_enter Tryz.func79, Tryz.ntmps79
      go_wp2_with fail
      refine (HI.out _).mono ?_
      rintro e w1 ⟨rfl, hx1⟩
      go_wp2_with fail
      refine (HJ.out _).mono ?_
      rintro e w2 ⟨rfl, hx2⟩
      have hsz : (strB (digN (m / 10))).size + (strB (digN (m % 10))).size ≤ 9223372036854775807 := by
        have h1 := digN_len (m := m / 10) (by omega)
        have h2 := digN_len (m := m % 10) (by omega)
        rw [strB_size, strB_size]; omega
      go_wp2_with fail
      go_ret
      exact ⟨by rw [HD.out, ← strB_app] <;> rfl, hx1.tr hx2⟩

theorem tdiv10 (m : Nat) : (-(m : Int)).tdiv 10 = -((m / 10 : Nat) : Int) := by rw [Int.neg_tdiv]; rfl
theorem tmod10 (m : Nat) : (-(m : Int)).tmod 10 = -((m % 10 : Nat) : Int) := by rw [Int.neg_tmod]; rfl
theorem refdig_any (m : Nat) (w : World) (h : m ≤ 9223372036854775808) : Calls Tryz.prog 79 #[.int .i64 m] w fun e w' => e = .returned (.string (strB (digN m))) ∧ Ext w w' :=
  refdigits 18 m w (by omega) h

set_option maxHeartbeats 1000000 in
set_option maxRecDepth 20000 in
theorem ref_Digits (n : Int) (w : World) (h1 : -9223372036854775808 ≤ n) (h2 : n ≤ 9223372036854775807) : Calls Tryz.prog 52 #[.int .i64 n] w fun e w' => e = .returned (.string (strB (decB n))) ∧ Ext w w' := by
  by_cases h : n < 0
  · obtain ⟨m, rfl⟩ : ∃ m : Nat, n = -(m : Int) := ⟨n.natAbs, by omega⟩
    have HD : Hid (decB (-(m : Int)) = 45 :: digN m) := by rw [Hid, decB_neg h]; congr 2; omega
    have hq := tdiv10 m
    have hr := tmod10 m
    have t1 : decide (0 ≤ -(m : Int)) = false := decide_eq_false (by omega)
    by_cases hm : m < 10
    · have hz : m / 10 = 0 := by omega
      rw [hz] at hq
      have HL := Lib.hid (digN_len (m := m) (by omega))
      have hsz : 1 + (strB (digN m)).size ≤ 9223372036854775807 := by have := HL.out; rw [strB_size]; omega
      have hm0 : decide (m = 0) = false := decide_eq_false (by omega)
      go_enter Tryz.func52, Tryz.ntmps52
      go_wp2_with fail
      refine (refdig_any m _ (by omega)).mono ?_
      rintro e w1 ⟨rfl, hx1⟩
      go_wp2_with fail
      go_ret
      exact ⟨by rw [HD.out, ← strB_lit1] <;> rfl, hx1⟩
    · have HG := Lib.hid (digN_ge (show 10 ≤ m by omega))
      have HL := Lib.hid (digN_len (m := m / 10) (by omega))
      have HM := Lib.hid (digN_len (m := m % 10) (by omega))
      have hsz : 1 + (strB (digN (m / 10))).size ≤ 9223372036854775807 := by have := HL.out; rw [strB_size]; omega
      have hsz2 : 1 + (strB (digN (m / 10))).size + (strB (digN (m % 10))).size ≤ 9223372036854775807 := by have := HL.out; have := HM.out; rw [strB_size, strB_size]; omega
      have hm0 : decide (m = 0) = false := decide_eq_false (by omega)
      have HA := Lib.hid (fun W => refdig_any (m / 10) W (by omega))
      have HB := Lib.hid (fun W => refdig_any (m % 10) W (by omega))
      have hz : 1 ≤ m / 10 := by omega
      have hz3 : m / 10 ≤ 922337203685477580 := by omega
      have hz2 : m % 10 < 10 := Nat.mod_lt _ (by decide)
      have hz0 : ((-((m / 10 : Nat) : Int)) == 0) = false := beq_eq_false_iff_ne.2 (by omega)
      generalize m / 10 = q at *
      generalize m % 10 = r at *
      have hq0 : decide (q = 0) = false := decide_eq_false (by omega)
      go_enter Tryz.func52, Tryz.ntmps52
      go_wp2_with fail
      refine (HA.out _).mono ?_
      rintro e w1 ⟨rfl, hx1⟩
      go_wp2_with fail
      refine (HB.out _).mono ?_
      rintro e w2 ⟨rfl, hx2⟩
      go_wp2_with fail
      go_ret
      exact ⟨by rw [HD.out, HG.out, ← List.cons_append, ← strB_app, ← strB_lit1] <;> rfl, hx1.tr hx2⟩
  · obtain ⟨m, rfl⟩ := Int.eq_ofNat_of_zero_le (show 0 ≤ n by omega)
    have HD : Hid (decB (m : Int) = digN m) := by rw [Hid, decB_nn h]; congr 1
    have t1 : decide (0 ≤ (m : Int)) = true := decide_eq_true (by omega)
    go_enter Tryz.func52, Tryz.ntmps52
    go_wp2_with fail
    refine (refdig_any m _ (by omega)).mono ?_
    rintro e w1 ⟨rfl, hx1⟩
    go_wp2_with fail
    go_ret
    exact ⟨by rw [HD.out] <;> rfl, hx1⟩
end Go.Proofs.YtkdnbnkbnegckaaGreatDoor
namespace Go.Proofs.YtkdnbnkbnegckaaGreatDoor
open Go.RowKit

abbrev InstrT := Int × Int
structure NodeT where
  par : Int
  fn : Int
  line : Int
  frm : Int
  args : Int
  upto : Int
  res : Int
  deriving DecidableEq
structure SetT where
  a : Nat
  b : Nat
  c : Nat
  d : Nat
  deriving DecidableEq
structure FuncT where
  name : ByteArray
  inner : Bool
  outer : List Int
  params : List Int
  results : List Int
  locs : List Int
  code : List InstrT
  lines : List Int
  nodes : List NodeT
  ats : List Int
  live : List SetT
  deriving DecidableEq

def nodeC (n : NodeT) : List Value := [.int .i64 n.par, .int .i64 n.fn, .int .i64 n.line, .int .i64 n.frm, .int .i64 n.args, .int .i64 n.upto, .int .i64 n.res]
def setC (s : SetT) : List Value := [.int .u64 s.a, .int .u64 s.b, .int .u64 s.c, .int .u64 s.d]
def I64 (n : Int) : Prop := -9223372036854775808 ≤ n ∧ n ≤ 9223372036854775807
def Node64 (n : NodeT) : Prop := I64 n.par ∧ I64 n.fn ∧ I64 n.line ∧ I64 n.frm ∧ I64 n.args ∧ I64 n.upto ∧ I64 n.res
def Set64 (s : SetT) : Prop := s.a < 18446744073709551616 ∧ s.b < 18446744073709551616 ∧ s.c < 18446744073709551616 ∧ s.d < 18446744073709551616

/-- Where the parts of a function lie. -/
structure FuncA where
  o1 : Option Addr
  c1 : Nat
  o2 : Option Addr
  c2 : Nat
  o3 : Option Addr
  c3 : Nat
  o4 : Option Addr
  c4 : Nat
  o5 : Option Addr
  c5 : Nat
  o6 : Option Addr
  c6 : Nat
  o7 : Option Addr
  c7 : Nat
  o8 : Option Addr
  c8 : Nat
  o9 : Option Addr
  c9 : Nat

/-- A function lies there. -/
structure FuncIn (w : World) (A : FuncA) (f : FuncT) : Prop where
  h1 : Cells w A.o1 (f.outer.map (.int .i64))
  h2 : Cells w A.o2 (f.params.map (.int .i64))
  h3 : Cells w A.o3 (f.results.map (.int .i64))
  h4 : Cells w A.o4 (f.locs.map (.int .i64))
  h5 : Cells w A.o5 (f.code.flatMap pairC)
  h6 : Cells w A.o6 (f.lines.map (.int .i64))
  h7 : Cells w A.o7 (f.nodes.flatMap nodeC)
  h8 : Cells w A.o8 (f.ats.map (.int .i64))
  h9 : Cells w A.o9 (f.live.flatMap setC)

theorem FuncIn.ext {w w' : World} {A : FuncA} {f : FuncT} (h : FuncIn w A f) (hb : Ext w w') : FuncIn w' A f :=
  ⟨h.h1.ext hb, h.h2.ext hb, h.h3.ext hb, h.h4.ext hb, h.h5.ext hb, h.h6.ext hb, h.h7.ext hb, h.h8.ext hb, h.h9.ext hb⟩

/-- What a machine's function is: numbers of 64 bits, lengths that may be. -/
structure FuncB (f : FuncT) : Prop where
  n0 : f.name.size ≤ 9223372036854775807
  n1 : f.outer.length ≤ 17592186044416
  n2 : f.params.length ≤ 17592186044416
  n3 : f.results.length ≤ 17592186044416
  n4 : f.locs.length ≤ 17592186044416
  n5 : f.code.length ≤ 17592186044416
  n6 : f.lines.length ≤ 17592186044416
  n7 : f.nodes.length ≤ 17592186044416
  n8 : f.ats.length ≤ 17592186044416
  n9 : f.live.length ≤ 17592186044416
  v1 : ∀ n ∈ f.outer, I64 n
  v2 : ∀ n ∈ f.params, I64 n
  v3 : ∀ n ∈ f.results, I64 n
  v4 : ∀ n ∈ f.locs, I64 n
  v5 : ∀ i ∈ f.code, I64 i.1 ∧ I64 i.2
  v6 : ∀ n ∈ f.lines, I64 n
  v7 : ∀ n ∈ f.nodes, Node64 n
  v8 : ∀ n ∈ f.ats, I64 n
  v9 : ∀ s ∈ f.live, Set64 s
end Go.Proofs.YtkdnbnkbnegckaaGreatDoor
