/- A function's bytes: what they are, their flag, and what is small where a function can be laid. -/
import Derived.Test.YtofdkhilapmccaaFncV
import Derived.Test.YtofdkhilapmccaaInstrP
import Derived.Test.YtofdkhilapmccaaMapsC
import Derived.Test.YtofdkhilapmccaaTreeQ
import Derived.Test.YtofdkhilapmccaaRunsPut
namespace Go.Proofs.Ytofdkhilapmccaa
open Go.RowKit

def flagF (f : FuncT) : Nat := (if f.inner = true then 1 else 0) + (if bareF f = true then 0 else 2)
def headY (f : FuncT) : List UInt8 := putB f.name.size ++ f.name.data.toList ++ [UInt8.ofNat (flagF f)]
def sigsY (f : FuncT) : List UInt8 := (if f.inner = true then sigPut f.outer else []) ++ sigPut f.params ++ sigPut f.results ++ sigPut f.locs
def codeY (f : FuncT) : List UInt8 := putB f.code.length ++ f.code.flatMap putInstr
def tabsY (f : FuncT) : List UInt8 := if bareF f = true then [] else putTree f.nodes ++ putRuns (runsOf f.ats) ++ putMaps f.live
def bytesY (f : FuncT) : List UInt8 := headY f ++ sigsY f ++ codeY f ++ putRuns (runsOf f.lines) ++ tabsY f
def putF' (f : FuncT) : List UInt8 := if canF f = 0 then bytesY f else []

structure FuncS (f : FuncT) : Prop where
  s0 : f.name.size ≤ 12
  s1 : f.outer.length ≤ 4
  s2 : f.params.length ≤ 8
  s3 : f.results.length ≤ 4
  s4 : f.locs.length ≤ 256
  s5 : f.code.length ≤ 2000
  s6 : f.lines.length ≤ 2000
  s7 : f.nodes.length ≤ 120
  s8 : f.ats.length ≤ 2000
  s9 : f.live.length ≤ 2000

theorem canF_small {f : FuncT} (h : canF f = 0) : FuncS f := by
  rw [canF_ref] at h
  cases h1 : mayName f.name with
  | false => rw [h1, cond_false] at h; cases h
  | true =>
  rw [h1, cond_true] at h
  cases h2 : (rightSig f.outer 4 && (rightSig f.params 8 && (rightSig f.results 4 && (rightSig f.locs 256 && (f.inner || (f.outer.length : Int) == 0))))) with
  | false => rw [h2, cond_false] at h; cases h
  | true =>
  rw [h2, cond_true] at h
  cases h3 : (decide (256 < (f.params.length : Int) + f.results.length + f.locs.length) || (decide ((f.code.length : Int) < 1) || decide (2000 < (f.code.length : Int)))) with
  | true => rw [h3, cond_true] at h; cases h
  | false =>
  rw [h3, cond_false] at h
  cases h4 : f.code.any badInstr with
  | true => rw [h4, cond_true] at h; cases h
  | false =>
  rw [h4, cond_false] at h
  cases h5 : ((f.lines.length : Int) == f.code.length) && rightLines f.lines with
  | false => rw [h5, cond_false] at h; cases h
  | true =>
  rw [h5, cond_true] at h
  cases h6 : tablesF f with
  | false => rw [h6, cond_false] at h; cases h
  | true =>
  simp only [mayName, Bool.and_eq_true, decide_eq_true_eq] at h1
  simp only [rightSig, Bool.and_eq_true, decide_eq_true_eq] at h2
  simp only [Bool.or_eq_false_iff, decide_eq_false_iff_not] at h3
  simp only [Bool.and_eq_true, beq_iff_eq] at h5
  simp only [tablesF, bareF, rightTree, rightMaps, Bool.or_eq_true, Bool.and_eq_true, decide_eq_true_eq, beq_iff_eq] at h6
  obtain ⟨a1, a2, a3, a4, -⟩ := h2
  have b1 := a1.1; have b2 := a2.1; have b3 := a3.1; have b4 := a4.1
  rcases h6 with h6 | h6
  · exact ⟨by omega, by omega, by omega, by omega, by omega, by omega, by omega, by omega, by omega, by omega⟩
  · exact ⟨by omega, by omega, by omega, by omega, by omega, by omega, by omega, by omega, by omega, by omega⟩

theorem lines_PutG (base : Nat) (v : Value) (k0 : Nat) (xs : List Value) (ao : Option Addr) (cap : Nat) (l : List Int) (w : World) (hown : w.ownsRow base 5 1 v k0 xs) (hb : base ≤ w.heap.size) (hk0 : k0 ≤ 4398046511104)
    (hc : Cells w ao (l.map (.int .i64))) (hl : l.length ≤ 4398046511) (hv : ∀ n ∈ l, -9223372036854775808 ≤ n ∧ n ≤ 9223372036854775807) :
    Calls Try.prog 113 #[v, .slice ao l.length cap] w (PutRow base v k0 xs (putRuns (runsOf l)) w) := by
  have HP := Lib.hid (runs_Put base v k0 xs ao cap l w hown hb hk0 hc hl hv)
  clear hown hb hk0 hc hl hv
  go_enter Try.func113, Try.ntmps113
  go_wp2_with fail
  refine HP.out.mono ?_
  rintro e w1 ⟨v', rfl, hr, hg⟩
  have HG := Lib.hid hg
  clear hg
  obtain ⟨ro, rc, rfl⟩ := own_form hr
  go_wp2_with fail
  go_ret
  exact ⟨_, rfl, hr, HG.out⟩

theorem flagF_eq (f : FuncT) : ((flagF f : Nat) : Int) = (if f.inner = true then 1 else 0) + (if bareF f = true then 0 else 2) := by
  rw [flagF]; split <;> split <;> rfl

set_option maxRecDepth 20000 in
theorem fnc_flag (A : FuncA) (f : FuncT) (w : World) (bf : FuncB f) :
    Calls Try.prog 111 #[.agg #[.string f.name, .bool f.inner, .slice A.o1 f.outer.length A.c1, .slice A.o2 f.params.length A.c2, .slice A.o3 f.results.length A.c3, .slice A.o4 f.locs.length A.c4, .slice A.o5 f.code.length A.c5, .slice A.o6 f.lines.length A.c6, .slice A.o7 f.nodes.length A.c7, .slice A.o8 f.ats.length A.c8, .slice A.o9 f.live.length A.c9]] w fun e w' => e = .returned (.int .u8 (flagF f)) ∧ Ext w w' := by
  have HFB := Lib.hid bf
  have HF := Lib.hid (flagF_eq f)
  clear bf
  go_enter Try.func111, Try.ntmps111
  go_upto_region 1 with fail
  obtain ⟨hx0, hz0, hcA⟩ := one_box w [.string f.name, .bool f.inner, .slice A.o1 f.outer.length A.c1, .slice A.o2 f.params.length A.c2, .slice A.o3 f.results.length A.c3, .slice A.o4 f.locs.length A.c4, .slice A.o5 f.code.length A.c5, .slice A.o6 f.lines.length A.c6, .slice A.o7 f.nodes.length A.c7, .slice A.o8 f.ats.length A.c8, .slice A.o9 f.live.length A.c9] 28
  generalize hW1 : w.alloc (.cells ([.string f.name, .bool f.inner, .slice A.o1 f.outer.length A.c1, .slice A.o2 f.params.length A.c2, .slice A.o3 f.results.length A.c3, .slice A.o4 f.locs.length A.c4, .slice A.o5 f.code.length A.c5, .slice A.o6 f.lines.length A.c6, .slice A.o7 f.nodes.length A.c7, .slice A.o8 f.ats.length A.c8, .slice A.o9 f.live.length A.c9] : List Value).toArray 28) = W1 at *
  clear hW1
  have c0 : W1.cell? ⟨w.heap.size, 0, none⟩ = some (.string f.name) := by have := hcA.cell _ _ rfl 0 _ rfl; rwa [Nat.zero_add] at this
  have c1 : W1.cell? ⟨w.heap.size, 1, none⟩ = some (.bool f.inner) := by have := hcA.cell _ _ rfl 1 _ rfl; rwa [Nat.zero_add] at this
  have c2 : W1.cell? ⟨w.heap.size, 2, none⟩ = some (.slice A.o1 f.outer.length A.c1) := by have := hcA.cell _ _ rfl 2 _ rfl; rwa [Nat.zero_add] at this
  have c3 : W1.cell? ⟨w.heap.size, 3, none⟩ = some (.slice A.o2 f.params.length A.c2) := by have := hcA.cell _ _ rfl 3 _ rfl; rwa [Nat.zero_add] at this
  have c4 : W1.cell? ⟨w.heap.size, 4, none⟩ = some (.slice A.o3 f.results.length A.c3) := by have := hcA.cell _ _ rfl 4 _ rfl; rwa [Nat.zero_add] at this
  have c5 : W1.cell? ⟨w.heap.size, 5, none⟩ = some (.slice A.o4 f.locs.length A.c4) := by have := hcA.cell _ _ rfl 5 _ rfl; rwa [Nat.zero_add] at this
  have c6 : W1.cell? ⟨w.heap.size, 6, none⟩ = some (.slice A.o5 f.code.length A.c5) := by have := hcA.cell _ _ rfl 6 _ rfl; rwa [Nat.zero_add] at this
  have c7 : W1.cell? ⟨w.heap.size, 7, none⟩ = some (.slice A.o6 f.lines.length A.c6) := by have := hcA.cell _ _ rfl 7 _ rfl; rwa [Nat.zero_add] at this
  have c8 : W1.cell? ⟨w.heap.size, 8, none⟩ = some (.slice A.o7 f.nodes.length A.c7) := by have := hcA.cell _ _ rfl 8 _ rfl; rwa [Nat.zero_add] at this
  have c9 : W1.cell? ⟨w.heap.size, 9, none⟩ = some (.slice A.o8 f.ats.length A.c8) := by have := hcA.cell _ _ rfl 9 _ rfl; rwa [Nat.zero_add] at this
  have c10 : W1.cell? ⟨w.heap.size, 10, none⟩ = some (.slice A.o9 f.live.length A.c9) := by have := hcA.cell _ _ rfl 10 _ rfl; rwa [Nat.zero_add] at this
  clear hcA
  have HX0 := Lib.hid hx0
  have HBR : Hid (∀ W, Calls Try.prog 49 #[.agg #[.string f.name, .bool f.inner, .slice A.o1 f.outer.length A.c1, .slice A.o2 f.params.length A.c2, .slice A.o3 f.results.length A.c3, .slice A.o4 f.locs.length A.c4, .slice A.o5 f.code.length A.c5, .slice A.o6 f.lines.length A.c6, .slice A.o7 f.nodes.length A.c7, .slice A.o8 f.ats.length A.c8, .slice A.o9 f.live.length A.c9]] W fun e w' => e = .returned (.bool (bareF f)) ∧ Ext W w') := fun W => fnc_Bare A f W HFB.out
  clear hx0
  rcases Bool.eq_false_or_eq_true f.inner with hi | hi <;> rcases Bool.eq_false_or_eq_true (bareF f) with hq | hq <;>
  (rw [hi, hq] at HF
   rw [hi] at c1 HBR
   rw [hq] at HBR
   clear hi hq
   go_wp2_with fail
   refine (HBR.out _).mono ?_
   rintro e w2 ⟨rfl, hx2⟩
   have HX2 := Lib.hid (HX0.out.tr hx2)
   clear hx2
   go_wp2_with fail
   go_ret
   exact ⟨by rw [HF.out] <;> rfl, HX2.out⟩)
end Go.Proofs.Ytofdkhilapmccaa
