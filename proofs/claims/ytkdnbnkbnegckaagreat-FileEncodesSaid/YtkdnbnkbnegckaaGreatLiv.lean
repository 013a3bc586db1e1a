/- file.Decode: what it answers. Law 16: what lives. -/
import Derived.Test.YtkdnbnkbnegckaaGreatDew
import Derived.Defers
import Derived.Recover
import Derived.Test.YtkdnbnkbnegckaaGreatEnd
namespace Go.Proofs.YtkdnbnkbnegckaaGreat
open Go.RowKit
set_option maxRecDepth 20000

def decodeR (b : List UInt8) : List Fn × Int :=
  match decodeP b with
  | .ok fs => (fs, 0)
  | .error x => ([], x)
def DecQ (F : Nat → Bool) (w : World) (b : List UInt8) (e : Ending) (w' : World) : Prop := Ext w w' ∧ ∃ v, e = .returned (.tuple #[.agg #[v], .int .i64 (decodeR b).2]) ∧ ∃ who, (∀ k, F k = false → k < w.heap.size → who k = .other) ∧ RepC w' who (.fz 11 (encL tF (decodeR b).1)) v
theorem as_errno (v : Value) (w : World) : (Instr.typeAssert (.iface 32 v) 20 32 true).run Tryz.prog w = .ok (.tuple #[v, .bool true]) w := by kernel_rfl
theorem catchD_bad (p q : Nat) (x y : Int) (v : Value) (w : World) (hp : w.heap[p]? = some (.cells #[v] 51 (0, 0))) (hq : w.heap[q]? = some (.cells #[.int .i64 y] 32 (0, 0))) (hne : p ≠ q) :
    CallsD Tryz.prog 78 #[.pointer (some ⟨p, 0, none⟩), .pointer (some ⟨q, 0, none⟩)] (.panicking [errP x]) w fun e u' w' =>
      e = .returned (.tuple #[]) ∧ u' = .panicking [{ v := .iface 32 (.int .i64 x), recovered := true }] ∧ w' = (w.setCell ⟨p, 0, none⟩ (.slice none 0 0)).setCell ⟨q, 0, none⟩ (.int .i64 x) := by
  have pc : w.cell? ⟨p, 0, none⟩ = some v := blk hp 0 rfl
  have pf : ∀ j, w.frozen? ⟨p, j, none⟩ = false := fun j => by simp [World.frozen?, hp]
  have qc : w.cell? ⟨q, 0, none⟩ = some (.int .i64 y) := blk hq 0 rfl
  have qf : ∀ j, w.frozen? ⟨q, j, none⟩ = false := fun j => by simp [World.frozen?, hq]
  have hne2 := hne.symm
  refine callsD_of_wpS Tryz.func78 rfl fun c₀ cs hu => ?_
  apply wpS_seq
  apply wpS_region
  simp [wpOpsS, go_sem, recoverD, hu, errP, Tryz.ntmps78, Exit.thenS]
  refine wpS_of_wp ?_
  simp only [List.size_toArray, List.length_cons, List.length_nil, Nat.reduceAdd, Nat.reduceSub, Array.replicate_succ, Array.replicate_zero, List.push_toArray, List.append_toArray, List.nil_append, List.cons_append, List.setIfInBounds_toArray, List.set_cons_zero, List.set_cons_succ]
  have ha := as_errno
  go_wp2_with fail
  refine ⟨rfl, _, rfl, _, (results_none rfl _ _ _), rfl, rfl, rfl⟩
theorem catchD_idle (p q : Nat) (w : World) :
    CallsD Tryz.prog 78 #[.pointer (some ⟨p, 0, none⟩), .pointer (some ⟨q, 0, none⟩)] .returning w fun e u' w' => e = .returned (.tuple #[]) ∧ u' = .returning ∧ w' = w := by
  refine callsD_of_wpS Tryz.func78 rfl fun c₀ cs hu => ?_
  apply wpS_seq
  apply wpS_region
  simp [wpOpsS, go_sem, recoverD, hu, Tryz.ntmps78, Exit.thenS]
  refine wpS_of_wp ?_
  simp only [List.size_toArray, List.length_cons, List.length_nil, Nat.reduceAdd, Nat.reduceSub, Array.replicate_succ, Array.replicate_zero, List.push_toArray, List.append_toArray, List.nil_append, List.cons_append, List.setIfInBounds_toArray, List.set_cons_zero, List.set_cons_succ]
  go_wp2_with fail
  cases c₀
  simp_all [bodyPostS, results]
theorem Ext.setD {w0 w : World} (h : Ext w0 w) {g : Nat} (hg : w0.heap.size ≤ g) (k : Nat) (v : Value) : Ext w0 (w.setCell ⟨g, k, none⟩ v) := Below.setCell h.b (p := ⟨g, k, none⟩) hg v
theorem res_decode (tmps : Array Value) (p q : Nat) (x : Int) (v : Value) (W : World) (h2 : tmps.getD 2 undef = .pointer (some ⟨p, 0, none⟩)) (h3 : tmps.getD 3 undef = .pointer (some ⟨q, 0, none⟩))
    (hp : W.heap[p]? = some (.cells #[v] 51 (0, 0))) (hq : W.heap[q]? = some (.cells #[.int .i64 x] 32 (0, 0))) :
    (results Tryz.f27 tmps).run Tryz.prog W = .ok (.tuple #[.agg #[v], .int .i64 x]) W := by
  have l1 : (loadVar 51 ⟨p, 0, none⟩).run Tryz.prog W = .ok (.agg #[v]) W := run_loadVar_row W p _ _ #[v] (0, 0) _ hp Tryz.underlying51 rfl (by kernel_rfl)
  have qc : W.cell? ⟨q, 0, none⟩ = some (.int .i64 x) := blk hq 0 rfl
  have l2 : (loadVar 32 ⟨q, 0, none⟩).run Tryz.prog W = .ok (.int .i64 x) W := by
    simp [go_sem, qc]
  have h2' : tmps[2]?.getD undef = .pointer (some ⟨p, 0, none⟩) := by simpa using h2
  have h3' : tmps[3]?.getD undef = .pointer (some ⟨q, 0, none⟩) := by simpa using h3
  simp [results, show (Tryz.f27).results = #[.cell 2 51, .cell 3 32] from rfl, h2', h3', asAddr, l1, l2]
theorem decode_walk (F : Nat → Bool) (ao : Option Addr) (cap : Nat) (b : List UInt8) (w : World) (hc : Cells w ao (b.map byteC)) (hcap : b.length ≤ cap) (hl : b.length ≤ 140737488351232) (hF : b ≠ [] → ∀ k off, ao = some ⟨k, off, none⟩ → F k = true) :
    Calls Tryz.prog 27 #[.slice ao b.length cap] w (DecQ F w b) := by
  have hmf : ∀ (fn : _root_.Go.Fn) (first cap : Array Value) (w : World), (Instr.makeFunc fn first cap).run Tryz.prog w = .ok (.func fn first cap) w := fun _ _ _ _ => rfl
  have HC := Lib.hid hc
  clear hc
  go_enter_defers Tryz.func27, Tryz.ntmps27
  go_wp2_with fail
  have hw2 := Lib.hid (((Ext.rf w).al (.cells #[.slice none 0 0] 51)).al (.cells #[.int .i64 0] 32))
  have hP : ((w.alloc (.cells #[.slice none 0 0] 51)).alloc (.cells #[.int .i64 0] 32)).heap[w.heap.size]? = some (.cells #[.slice none 0 0] 51 (0, 0)) := by simp [World.alloc, -World.alloc_eq, Array.getElem?_push]
  have hQ : ((w.alloc (.cells #[.slice none 0 0] 51)).alloc (.cells #[.int .i64 0] 32)).heap[w.heap.size + 1]? = some (.cells #[.int .i64 0] 32 (0, 0)) := (congrArg (fun n => ((w.alloc (.cells #[.slice none 0 0] 51)).alloc (.cells #[.int .i64 0] 32)).heap[n]?) (by simp : w.heap.size + 1 = (w.alloc (.cells #[.slice none 0 0] 51)).heap.size)).trans (alloc_new _ _)
  have hS : ((w.alloc (.cells #[.slice none 0 0] 51)).alloc (.cells #[.int .i64 0] 32)).heap.size = w.heap.size + 2 := by simp
  have hR := Lib.hid (read_walk (fun k => F k && decide (k < w.heap.size)) ao cap b _ (HC.out.ext hw2.out) hcap hl fun hb k off e => by
    rw [Bool.and_eq_true]
    exact ⟨hF hb k off e, decide_eq_true (by subst e; exact Cells.lt HC.out (by simpa using hb))⟩)
  generalize (w.alloc (.cells #[.slice none 0 0] 51)).alloc (.cells #[.int .i64 0] 32) = w2 at *
  refine hR.out.mono ?_
  rintro e w3 ⟨hx, hq⟩
  have hP3 := (hx.block (by omega)).trans hP
  have hQ3 := (hx.block (by omega)).trans hQ
  have hX := Lib.hid (hw2.out.tr hx)
  cases hd : decodeP b with
  | error x =>
    rw [hd] at hq
    subst hq
    dsimp only
    refine leaves_cons (f := 78) (args := #[.pointer (some ⟨w.heap.size, 0, none⟩), .pointer (some ⟨w.heap.size + 1, 0, none⟩)]) (by simp) (by simp [go_sem]) ?_
    refine (catchD_bad w.heap.size (w.heap.size + 1) x 0 _ _ hP3 hQ3 (by omega)).mono ?_
    rintro e u' w4 ⟨rfl, rfl, rfl⟩
    simp only [Leaves, settle]
    have hp4 := set_blkD hP3 0 (.slice none 0 0)
    have hgA := grown_setD w3 w.heap.size 0 (.slice none 0 0)
    have hqA : (w3.setCell ⟨w.heap.size, 0, none⟩ (.slice none 0 0)).heap[w.heap.size + 1]? = some (.cells #[.int .i64 0] 32 (0, 0)) := (hgA.block _ (Array.getElem?_eq_some_iff.1 hQ3).1 (fun e => by have := Option.some.inj e; omega)).trans hQ3
    have hq4 := set_blkD hqA 0 (.int .i64 x)
    have hgB := grown_setD (w3.setCell ⟨w.heap.size, 0, none⟩ (.slice none 0 0)) (w.heap.size + 1) 0 (.int .i64 x)
    have hp5 := (hgB.block w.heap.size (Array.getElem?_eq_some_iff.1 hp4).1 (fun e => by have := Option.some.inj e; omega)).trans hp4
    refine ⟨_, res_decode _ w.heap.size (w.heap.size + 1) x (.slice none 0 0) _ rfl rfl hp5 hq4, (hX.out.setD (Nat.le_refl _) 0 _).setD (Nat.le_succ _) 0 _, .slice none 0 0, ?_, ?_⟩
    · simp [decodeR, hd]
    · simp only [decodeR, hd]
      exact ⟨fun _ => .other, fun _ _ _ => rfl, .fz 11 0 [] none [] (by simp) (by simp) (by simp) (by simp) (by simp) rfl (by simp)⟩
  | ok fs =>
    rw [hd] at hq
    obtain ⟨v, rfl, who, hwho, hrep⟩ := hq
    dsimp only
    have hsh : ∃ ao' n' cap', v = .slice ao' n' cap' := by cases hrep; exact ⟨_, _, _, rfl⟩
    obtain ⟨ao', n', cap', rfl⟩ := hsh
    have HRep := Lib.hid hrep
    have pc : w3.cell? ⟨w.heap.size, 0, none⟩ = some (.slice none 0 0) := blk hP3 0 rfl
    have pf : ∀ j, w3.frozen? ⟨w.heap.size, j, none⟩ = false := fun j => by simp [World.frozen?, hP3]
    have qc : w3.cell? ⟨w.heap.size + 1, 0, none⟩ = some (.int .i64 0) := blk hQ3 0 rfl
    have qf : ∀ j, w3.frozen? ⟨w.heap.size + 1, j, none⟩ = false := fun j => by simp [World.frozen?, hQ3]
    have hHP := Lib.hid hP3
    have hHQ := Lib.hid hQ3
    clear hP3 hQ3 hrep hP hQ hR hw2 hx
    go_wp2_with fail
    refine leaves_cons (f := 78) (args := #[.pointer (some ⟨w.heap.size, 0, none⟩), .pointer (some ⟨w.heap.size + 1, 0, none⟩)]) (by simp) (by simp [go_sem]) ?_
    refine (catchD_idle w.heap.size (w.heap.size + 1) _).mono ?_
    rintro e u' w4 ⟨rfl, rfl, rfl⟩
    simp only [Leaves, settle]
    have hp4 := set_blkD hHP.out 0 (.slice ao' n' cap')
    have hgA := grown_setD w3 w.heap.size 0 (.slice ao' n' cap')
    have hqA : (w3.setCell ⟨w.heap.size, 0, none⟩ (.slice ao' n' cap')).heap[w.heap.size + 1]? = some (.cells #[.int .i64 0] 32 (0, 0)) := (hgA.block _ (Array.getElem?_eq_some_iff.1 hHQ.out).1 (fun e => by have := Option.some.inj e; omega)).trans hHQ.out
    have hq4 := set_blkD hqA 0 (.int .i64 0)
    have hgB := grown_setD (w3.setCell ⟨w.heap.size, 0, none⟩ (.slice ao' n' cap')) (w.heap.size + 1) 0 (.int .i64 0)
    have hp5 := (hgB.block w.heap.size (Array.getElem?_eq_some_iff.1 hp4).1 (fun e => by have := Option.some.inj e; omega)).trans hp4
    refine ⟨_, res_decode _ w.heap.size (w.heap.size + 1) 0 (.slice ao' n' cap') _ rfl rfl hp5 hq4, (hX.out.setD (Nat.le_refl _) 0 _).setD (Nat.le_succ _) 0 _, .slice ao' n' cap', ?_, ?_⟩
    · simp [decodeR, hd]
    · simp only [decodeR, hd]
      refine ⟨whoO w3 who, fun k h1 h2 => (if_pos (by have := hX.out.size; omega)).trans (hwho k (by rw [h1]; rfl) (by omega)), hand_rep (who := who) (Nat.le_trans hgA.size hgB.size) (fun k h1 h2 => ?_) HRep.out⟩
      have n1 : k ≠ w.heap.size := fun e => by have := hwho k (by subst e; simp) (by omega); rw [h2] at this; cases this
      have n2 : k ≠ w.heap.size + 1 := fun e => by have := hwho k (by subst e; simp) (by omega); rw [h2] at this; cases this
      exact (hgB.block k (Nat.lt_of_lt_of_le h1 hgA.size) (fun e => n2 (Option.some.inj e))).trans (hgA.block k h1 (fun e => n1 (Option.some.inj e)))
end Go.Proofs.YtkdnbnkbnegckaaGreat
namespace Go.Proofs.YtkdnbnkbnegckaaGreat
open Go.RowKit
set_option maxRecDepth 20000
theorem fncsP_put : ∀ {fs : List Fn} {r : List UInt8}, (∀ f ∈ fs, CanV f) → (∀ f ∈ fs, DatV f) → fncsP fs.length ((fs.map fncV).flatten ++ r) = .ok (fs, r)
  | [], r, _, _ => rfl
  | f :: l, r, h, hd => by
    rw [List.map_cons, List.flatten_cons, List.append_assoc, List.length_cons, fncsP]
    have h1 : fncP (fncV f ++ ((l.map fncV).flatten ++ r)) = .ok (f, (l.map fncV).flatten ++ r) := fncP_put (hd f (by simp)) (h f (by simp)) _
    rw [h1]
    dsimp only
    rw [fncsP_put (fun g hg => h g (List.mem_cons_of_mem _ hg)) fun g hg => hd g (List.mem_cons_of_mem _ hg)]
theorem canP_zero {fs : List Fn} (h : canP fs = 0) : 1 ≤ fs.length ∧ fs.length ≤ 40 ∧ (∀ f ∈ fs, CanV f) ∧ (fs.map (·.1)).Nodup := by
  have hcond : ¬(fs.length < 1 ∨ 40 < fs.length) := fun h2 => by rw [canP, if_pos h2] at h; exact absurd h (by decide)
  rw [canP, if_neg hcond] at h
  by_cases h0 : firstE fs = 0
  · rw [if_pos h0] at h
    by_cases hn : (fs.map (·.1)).Nodup
    · exact ⟨by omega, by omega, firstE_zero.1 h0, hn⟩
    · rw [if_neg hn] at h; exact absurd h (by decide)
  · rw [if_neg h0] at h; exact absurd h h0
theorem decode_encode {fs : List Fn} (h : canP fs = 0) (hd : ∀ f ∈ fs, DatV f) : decodeP (encodeR fs).1 = .ok fs := by
  obtain ⟨h1, h2, h3, h4⟩ := canP_zero h
  rw [encodeR, if_pos h]
  show decodeP ([73, 78, 76, 49] ++ putB fs.length ++ (fs.map fncV).flatten) = _
  rw [List.append_assoc]
  have hd4 : ([73, 78, 76, 49] ++ (putB fs.length ++ (fs.map fncV).flatten) : List UInt8).drop 4 = putB fs.length ++ ((fs.map fncV).flatten ++ []) := by rw [List.append_nil]; rfl
  rw [decodeP, if_pos ⟨by simp, rfl⟩, hd4, numP_put (by omega) (by omega)]
  dsimp only
  rw [if_neg (by omega), Int.toNat_natCast, fncsP_put h3 hd]
  dsimp only
  rw [if_pos h4, if_pos rfl]
def plainF : Fn := ([102], (false, ([], ([], ([], ([], ([(25, 0)], ([1], ([], ([], []))))))))))
theorem plain_can : canP [plainF] = 0 := by decide
theorem alloc_newE {W : World} {o : Obj} {n : Nat} (h : n = W.heap.size) : (W.alloc o).heap[n]? = some o := h ▸ alloc_new _ _
theorem cells_blk {W : World} {g : Nat} {cs : Array Value} {t : TypeId} {f : Nat × Nat} (h : W.heap[g]? = some (.cells cs t f)) : Cells W (some ⟨g, 0, none⟩) cs.toList := by
  refine ⟨fun _ => ⟨_, _, rfl⟩, fun b off e j u hu => ?_⟩
  simp only [Option.some.injEq, Addr.mk.injEq, and_true] at e
  obtain ⟨rfl, rfl⟩ := e
  rw [Nat.zero_add]
  exact blk h j (by simpa using hu)
theorem repCs_cons {W : World} {who : Nat → Who} {c : C} {u : Value} {cs : List C} {us : List Value} (h : RepC W who c u) (hs : RepCs W who cs us) : RepCs W who (c :: cs) (u :: us) := by
  refine ⟨by simp [hs.1], fun i x v h1 h2 => ?_⟩
  cases i with
  | zero => cases h1; cases h2; exact h
  | succ i => exact hs.2 i x v h1 h2
theorem repC_nilS {W : World} {sz : Nat} : RepC W W0 (.fz sz []) (.slice none 0 0) := .fz sz 0 [] none [] (by simp) (by simp) (by simp) (by simp) (by simp) rfl (by simp)
theorem plain_walk (w : World) : Calls Tryz.prog 73 #[] w fun e w' => Ext w w' ∧ ∃ v, e = .returned (.agg #[v]) ∧ RepC w' W0 (.fz 11 (encL tF [plainF])) v := by
  go_enter Tryz.func73, Tryz.ntmps73
  go_wp2_with fail
  have h3 := alloc_newE (W := (((w.alloc (.cells #[.slice (some ⟨w.heap.size + 1 + 1 + 1, 0, none⟩) 1 1] 51)).alloc (.cells #[.int .i64 25, .int .i64 0] 78)).alloc (.cells #[.int .i64 1] 3))) (o := .cells #[.string ⟨#[102]⟩, .bool false, .slice none 0 0, .slice none 0 0, .slice none 0 0, .slice none 0 0, .slice (some ⟨w.heap.size + 1, 0, none⟩) 1 1, .slice (some ⟨w.heap.size + 1 + 1, 0, none⟩) 1 1, .slice none 0 0, .slice none 0 0, .slice none 0 0] 31) (n := w.heap.size + 1 + 1 + 1) (by simp)
  have h2 := (alloc_oldD (W := (((w.alloc (.cells #[.slice (some ⟨w.heap.size + 1 + 1 + 1, 0, none⟩) 1 1] 51)).alloc (.cells #[.int .i64 25, .int .i64 0] 78)).alloc (.cells #[.int .i64 1] 3))) (o := .cells #[.string ⟨#[102]⟩, .bool false, .slice none 0 0, .slice none 0 0, .slice none 0 0, .slice none 0 0, .slice (some ⟨w.heap.size + 1, 0, none⟩) 1 1, .slice (some ⟨w.heap.size + 1 + 1, 0, none⟩) 1 1, .slice none 0 0, .slice none 0 0, .slice none 0 0] 31) (b := w.heap.size + 1 + 1) (by simp)).trans (alloc_newE (by simp))
  have h1 := (alloc_oldD (W := (((w.alloc (.cells #[.slice (some ⟨w.heap.size + 1 + 1 + 1, 0, none⟩) 1 1] 51)).alloc (.cells #[.int .i64 25, .int .i64 0] 78)).alloc (.cells #[.int .i64 1] 3))) (o := .cells #[.string ⟨#[102]⟩, .bool false, .slice none 0 0, .slice none 0 0, .slice none 0 0, .slice none 0 0, .slice (some ⟨w.heap.size + 1, 0, none⟩) 1 1, .slice (some ⟨w.heap.size + 1 + 1, 0, none⟩) 1 1, .slice none 0 0, .slice none 0 0, .slice none 0 0] 31) (b := w.heap.size + 1) (by simp)).trans ((alloc_oldD (by simp)).trans (alloc_newE (by simp)))
  have h0 := (alloc_oldD (W := (((w.alloc (.cells #[.slice (some ⟨w.heap.size + 1 + 1 + 1, 0, none⟩) 1 1] 51)).alloc (.cells #[.int .i64 25, .int .i64 0] 78)).alloc (.cells #[.int .i64 1] 3))) (o := .cells #[.string ⟨#[102]⟩, .bool false, .slice none 0 0, .slice none 0 0, .slice none 0 0, .slice none 0 0, .slice (some ⟨w.heap.size + 1, 0, none⟩) 1 1, .slice (some ⟨w.heap.size + 1 + 1, 0, none⟩) 1 1, .slice none 0 0, .slice none 0 0, .slice none 0 0] 31) (b := w.heap.size) (by simp; omega)).trans ((alloc_oldD (by simp; omega)).trans ((alloc_oldD (by simp)).trans (alloc_newE rfl)))
  have hx := ((((Ext.rf w).al (.cells #[.slice (some ⟨w.heap.size + 1 + 1 + 1, 0, none⟩) 1 1] 51)).al (.cells #[.int .i64 25, .int .i64 0] 78)).al (.cells #[.int .i64 1] 3)).al (.cells #[.string ⟨#[102]⟩, .bool false, .slice none 0 0, .slice none 0 0, .slice none 0 0, .slice none 0 0, .slice (some ⟨w.heap.size + 1, 0, none⟩) 1 1, .slice (some ⟨w.heap.size + 1 + 1, 0, none⟩) 1 1, .slice none 0 0, .slice none 0 0, .slice none 0 0] 31)
  generalize (((w.alloc (.cells #[.slice (some ⟨w.heap.size + 1 + 1 + 1, 0, none⟩) 1 1] 51)).alloc (.cells #[.int .i64 25, .int .i64 0] 78)).alloc (.cells #[.int .i64 1] 3)).alloc (.cells #[.string ⟨#[102]⟩, .bool false, .slice none 0 0, .slice none 0 0, .slice none 0 0, .slice none 0 0, .slice (some ⟨w.heap.size + 1, 0, none⟩) 1 1, .slice (some ⟨w.heap.size + 1 + 1, 0, none⟩) 1 1, .slice none 0 0, .slice none 0 0, .slice none 0 0] 31) = W at *
  refine bodyPost_ret (results_cell_row rfl _ _ w.heap.size 51 _ (0, 0) _ rfl h0 Tryz.underlying51 rfl (by kernel_rfl)) rfl ⟨hx, _, rfl, ?_⟩
  have n : ∀ {sz : Nat}, RepC W W0 (.fz sz []) (.slice none 0 0) := repC_nilS
  have r6 : RepC W W0 (.fz 2 (encL tC [(25, 0)])) (.slice (some ⟨w.heap.size + 1, 0, none⟩) 1 1) := repC_in (us := [.int .i64 25, .int .i64 0]) (by decide) (by decide) (Nat.le_refl _) (cells_blk h1) (repCs_cons (.v _ rfl) (repCs_cons (.v _ rfl) repCs_nil))
  have r7 : RepC W W0 (.fz 1 (encL tI [1])) (.slice (some ⟨w.heap.size + 1 + 1, 0, none⟩) 1 1) := repC_in (us := [.int .i64 1]) (by decide) (by decide) (Nat.le_refl _) (cells_blk h2) (repCs_cons (.v _ rfl) repCs_nil)
  exact repC_in (by decide) (fun e he => by obtain ⟨x, _, rfl⟩ := List.mem_map.1 he; exact enc_len _ _) (Nat.le_refl _) (cells_blk h3) (repCs_cons (.v _ rfl) (repCs_cons (.v _ rfl) (repCs_cons n (repCs_cons n (repCs_cons n (repCs_cons n (repCs_cons r6 (repCs_cons r7 (repCs_cons n (repCs_cons n (repCs_cons n repCs_nil)))))))))))
theorem plain_len : ∀ f ∈ [plainF], LenV f := fun f hf => by
  obtain rfl := List.mem_singleton.1 hf
  exact ⟨by unfold Len; decide, by unfold LenF; decide, by decide⟩
theorem plain_dat : ∀ f ∈ [plainF], DatV f := fun f hf => by
  obtain rfl := List.mem_singleton.1 hf
  refine ⟨?_, ?_, ?_, ?_, ?_⟩ <;> simp [plainF, I64]
theorem encodeR_le {fs : List Fn} (h : canP fs = 0) : (encodeR fs).1.length ≤ 10000100 := by
  obtain ⟨h1, h2, h3, -⟩ := canP_zero h
  have := puts_le h3
  have h4 := Nat.mul_le_mul_right 250000 h2
  rw [encodeR, if_pos h]
  show ([73, 78, 76, 49] ++ putB fs.length ++ (fs.map fncV).flatten).length ≤ _
  rw [putB_small (by omega)]
  simp only [List.length_append, List.length_cons, List.length_nil]
  omega
theorem magic_dec : decodeR [73, 78, 76, 49] = ([], 3) := by kernel_rfl
theorem lives_walk (w : World) : Calls Tryz.prog 23 #[] w fun e w' => e = .returned (.bool true) ∧ Ext w w' := by
  have kc := fun (w : World) (C : Array Value) (n c : Nat) => Lib.run_convert_bytes_const (P := Tryz.prog) w 22 5 C n c Tryz.underlying22 Tryz.underlying5
  go_enter Tryz.func23, Tryz.ntmps23
  go_wp2_with fail
  refine (plain_walk w).mono ?_
  rintro e w1 ⟨hx1, v, rfl, hr⟩
  go_wp2_with fail
  refine (encode_walk [plainF] v w1 hr plain_len plain_dat (by decide)).mono ?_
  rintro e w2 ⟨hx2, ao, cap, rfl, hc2, hcap, -⟩
  have hE2 : (encodeR [plainF]).2 = 0 := by rw [encodeR, if_pos plain_can]
  have hD := decode_encode plain_can plain_dat
  have hL := encodeR_le plain_can
  rw [hE2]
  generalize (encodeR [plainF]).1 = B at *
  have hDR : decodeR B = ([plainF], 0) := by rw [decodeR, hD]
  have HX2 := Lib.hid (hx1.tr hx2)
  have HDW := Lib.hid (decode_walk (fun _ => true) ao cap B w2 hc2 hcap (by omega) fun _ _ _ _ => rfl)
  clear hx1 hx2 hc2 hr
  go_wp2_with fail
  refine HDW.out.mono ?_
  rintro e w3 ⟨hx3, v3, rfl, who3, -, hr3⟩
  replace hr3 := hr3.mono (who' := W0) fun _ _ => rfl
  rw [show (decodeR B).1 = [plainF] by rw [hDR]] at hr3
  rw [show (decodeR B).2 = 0 by rw [hDR]]
  obtain ⟨ao3, cap3, hv3, he3⟩ := row_elem hr3
  have hv3 : v3 = .slice ao3 1 cap3 := hv3
  subst hv3
  obtain ⟨b, off, rfl, hb, hj⟩ := he3 (by simp)
  obtain ⟨cs, hcs, hrg⟩ := hj 0 (by decide)
  obtain ⟨a1, c1, a2, c2, a3, c3, a4, c4, a5, c5, a6, c6, a7, c7, a8, c8, a9, c9, hcse⟩ := fn_cells hcs
  rw [hcse] at hrg
  have e0 : w3.cell? ⟨b, off, none⟩ = some (.string ⟨#[102]⟩) := by
    have := hrg 0 _ rfl
    rw [Nat.zero_mul] at this
    exact this
  have HX3 := Lib.hid (HX2.out.tr hx3)
  have kc1 : (convert 22 22 (.slice (some ⟨w3.heap.size + 1, 0, none⟩) 4 4)).run Tryz.prog ((w3.alloc (.cells #[.slice (some ⟨b, off, none⟩) 1 cap3] 51)).alloc (.cells #[.int .u8 73, .int .u8 78, .int .u8 76, .int .u8 49] 5)) =
      .ok (.slice (some ⟨w3.heap.size + 1, 0, none⟩) 4 4) ((w3.alloc (.cells #[.slice (some ⟨b, off, none⟩) 1 cap3] 51)).alloc (.cells #[.int .u8 73, .int .u8 78, .int .u8 76, .int .u8 49] 5 (4, 5))) := by
    have := Lib.run_convert_bytes_const (P := Tryz.prog) (w3.alloc (.cells #[.slice (some ⟨b, off, none⟩) 1 cap3] 51)) 22 5 #[.int .u8 73, .int .u8 78, .int .u8 76, .int .u8 49] 4 4 Tryz.underlying22 Tryz.underlying5
    rw [show (w3.alloc (.cells #[.slice (some ⟨b, off, none⟩) 1 cap3] 51)).heap.size = w3.heap.size + 1 by simp] at this
    exact this
  have hcA : Cells ((w3.alloc (.cells #[.slice (some ⟨b, off, none⟩) 1 cap3] 51)).alloc (.cells #[.int .u8 73, .int .u8 78, .int .u8 76, .int .u8 49] 5 (4, 5))) (some ⟨w3.heap.size + 1, 0, none⟩) (([73, 78, 76, 49] : List UInt8).map byteC) :=
    cells_blk (cs := #[.int .u8 73, .int .u8 78, .int .u8 76, .int .u8 49]) (alloc_newE (by simp))
  have HXB := Lib.hid ((HX3.out.al (.cells #[.slice (some ⟨b, off, none⟩) 1 cap3] 51)).al (.cells #[.int .u8 73, .int .u8 78, .int .u8 76, .int .u8 49] 5 (4, 5)))
  have HDM := Lib.hid (decode_walk (fun _ => true) _ 4 [73, 78, 76, 49] _ hcA (by decide) (by decide) fun _ _ _ _ => rfl)
  have p3 : Hid (((w3.alloc (.cells #[.slice (some ⟨b, off, none⟩) 1 cap3] 51)).alloc (.cells #[.int .u8 73, .int .u8 78, .int .u8 76, .int .u8 49] 5 (4, 5))).heap[w3.heap.size]? = some (.cells #[.slice (some ⟨b, off, none⟩) 1 cap3] 51 (0, 0))) := Lib.hid ((alloc_oldD (by simp)).trans (alloc_newE rfl))
  have p4 : Hid (((w3.alloc (.cells #[.slice (some ⟨b, off, none⟩) 1 cap3] 51)).alloc (.cells #[.int .u8 73, .int .u8 78, .int .u8 76, .int .u8 49] 5 (4, 5))).heap[b]? = w3.heap[b]?) := Lib.hid ((alloc_oldD (by simp; omega)).trans (alloc_oldD hb))
  have p5 : Hid (w3.heap.size < ((w3.alloc (.cells #[.slice (some ⟨b, off, none⟩) 1 cap3] 51)).alloc (.cells #[.int .u8 73, .int .u8 78, .int .u8 76, .int .u8 49] 5 (4, 5))).heap.size) := Lib.hid (by simp; omega)
  clear hx3 hr3 hj hcs hrg hcse HDW he3 hcA kc
  go_wp2_with fail
  refine HDM.out.mono ?_
  rintro e w4 ⟨hx4, v4, rfl, who4, -, hr4⟩
  replace hr4 := hr4.mono (who' := W0) fun _ _ => rfl
  rw [magic_dec] at hr4 ⊢
  obtain ⟨ao4, cap4, hv4, -⟩ := row_elem hr4
  have hv4 : v4 = .slice ao4 0 cap4 := hv4
  subst hv4
  have HX5 := Lib.hid (HXB.out.tr hx4)
  have q3 : w4.cell? ⟨w3.heap.size, 0, none⟩ = some (.slice (some ⟨b, off, none⟩) 1 cap3) := blk ((hx4.block p5.out).trans p3.out) 0 rfl
  have q4 : w4.cell? ⟨b, off, none⟩ = some (.string ⟨#[102]⟩) := (cell_of_block ((hx4.block (Nat.lt_trans hb p5.out)).trans p4.out)).trans e0
  have q3' := Lib.cell?_alloc_marked (.cells #[.slice ao4 0 cap4] 51) q3
  have q4' := Lib.cell?_alloc_marked (.cells #[.slice ao4 0 cap4] 51) q4
  clear HDM hx4 hr4 p3 p4 p5 HXB kc1 q3 q4 e0
  go_wp2_with fail
  go_ret
  exact ⟨rfl, HX5.out.al _⟩
end Go.Proofs.YtkdnbnkbnegckaaGreat
