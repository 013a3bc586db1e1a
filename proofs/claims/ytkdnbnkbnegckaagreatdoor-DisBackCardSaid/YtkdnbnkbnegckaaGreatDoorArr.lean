/- asm.Read, walked. -/
import Derived.Test.YtkdnbnkbnegckaaGreatDoorArz
import Derived.Test.YtkdnbnkbnegckaaGreatDoorDaS
import Derived.Deep.DeepCutAuto
namespace Go.Proofs.YtkdnbnkbnegckaaGreatDoor
open Go.RowKit Go.Shelf
set_option maxRecDepth 20000
set_option linter.unusedVariables false
attribute [local go_sem] Oper.semAt_some
def trimNl (s : List UInt8) : List UInt8 := Lib.trimSuffix s [10]
theorem trimNl_le (s : List UInt8) : (trimNl s).length ≤ s.length := by
  unfold trimNl Lib.trimSuffix
  split <;> simp
def ReadOut (ls : List (List UInt8)) (c : Int) (w : World) (e : Ending) (w' : World) : Prop := ∃ (o : List Fn × (Int × Int)) (v : Value), Reads ls c o ∧ e = .returned (.tuple #[.agg #[v], .int .i64 o.2.1, .int .i64 o.2.2]) ∧ RepC w' W0 (.fz 11 (encL tF o.1)) v ∧ Ext w w'
theorem alloc7 {W W2 : World} {o1 o2 o3 o4 o5 o6 o7 : Obj} (h : (((((((W.alloc o1).alloc o2).alloc o3).alloc o4).alloc o5).alloc o6).alloc o7) = W2) :
    W2.heap.size = W.heap.size + 7 ∧ W2.heap[W.heap.size]? = some o1 ∧ W2.heap[W.heap.size + 1]? = some o2 ∧ W2.heap[W.heap.size + 1 + 1]? = some o3 ∧ W2.heap[W.heap.size + 1 + 1 + 1]? = some o4 ∧ W2.heap[W.heap.size + 1 + 1 + 1 + 1]? = some o5 ∧ W2.heap[W.heap.size + 1 + 1 + 1 + 1 + 1]? = some o6 ∧ W2.heap[W.heap.size + 1 + 1 + 1 + 1 + 1 + 1]? = some o7 ∧ Ext W W2 := by
  subst h
  refine ⟨by simp, ?_, ?_, ?_, ?_, ?_, ?_, ?_, ((((((((Ext.rf W).al o1).al o2).al o3).al o4).al o5).al o6).al o7)⟩
  · have hx := alloc_new W o1
    have hy := (((((((Ext.rf _).al o2).al o3).al o4).al o5).al o6).al o7).blk hx
    simpa using hy
  · have hx := alloc_new (W.alloc o1) o2
    have hy := ((((((Ext.rf _).al o3).al o4).al o5).al o6).al o7).blk hx
    simpa using hy
  · have hx := alloc_new ((W.alloc o1).alloc o2) o3
    have hy := (((((Ext.rf _).al o4).al o5).al o6).al o7).blk hx
    simpa using hy
  · have hx := alloc_new (((W.alloc o1).alloc o2).alloc o3) o4
    have hy := ((((Ext.rf _).al o5).al o6).al o7).blk hx
    simpa using hy
  · have hx := alloc_new ((((W.alloc o1).alloc o2).alloc o3).alloc o4) o5
    have hy := (((Ext.rf _).al o6).al o7).blk hx
    simpa using hy
  · have hx := alloc_new (((((W.alloc o1).alloc o2).alloc o3).alloc o4).alloc o5) o6
    have hy := ((Ext.rf _).al o7).blk hx
    simpa using hy
  · have hx := alloc_new ((((((W.alloc o1).alloc o2).alloc o3).alloc o4).alloc o5).alloc o6) o7
    have hy := (Ext.rf _).blk hx
    simpa using hy
theorem res_read (tmps : Array Value) (p q u : Nat) (x y : Int) (v : Value) (W : World) (h2 : tmps.getD 2 undef = .pointer (some ⟨p, 0, none⟩)) (h3 : tmps.getD 3 undef = .pointer (some ⟨q, 0, none⟩)) (h4 : tmps.getD 4 undef = .pointer (some ⟨u, 0, none⟩))
    (hp : W.heap[p]? = some (.cells #[v] 42 (0, 0))) (hq : W.heap[q]? = some (.cells #[.int .i64 x] 3 (0, 0))) (hu : W.heap[u]? = some (.cells #[.int .i64 y] 26 (0, 0))) :
    (results Tryz.f15 tmps).run Tryz.prog W = .ok (.tuple #[.agg #[v], .int .i64 x, .int .i64 y]) W := by
  have l1 : (loadVar 42 ⟨p, 0, none⟩).run Tryz.prog W = .ok (.agg #[v]) W := run_loadVar_row W p _ _ #[v] (0, 0) _ hp Tryz.underlying42 rfl (by kernel_rfl)
  have qc : W.cell? ⟨q, 0, none⟩ = some (.int .i64 x) := blk hq 0 rfl
  have l2 : (loadVar 3 ⟨q, 0, none⟩).run Tryz.prog W = .ok (.int .i64 x) W := by
    simp [go_sem, qc]
  have uc : W.cell? ⟨u, 0, none⟩ = some (.int .i64 y) := blk hu 0 rfl
  have l3 : (loadVar 26 ⟨u, 0, none⟩).run Tryz.prog W = .ok (.int .i64 y) W := by
    simp [go_sem, uc]
  have h2' : tmps[2]?.getD undef = .pointer (some ⟨p, 0, none⟩) := by simpa using h2
  have h3' : tmps[3]?.getD undef = .pointer (some ⟨q, 0, none⟩) := by simpa using h3
  have h4' : tmps[4]?.getD undef = .pointer (some ⟨u, 0, none⟩) := by simpa using h4
  simp [results, show (Tryz.f15).results = #[.cell 2 42, .cell 3 3, .cell 4 26] from rfl, h2', h3', h4', asAddr, l1, l2, l3]
theorem read_leaves {tmps : Array Value} {p q u D : Nat} {x y : Int} {v : Value} {W : World} {R : Ending → World → Prop} (h2 : tmps.getD 2 undef = .pointer (some ⟨p, 0, none⟩)) (h3 : tmps.getD 3 undef = .pointer (some ⟨q, 0, none⟩)) (h4 : tmps.getD 4 undef = .pointer (some ⟨u, 0, none⟩)) (hD : W.heap[D]? = some (.deferred (some [])))
    (hp : (W.putObj D (.deferred none)).heap[p]? = some (.cells #[v] 42 (0, 0))) (hq : (W.putObj D (.deferred none)).heap[q]? = some (.cells #[.int .i64 x] 3 (0, 0))) (hu : (W.putObj D (.deferred none)).heap[u]? = some (.cells #[.int .i64 y] 26 (0, 0)))
    (hR : R (.returned (.tuple #[.agg #[v], .int .i64 x, .int .i64 y])) (W.putObj D (.deferred none))) : LeavesInM Fence.wide 9 Tryz.prog Tryz.f15 tmps R [{ target := .collected D, args := #[] }] .returning W :=
  ⟨by simp, .inl ⟨_, _, rfl, run_takeDeferred hD, _, res_read _ _ _ _ _ _ _ _ h2 h3 h4 hp hq hu, hR⟩⟩
theorem set3 {b : Nat} {W : World} {u0 u1 u2 : Value} {t0 t1 t2 : TypeId} (h0 : W.heap[b]? = some (.cells #[u0] t0 (0, 0))) (h1 : W.heap[b + 1]? = some (.cells #[u1] t1 (0, 0))) (h2 : W.heap[b + 1 + 1]? = some (.cells #[u2] t2 (0, 0))) (v x y : Value) {W5 : World} (hW : ((W.setCell ⟨b, 0, none⟩ v).setCell ⟨b + 1, 0, none⟩ x).setCell ⟨b + 1 + 1, 0, none⟩ y = W5) :
    W5.heap[b]? = some (.cells #[v] t0 (0, 0)) ∧ W5.heap[b + 1]? = some (.cells #[x] t1 (0, 0)) ∧ W5.heap[b + 1 + 1]? = some (.cells #[y] t2 (0, 0)) ∧ (∀ k, k ≠ b → k ≠ b + 1 → k ≠ b + 1 + 1 → W5.heap[k]? = W.heap[k]?) ∧ Below b W W5 := by
  have hs : ∀ (X : World) (b j : Nat) (u : Value) (k : Nat), k ≠ b → (X.setCell ⟨b, j, none⟩ u).heap[k]? = X.heap[k]? := fun X b j u k h => Below.heap_setCell _ _ _ _ h
  subst hW
  refine ⟨?_, ?_, ?_, fun k k0 k1 k2 => ?_, ?_⟩
  · rw [hs _ _ _ _ _ (by omega), hs _ _ _ _ _ (by omega)]; exact set_blk h0 0 v
  · rw [hs _ _ _ _ _ (by omega)]; exact set_blk ((hs _ _ _ _ _ (by omega)).trans h1) 0 x
  · exact set_blk ((hs _ _ _ _ _ (by omega)).trans ((hs _ _ _ _ _ (by omega)).trans h2)) 0 y
  · rw [hs _ _ _ _ _ k2, hs _ _ _ _ _ k1, hs _ _ _ _ _ k0]
  · exact Below.setCell (Below.setCell (Below.setCell (Below.refl _ _) (p := ⟨b, 0, none⟩) (Nat.le_refl _) _) (p := ⟨b + 1, 0, none⟩) (show b ≤ b + 1 by omega) _) (p := ⟨b + 1 + 1, 0, none⟩) (show b ≤ b + 1 + 1 by omega) _
theorem below_put {B : Nat} {W W' : World} {D : Nat} {o : Obj} (h : Below B W W') (hB : B ≤ D) : Below B W (W'.putObj D o) := ⟨h.os, h.tape, h.output, by have := h.size; simpa [World.putObj] using this, fun k hk => (World.putObj_heap_other (by omega)).trans (h.block k hk)⟩
theorem nil_fns {W : World} : RepC W W0 (.fz 11 (encL tF [])) (.slice none 0 0) := .fz _ 0 [] none [] (by simp) (by simp) (by simp) (by simp) (by simp) rfl (by simp)
theorem hset (X : World) (b j : Nat) (u : Value) (k : Nat) (h : k ≠ b) : (X.setCell ⟨b, j, none⟩ u).heap[k]? = X.heap[k]? := Below.heap_setCell _ _ _ _ h
/-- The boxes of asm.Read. -/
structure BoxI (b : Nat) (W : World) (n : Int) : Prop where
  b0 : W.heap[b]? = some (.cells #[.slice none 0 0] 42 (0, 0))
  b1 : W.heap[b + 1]? = some (.cells #[.int .i64 0] 3 (0, 0))
  b2 : W.heap[b + 1 + 1]? = some (.cells #[.int .i64 0] 26 (0, 0))
  b4 : W.heap[b + 1 + 1 + 1 + 1]? = some (.cells #[.pointer (some ⟨b + 1 + 1 + 1, 0, none⟩)] 73 (0, 0))
  b5 : W.heap[b + 1 + 1 + 1 + 1 + 1]? = some (.cells #[.int .i64 n] 3 (0, 0))
theorem BoxI.keep {b : Nat} {W W' : World} {n : Int} (h : BoxI b W n) (hk : ∀ k, k < W.heap.size → b ≤ k → k < b + 6 → k ≠ b + 1 + 1 + 1 → W'.heap[k]? = W.heap[k]?) : BoxI b W' n := by
  have hlt := (Array.getElem?_eq_some_iff.1 h.b5).1
  exact ⟨(hk _ (by omega) (by omega) (by omega) (by omega)).trans h.b0, (hk _ (by omega) (by omega) (by omega) (by omega)).trans h.b1, (hk _ (by omega) (by omega) (by omega) (by omega)).trans h.b2, (hk _ (by omega) (by omega) (by omega) (by omega)).trans h.b4, (hk _ (by omega) (by omega) (by omega) (by omega)).trans h.b5⟩
theorem StepX.below {X : Nat → Prop} {w A B : World} (h : Ext w A) (hs : StepX X A B) (hX : ∀ k, X k → w.heap.size ≤ k) : Ext w B :=
  ⟨hs.os.trans h.os, hs.tape.trans h.tape, hs.output.trans h.output, Nat.le_trans h.size hs.size, fun k hk => (hs.block k (Nat.lt_of_lt_of_le hk h.size) (fun hx => by have := hX k hx; omega)).trans (h.block hk)⟩
def lastN (i : Nat) : Int := if i = 0 then 1 else i
/-- Ahead of line number i. -/
def RdI (ls : List (List UInt8)) (w : World) (i : Nat) (W : World) : Prop := RInv (w.heap.size + 9) (w.heap.size + 1 + 1 + 1) W (stAt ls i) ∧ BoxI w.heap.size W (lastN i) ∧ (∀ j, j < i → errAt ls j = 0) ∧ Ext w W
/-- A line was none. -/
def RdX (ls : List (List UInt8)) (w : World) (c : Code) (W : World) : Prop := c = .ret ∧ ∃ i, i < ls.length ∧ (∀ j, j < i → errAt ls j = 0) ∧ errAt ls i ≠ 0 ∧ W.heap[w.heap.size]? = some (.cells #[.slice none 0 0] 42 (0, 0)) ∧ W.heap[w.heap.size + 1]? = some (.cells #[.int .i64 ((i : Int) + 1)] 3 (0, 0)) ∧ W.heap[w.heap.size + 1 + 1]? = some (.cells #[.int .i64 (errAt ls i)] 26 (0, 0)) ∧ Ext w W
theorem RdI.keep {ls : List (List UInt8)} {w A B : World} {i : Nat} {X : Nat → Prop} (h : RdI ls w i A) (hs : StepX X A B) (hX : ∀ k, X k → w.heap.size + 7 ≤ k ∧ k < w.heap.size + 16) : RdI ls w i B := by
  obtain ⟨h1, h2, h3, h4⟩ := h
  refine ⟨h1.keep hs.size fun b hb hor => hs.block b hb fun hx => ?_, h2.keep fun k hk hlo hhi hne => hs.block k hk fun hx => ?_, h3, hs.below h4 fun k hk => ?_⟩
  · have := hX b hx; omega
  · have := hX k hx; omega
  · have := hX k hk; omega
theorem RdX.keep {ls : List (List UInt8)} {w A B : World} {c : Code} {X : Nat → Prop} (h : RdX ls w c A) (hs : StepX X A B) (hX : ∀ k, X k → w.heap.size + 7 ≤ k ∧ k < w.heap.size + 16) : RdX ls w c B := by
  obtain ⟨h0, i, h1, h2, h3, h4, h5, h6, h7⟩ := h
  have hlt := (Array.getElem?_eq_some_iff.1 h6).1
  exact ⟨h0, i, h1, h2, h3, (hs.block _ (by omega) fun hx => by have := hX _ hx; omega).trans h4, (hs.block _ (by omega) fun hx => by have := hX _ hx; omega).trans h5, (hs.block _ (by omega) fun hx => by have := hX _ hx; omega).trans h6, hs.below h7 fun k hk => by have := hX k hk; omega⟩
set_option maxHeartbeats 8000000 in
theorem asm_Read (s : List UInt8) (m c : Int) (w : World) (hm : w.cell? ⟨0, 0, none⟩ = some (.int .i64 m)) (hl : s.length ≤ 1000000)
    (hcan : ∀ fs, (∀ j, j < (splitNl (trimNl s)).length → errAt (splitNl (trimNl s)) j = 0) → stAt (splitNl (trimNl s)) (splitNl (trimNl s)).length = (fs, none) → ∀ W v, RepC W W0 (.fz 11 (encL tF fs)) v → Calls Tryz.prog 43 #[.agg #[v]] W fun e W' => e = .returned (.int .i64 c) ∧ Ext W W') :
    Calls Tryz.prog 15 #[.string (strB s)] w (ReadOut (splitNl (trimNl s)) c w) := by
  have HTR := Lib.hid (fun W => Tryz.strings_TrimSuffix (strB s) ⟨#[10]⟩ W (by rw [strB_size]; omega))
  rw [strB_toL] at HTR
  have HTL := Lib.hid (trimNl_le s)
  have HTE : ∀ W, Calls Tryz.prog 40 #[.string (strB s), .string ⟨#[10]⟩] W fun e W' => e = .returned (.string (strB (trimNl s))) ∧ W' = W := HTR.out
  have HTR := Lib.hid HTE
  clear HTE
  generalize trimNl s = T at *
  have HCAN := Lib.hid hcan
  have HLEN := Lib.hid (splitNl_len T)
  have HEL := Lib.hid (nl_elem T)
  have HNE := Lib.hid (splitNl_ne T)
  have HM := Lib.hid hm
  clear hcan hm
  refine (callsIn_wide (n := 9)).1 ?_
  refine callsIn_of_wp_marks Tryz.func15 rfl trivial ?_ rfl
  refine wpIn_wide.2 ?_
  simp only [Tryz.ntmps15, List.size_toArray, List.length_cons, List.length_nil, Nat.reduceAdd, Nat.reduceSub, Array.replicate_succ, Array.replicate_zero, List.push_toArray, List.append_toArray, List.nil_append, List.cons_append]
  go_wp2_with fail
  refine (HTR.out _).mono ?_
  rintro e w1 ⟨rfl, rfl⟩
  go_wp2_with fail
  refine (asm_lines _ _).mono ?_
  rintro e w1 ⟨rfl, rfl⟩
  go_wp2_with fail
  obtain ⟨W7, hW7⟩ : ∃ W7, (((((((w.alloc (.cells #[.slice none 0 0] 42)).alloc (.cells #[.int .i64 0] 3)).alloc (.cells #[.int .i64 0] 26)).alloc (.cells #[.slice none 0 0, .bool false] 75)).alloc (.cells #[.pointer (some ⟨w.heap.size + 1 + 1 + 1, 0, none⟩)] 73)).alloc (.cells #[.int .i64 1] 3)).alloc (.cells #[.string (strB T)] 9)) = W7 := ⟨_, rfl⟩
  rw [hW7]
  obtain ⟨hS7, k0, k1, k2, k3, k4, k5, k6, hx7⟩ := alloc7 hW7
  clear hW7
  have HX7 := Lib.hid hx7
  refine (wpIn_wide (n := 9)).1 ?_
  have hXw : ∀ k, withLoop (XL (w.heap.size + 9)) W7.heap.size k → w.heap.size + 7 ≤ k ∧ k < w.heap.size + 16 := fun k hk => by
    rcases hk with h | h | h
    · unfold XL at h; omega
    · omega
    · omega
  refine wpIn_rangeFuncX (X := XL (w.heap.size + 9)) (m := w.heap.size + 16) (xs := numbered T) (encs := fun x : List UInt8 × Nat => #[.int .i64 (x.2 : Nat), .string (strB x.1)]) rfl (by decide) (gf := 65) (lb := #[.pointer (some ⟨w.heap.size + 1 + 1 + 1 + 1 + 1 + 1, 0, none⟩)]) rfl trivial (enters_of Tryz.func65 (by kernel_rfl) rfl)
    (fun rr => by
      have hq := lines_in 8 (by omega) (w.heap.size + 1 + 1 + 1 + 1 + 1 + 1) T (by have := HTL.out; omega) ((W7.alloc (.deferred (some []))).alloc (.loop rr)) ((((Ext.rf W7).al _).al _).blk k6)
      have hz : ((W7.alloc (.deferred (some []))).alloc (.loop rr)).heap.size = w.heap.size + 9 := by simp; omega
      rw [hz] at hq
      exact hq)
    (by unfold XL; omega) (by unfold XL; omega) (fun _ => rfl)
    (RdI (splitNl T) w) (RdX (splitNl T) w)
    (fun i A B h hs => h.keep hs hXw) (fun c A B h hs => h.keep hs hXw)
    ?h0 (fun x => { tmps := #[.string (strB T), undef, .pointer (some ⟨w.heap.size, 0, none⟩), .pointer (some ⟨w.heap.size + 1, 0, none⟩), .pointer (some ⟨w.heap.size + 1 + 1, 0, none⟩), .pointer (some ⟨w.heap.size + 1 + 1 + 1 + 1, 0, none⟩), .pointer (some ⟨w.heap.size + 1 + 1 + 1 + 1 + 1, 0, none⟩), .int .i64 (x.2 : Nat), .string (strB x.1), undef, undef, .agg #[.slice none 0 0, .bool false], .pointer (some ⟨w.heap.size + 1 + 1 + 1, 0, none⟩), .string (strB s), .string (strB T), .string (strB T), .func (.func 65) #[] #[.pointer (some ⟨w.heap.size + 1 + 1 + 1 + 1 + 1 + 1, 0, none⟩)], .int .i64 (x.2 : Nat), .string (strB x.1), undef, undef, undef, undef, undef, undef, undef, undef, undef, undef, undef, undef, undef, undef, undef, undef, undef, undef, undef, undef, undef, undef, undef, undef, undef, undef, undef, undef], defers := [] }) ?assign ?body ?done ?stop
  case h0 =>
    refine ⟨⟨fun _ => .other, .slice none 0 0, [], [], ⟨fun b hb => (by cases hb), k3, World.ownsRow_nil _ _ _ _, rfl, fun j hj => absurd hj (Nat.not_lt_zero _), fun f hf => (by cases hf), fun _ => rfl⟩⟩, ⟨k0, k1, k2, k4, k5⟩, fun j hj => absurd hj (Nat.not_lt_zero _), hx7⟩
  case assign =>
    intro l x W K hK
    gi_wp2
    exact hK
  case body =>
    rintro i hi W hW ⟨hR, hB, hE, hX⟩ hmW
    have hi2 : i < (splitNl T).length := by rwa [numbered_len] at hi
    have hni := numbered_at T i hi2 hi
    rw [hni]
    clear hni
    have hsml := stAt_small (splitNl T) i
    have hlen := HLEN.out
    have hTl := HTL.out
    have HRD := Lib.hid (reader_read (w.heap.size + 9) (w.heap.size + 1 + 1 + 1) (stAt (splitNl T) i) (splitNl T)[i] m W (by omega) (by omega) (hX.has HM.out) (by have := HEL.out _ (List.getElem_mem hi2); omega) (by omega) (fun f hf => by have := hsml.2 f hf; omega) hR)
    unfold ReadR at HRD
    rw [← errAt_is hi2, ← stAt_succ hi2] at HRD
    have c4 := blk hB.b4 0 rfl
    have HB := Lib.hid hB
    have HE := Lib.hid hE
    have HX := Lib.hid hX
    have HLL := Lib.hid hi2
    clear hsml hlen hTl hR hB hE hX
    have hnum : ((1 + i : Nat) : Int) = (i : Int) + 1 := by omega
    dsimp only
    rw [hnum]
    clear hnum
    gi_wp2_with fail
    first | refine ⟨trivial, ?_⟩ | skip
    refine (CallsIn.inRound _ (callsIn_wide.2 HRD.out)).mono ?_
    rintro e W3 ⟨rfl, hR3, hS3⟩
    have hXr : ∀ k, k ≠ w.heap.size + 1 + 1 + 1 → k < w.heap.size + 16 → ¬Xr (w.heap.size + 9) (w.heap.size + 1 + 1 + 1) k := fun k h1 h2 h => by
      rcases h with h | h <;> omega
    have HB3 := Lib.hid (HB.out.keep fun k hk hlo hhi hne => hS3.block k hk (hXr k hne (by omega)))
    have HX3 := Lib.hid (hS3.below HX.out fun k hk => by rcases hk with h | h <;> omega)
    have HK3 : Hid (KpX (withLoop (XL (w.heap.size + 9)) W7.heap.size) W W3) := Lib.hid ⟨hS3.size, fun k hk hlt => hS3.block k hlt (hXr k (by have := hXw k hk; omega) (hXw k hk).2)⟩
    have HR3 := Lib.hid hR3
    have hnb : ∀ k, withLoop (XL (w.heap.size + 9)) W7.heap.size k → w.heap.size + 7 ≤ k := fun k hk => (hXw k hk).1
    have HNB := Lib.hid hnb
    have hlt5 := (Array.getElem?_eq_some_iff.1 HB3.out.b5).1
    clear hR3 hS3 hXr c4 HRD hnb
    have q0 := blk HB3.out.b0 0 rfl
    have q1 := blk HB3.out.b1 0 rfl
    have q2 := blk HB3.out.b2 0 rfl
    have q5 := blk HB3.out.b5 0 rfl
    have y0 := frozen_blk HB3.out.b0 0
    have y1 := frozen_blk HB3.out.b1 0
    have y2 := frozen_blk HB3.out.b2 0
    have y5 := frozen_blk HB3.out.b5 0
    have hSz : ∀ (X : World) (bb j : Nat) (u : Value), (X.setCell ⟨bb, j, none⟩ u).heap.size = X.heap.size := fun X bb j u => by simp [World.setCell]
    have HSz := Lib.hid hSz
    clear hSz
    by_cases he0 : errAt (splitNl T) i = 0
    · have t1 : (errAt (splitNl T) i != 0) = false := by rw [he0]; rfl
      have HE0 := Lib.hid he0
      clear he0
      gi_wp2_with fail
      refine ⟨HK3.out.set (fun hk => by have := HNB.out _ hk; omega) _ _, ?_, ?_, fun j hj => ?_, Below.setCell HX3.out.b (p := ⟨w.heap.size + 1 + 1 + 1 + 1 + 1, 0, none⟩) (show w.heap.size ≤ w.heap.size + 1 + 1 + 1 + 1 + 1 by omega) _⟩
      · exact HR3.out.keep (by rw [HSz.out]; exact Nat.le_refl _) fun b hb hor => hset _ _ _ _ _ (by omega)
      · have h5 := set_blk HB3.out.b5 0 (.int .i64 ((i : Int) + 1))
        have hb := HB3.out
        have hl : lastN (i + 1) = (i : Int) + 1 := by unfold lastN; rw [if_neg (by omega)]; omega
        exact ⟨(hset _ _ _ _ _ (by omega)).trans hb.b0, (hset _ _ _ _ _ (by omega)).trans hb.b1, (hset _ _ _ _ _ (by omega)).trans hb.b2, (hset _ _ _ _ _ (by omega)).trans hb.b4, by rw [hl]; exact h5⟩
      · by_cases hji : j = i
        · rw [hji]; exact HE0.out
        · exact HE.out j (by omega)
    · have t1 : (errAt (splitNl T) i != 0) = true := by rw [bne_iff_ne]; exact he0
      have HE0 := Lib.hid he0
      clear he0
      gi_wp2_with fail
      refine ⟨((HK3.out.set (fun hk => by have := HNB.out _ hk; omega) _ _).set (fun hk => by have := HNB.out _ hk; omega) _ _).set (fun hk => by have := HNB.out _ hk; omega) _ _, rfl, i, HLL.out, HE.out, HE0.out, ?_, ?_, ?_, ?_⟩
      · have h0 := set_blk HB3.out.b0 0 (.slice none 0 0)
        exact (hset _ _ _ _ _ (by omega)).trans ((hset _ _ _ _ _ (by omega)).trans h0)
      · have h1 := set_blk ((hset W3 w.heap.size 0 (.slice none 0 0) (w.heap.size + 1) (by omega)).trans HB3.out.b1) 0 (.int .i64 ((i : Int) + 1))
        exact (hset _ _ _ _ _ (by omega)).trans h1
      · exact set_blk ((hset _ _ _ _ _ (by omega)).trans ((hset W3 w.heap.size 0 (.slice none 0 0) (w.heap.size + 1 + 1) (by omega)).trans HB3.out.b2)) 0 _
      · exact Below.setCell (Below.setCell (Below.setCell HX3.out.b (p := ⟨w.heap.size, 0, none⟩) (Nat.le_refl _) _) (p := ⟨w.heap.size + 1, 0, none⟩) (show w.heap.size ≤ w.heap.size + 1 by omega) _) (p := ⟨w.heap.size + 1 + 1, 0, none⟩) (show w.heap.size ≤ w.heap.size + 1 + 1 by omega) _
  case done =>
    rintro W ⟨hR, hB, hE, hX⟩ hD
    rw [hS7] at hD ⊢
    rw [numbered_len] at hR hB hE
    have HRS := Lib.hid (fun o h => (⟨o, h⟩ : ∃ o, Reads (splitNl T) c o))
    have hls : 0 < (splitNl T).length := List.length_pos_iff.2 HNE.out
    have hlast : lastN (splitNl T).length = ((splitNl T).length : Int) := by unfold lastN; rw [if_neg (by omega)]
    rw [hlast] at hB
    have HE := Lib.hid hE
    have HX := Lib.hid hX
    have HD := Lib.hid hD
    have c4 := blk hB.b4 0 rfl
    have q0 := blk hB.b0 0 rfl
    have q1 := blk hB.b1 0 rfl
    have q2 := blk hB.b2 0 rfl
    have q5 := blk hB.b5 0 rfl
    have y0 := frozen_blk hB.b0 0
    have y1 := frozen_blk hB.b1 0
    have y2 := frozen_blk hB.b2 0
    have HB := Lib.hid hB
    clear hE hX hD hB hlast
    cases hst : (stAt (splitNl T) (splitNl T).length).2 with
    | some f =>
      have hb1 : W.cell? ⟨w.heap.size + 1 + 1 + 1, 1, none⟩ = some (.bool true) := by
        obtain ⟨who, v, css, ocs, h⟩ := hR
        have := blk h.box 1 rfl
        rw [hst] at this
        exact this
      have HST := Lib.hid hst
      clear hR hst
      go_wp2_with fail
      go_region_held3 (fun w' => w'.cell? ⟨w.heap.size + 1 + 1 + 1 + 1 + 1, 0, none⟩ = some (.int .i64 ((splitNl T).length : Int))) (first | exact q5 | go_simp) (fail)
      go_wp2_with fail
      have hDl := (Array.getElem?_eq_some_iff.1 HD.out).1
      generalize hW5 : ((W.setCell ⟨w.heap.size, 0, none⟩ (.slice none 0 0)).setCell ⟨w.heap.size + 1, 0, none⟩ (.int .i64 ((splitNl T).length : Int))).setCell ⟨w.heap.size + 1 + 1, 0, none⟩ (.int .i64 3) = W5
      obtain ⟨p0, p1, p2, pk, pb⟩ := set3 HB.out.b0 HB.out.b1 HB.out.b2 _ _ _ hW5
      have hput : ∀ (X : World) (k : Nat) (o : Obj), k ≠ (w.heap.size + 7) → X.heap[k]? = some o → (X.putObj (w.heap.size + 7) (.deferred none)).heap[k]? = some o := fun X k o hk h => (World.putObj_heap_other hk).trans h
      exact read_leaves (W := W5.drew) rfl rfl rfl ((pk _ (by omega) (by omega) (by omega)).trans HD.out) (hput _ _ _ (by omega) p0) (hput _ _ _ (by omega) p1) (hput _ _ _ (by omega) p2) ⟨_, _, .short f HE.out HST.out, rfl, nil_fns, below_put (Below.drew (Below.trans HX.out pb)) (by omega)⟩
    | none =>
      have hR2 : RInv (w.heap.size + 9) (w.heap.size + 1 + 1 + 1) W ((stAt (splitNl T) (splitNl T).length).1, none) := by rw [← hst]; exact hR
      have hbs := hR2
      obtain ⟨v, hbx, hrep, ao, nn, cap, rfl⟩ := hR2.rep
      have hb1 : W.cell? ⟨w.heap.size + 1 + 1 + 1, 1, none⟩ = some (.bool false) := blk hbx 1 rfl
      have hb0 : W.cell? ⟨w.heap.size + 1 + 1 + 1, 0, none⟩ = some (.slice ao nn cap) := blk hbx 0 rfl
      have HST := Lib.hid hst
      have HCW := Lib.hid (HCAN.out _ HE.out (show stAt (splitNl T) (splitNl T).length = ((stAt (splitNl T) (splitNl T).length).1, none) by rw [← hst]) W _ (hrep.mono fun _ _ => rfl))
      have HREP := Lib.hid hrep
      have HBX := Lib.hid hbx
      have HDl := Lib.hid (Array.getElem?_eq_some_iff.1 HD.out).1
      clear hR hst hR2 hbs hrep hbx
      go_wp2_with fail
      refine HCW.out.mono ?_
      rintro e W3 ⟨rfl, hx3⟩
      have HX3 := Lib.hid hx3
      have HREP3 := Lib.hid (rep_keep hx3.size (fun b _ hl => hx3.block hl) HREP.out)
      have HB3 := Lib.hid (HB.out.keep fun k hk _ _ _ => hx3.block hk)
      have HD3 := Lib.hid (hx3.blk HD.out)
      have HBX3 := Lib.hid (hx3.blk HBX.out)
      have HXw := Lib.hid (HX.out.tr hx3)
      clear hb0 hb1 q0 q1 q2 q5 y0 y1 y2 c4 hx3
      have c4 := blk HB3.out.b4 0 rfl
      have q0 := blk HB3.out.b0 0 rfl
      have q1 := blk HB3.out.b1 0 rfl
      have q2 := blk HB3.out.b2 0 rfl
      have y0 := frozen_blk HB3.out.b0 0
      have y1 := frozen_blk HB3.out.b1 0
      have y2 := frozen_blk HB3.out.b2 0
      have b0 := blk HBX3.out 0 rfl
      have hput : ∀ (X : World) (k : Nat) (o : Obj), k ≠ (w.heap.size + 7) → X.heap[k]? = some o → (X.putObj (w.heap.size + 7) (.deferred none)).heap[k]? = some o := fun X k o hk h => (World.putObj_heap_other hk).trans h
      have HPUT := Lib.hid hput
      clear hput
      by_cases hc0 : c = 0
      · have t1 : (c != 0) = false := by rw [hc0]; rfl
        have HC0 := Lib.hid hc0
        clear hc0
        go_wp2_with fail
        generalize hW5 : ((W3.setCell ⟨w.heap.size, 0, none⟩ (.slice ao nn cap)).setCell ⟨w.heap.size + 1, 0, none⟩ (.int .i64 0)).setCell ⟨w.heap.size + 1 + 1, 0, none⟩ (.int .i64 0) = W5
        obtain ⟨p0, p1, p2, pk, pb⟩ := set3 HB3.out.b0 HB3.out.b1 HB3.out.b2 _ _ _ hW5
        refine read_leaves (W := W5) rfl rfl rfl ((pk _ (by omega) (by omega) (by omega)).trans HD3.out) (HPUT.out _ _ _ (by omega) p0) (HPUT.out _ _ _ (by omega) p1) (HPUT.out _ _ _ (by omega) p2) ⟨_, _, .ok HE.out HST.out HC0.out, rfl, ?_, below_put (Below.trans HXw.out pb) (by omega)⟩
        have hps := pb.size
        refine (rep_keep (by rw [size_putObj]; exact hps) (fun b hb _ => ?_) HREP3.out).mono fun _ _ => rfl
        have hbg := whoB_ge hb
        rw [World.putObj_heap_other (by omega), pk _ (by omega) (by omega) (by omega)]
      · have t1 : (c != 0) = true := by rw [bne_iff_ne]; exact hc0
        have HC0 := Lib.hid hc0
        clear hc0
        go_wp2_with fail
        generalize hW5 : ((W3.setCell ⟨w.heap.size, 0, none⟩ (.slice none 0 0)).setCell ⟨w.heap.size + 1, 0, none⟩ (.int .i64 0)).setCell ⟨w.heap.size + 1 + 1, 0, none⟩ (.int .i64 c) = W5
        obtain ⟨p0, p1, p2, pk, pb⟩ := set3 HB3.out.b0 HB3.out.b1 HB3.out.b2 _ _ _ hW5
        exact read_leaves (W := W5) rfl rfl rfl ((pk _ (by omega) (by omega) (by omega)).trans HD3.out) (HPUT.out _ _ _ (by omega) p0) (HPUT.out _ _ _ (by omega) p1) (HPUT.out _ _ _ (by omega) p2) ⟨_, _, .cannot HE.out HST.out HC0.out, rfl, nil_fns, below_put (Below.trans HXw.out pb) (by omega)⟩
  case stop =>
    rintro c' W ⟨rfl, i, hi, hE, he, r0, r1, r2, hX⟩ hD
    have hne : ∀ k, k < w.heap.size + 7 → k ≠ W7.heap.size := by omega
    have HRD := Lib.hid (Reads.bad (c := c) i hi hE he)
    have HX := Lib.hid hX
    have HD := Lib.hid hD
    have r0' := Lib.hid r0
    have r1' := Lib.hid r1
    have r2' := Lib.hid r2
    have HNN := Lib.hid hne
    clear hE he r0 r1 r2 hX hD hne
    gi_wp2_with fail
    exact read_leaves rfl rfl rfl HD.out ((World.putObj_heap_other (HNN.out _ (by omega))).trans r0'.out) ((World.putObj_heap_other (HNN.out _ (by omega))).trans r1'.out) ((World.putObj_heap_other (HNN.out _ (by omega))).trans r2'.out) ⟨_, _, HRD.out, rfl, nil_fns, Below.trans HX.out ⟨rfl, rfl, rfl, by simp [World.putObj], fun k hk => World.putObj_heap_other (by omega)⟩⟩
end Go.Proofs.YtkdnbnkbnegckaaGreatDoor
