/- SigSlots: the walks of sig.Slots, of its reference, and of the law. -/
import Derived.Test.YtfeddkfpkdjbeaaSigReads
import Derived.Test.YtfeddkfpkdjbeaaOpen
namespace Go.Proofs.Ytfeddkfpkdjbeaa
open Go.RowKit

/-- v is a slice of the ints xs. -/
def IsInts (k : IntKind) (w : World) (v : Value) (xs : List Int) : Prop := ∃ ao cap, v = .slice ao xs.length cap ∧ Cells w ao (xs.map (.int k))
theorem IsInts.ext {k : IntKind} {w w' : World} {v : Value} {xs : List Int} (h : IsInts k w v xs) (hb : Ext w w') : IsInts k w' v xs := by
  obtain ⟨ao, cap, e, hc⟩ := h
  exact ⟨ao, cap, e, hc.ext hb⟩

set_option maxHeartbeats 1000000 in
set_option maxRecDepth 20000 in
theorem sig_join (ao : Option Addr) (cap : Nat) (vs : List Value) (ss : List (List Int)) (w : World) (hc : Cells w ao vs) (hlen : vs.length = ss.length) (hvs : ∀ i (h1 : i < vs.length) (h2 : i < ss.length), IsInts .i64 w vs[i] ss[i])
    (hl : ss.flatten.length ≤ 17592186044416) (hl2 : vs.length ≤ 17592186044416) :
    Calls Try.prog 73 #[.slice ao vs.length cap] w fun e w' => ∃ ao' cap', e = .returned (.slice ao' ss.flatten.length cap') ∧ Cells w' ao' (ss.flatten.map (.int .i64)) ∧ Ext w w' := by
  have HL := Lib.hid hlen
  clear hlen
  go_enter Try.func73, Try.ntmps73
  go_wp2
  go_loopw [3, 8] (fun v i wr => ∃ k : Nat, k ≤ vs.length ∧ i = .int .i64 k ∧ wr.ownsRow w.heap.size 66 1 v (ss.take k).flatten.length ((ss.take k).flatten.map (.int .i64)) ∧ Ext w wr)
    (fun _ i _ => vs.length - (intOf i).toNat)
  case atStart => exact ⟨0, Nat.zero_le _, rfl, World.ownsRow_nil _ _ _ _, Ext.rf w⟩
  case round =>
    obtain ⟨k, hk, rfl, hown, hext⟩ := hrel
    by_cases hlt : k < vs.length
    · obtain ⟨b, off, rfl, c1⟩ := (hc.ext hext).at (k := k) hlt
      have hks : k < ss.length := by rw [← HL.out]; exact hlt
      obtain ⟨ao1, cap1, hv, hc1⟩ := hvs k hlt hks
      rw [hv] at c1
      have hc2 := hc1.ext hext
      have HS : Hid ((ss.take (k + 1)).flatten = (ss.take k).flatten ++ ss[k]) := by rw [Hid, List.take_succ_eq_append_getElem hks, List.flatten_append, List.flatten_singleton]
      have hle : (ss.take (k + 1)).flatten.length ≤ 17592186044416 := by
        have : ss.flatten = (ss.take (k + 1)).flatten ++ (ss.drop (k + 1)).flatten := by rw [← List.flatten_append, List.take_append_drop]
        rw [this, List.length_append] at hl; omega
      rw [HS.out, List.length_append] at hle
      generalize (ss.take k).flatten = R at *
      generalize ss[k] = S at *
      clear hv hl
      go_wp2_with (at_builtin; (refine wpList_appendAll rfl (.tmp 12) (.tmp 13) 23 rfl w.heap.size 66 (.int .i64 0) 1 8 Try.underlying23 (by kernel_rfl) rfl (by decide) _ R.length _ ao1 S.length _ (S.map (.int .i64)) rfl hown rfl hc2 (by simp) (by intro u hu; simp only [List.mem_map] at hu; obtain ⟨_, _, rfl⟩ := hu; rfl) (by unfold maxLen; omega) (by omega) hext.size ?_; intro v' w1 hown1 hgr; have hext1 := hext.push hown (Nat.le_refl _) hgr; clear hgr hown hext))
      go_roundw
      case rel => exact ⟨k + 1, by omega, by go_num, by rw [HS.out, List.length_append, List.map_append]; exact hown1, hext1⟩
      case measure => simp [intOf]; omega
    · obtain rfl : k = vs.length := by omega
      rw [List.take_of_length_le (by rw [HL.out]; exact Nat.le_refl _)] at hown
      obtain ⟨ao', cap', rfl, -, -, hc'⟩ := Cells.own hown
      clear hown hlt
      go_wp2
      go_ret
      exact ⟨ao', cap', rfl, hc', hext⟩

/-- A function as a value: eleven cells, of which parameters, results and locals are looked at. -/
def funcV (c0 c1 c2 p r l c6 c7 c8 c9 c10 : Value) : Array Value := #[c0, c1, c2, p, r, l, c6, c7, c8, c9, c10]

theorem cells_three (w : World) (a b c : Value) (t : TypeId) (h : a.oneCell' = true ∧ b.oneCell' = true ∧ c.oneCell' = true) : Cells (w.alloc (.cells #[a, b, c] t)) (some ⟨w.heap.size, 0, none⟩) [a, b, c] := by
  refine ⟨fun _ => ⟨_, _, rfl⟩, fun b off e j u hu => ?_⟩
  simp only [Option.some.injEq, Addr.mk.injEq, and_true] at e
  obtain ⟨rfl, rfl⟩ := e
  rw [Nat.zero_add, World.cell?_alloc_mark]
  simpa using hu

set_option maxHeartbeats 1000000 in
set_option maxRecDepth 20000 in
theorem sig_Slots (a1 a2 a3 : Option Addr) (k1 k2 k3 : Nat) (l1 l2 l3 : List Int) (c0 c1 c2 c6 c7 c8 c9 c10 : Value) (w : World) (h1 : Cells w a1 (l1.map (.int .i64))) (h2 : Cells w a2 (l2.map (.int .i64))) (h3 : Cells w a3 (l3.map (.int .i64)))
    (hl : l1.length + l2.length + l3.length ≤ 17592186044416) :
    Calls Try.prog 27 #[.agg #[c0, c1, c2, .slice a1 l1.length k1, .slice a2 l2.length k2, .slice a3 l3.length k3, c6, c7, c8, c9, c10]] w fun e w' =>
      ∃ ao cap, e = .returned (.slice ao (l1.length + (l2.length + l3.length)) cap) ∧ Cells w' ao ((l1 ++ (l2 ++ l3)).map (.int .i64)) ∧ Ext w w' := by
  go_enter Try.func27, Try.ntmps27
  go_wp2_with fail
  have hb0 := (((Ext.rf w).al (.cells #[c0, c1, c2, .slice a1 l1.length k1, .slice a2 l2.length k2, .slice a3 l3.length k3, c6, c7, c8, c9, c10] 45)).al (.cells #[.slice a1 l1.length k1, .slice a2 l2.length k2, .slice a3 l3.length k3] 23))
  refine (sig_join _ _ [.slice a1 l1.length k1, .slice a2 l2.length k2, .slice a3 l3.length k3] [l1, l2, l3] _ (by have := cells_three (w.alloc (.cells #[c0, c1, c2, .slice a1 l1.length k1, .slice a2 l2.length k2, .slice a3 l3.length k3, c6, c7, c8, c9, c10] 45)) (.slice a1 l1.length k1) (.slice a2 l2.length k2) (.slice a3 l3.length k3) 23 ⟨rfl, rfl, rfl⟩; simpa using this) rfl ?_ (by simp; omega) (by simp)).mono ?_
  · intro i h1' h2'
    match i, h1' with
    | 0, _ => exact ⟨a1, k1, rfl, h1.ext hb0⟩
    | 1, _ => exact ⟨a2, k2, rfl, h2.ext hb0⟩
    | 2, _ => exact ⟨a3, k3, rfl, h3.ext hb0⟩
  rintro e w1 ⟨ao, cap, rfl, hc, hb⟩
  go_wp2_with fail
  go_ret
  exact ⟨ao, cap, by simp, by simpa using hc, hb0.tr hb⟩

set_option maxHeartbeats 1000000 in
set_option maxRecDepth 20000 in
theorem sigref_Slots (a1 a2 a3 : Option Addr) (k1 k2 k3 : Nat) (l1 l2 l3 : List Int) (c0 c1 c2 c6 c7 c8 c9 c10 : Value) (w : World) (h1 : Cells w a1 (l1.map (.int .i64))) (h2 : Cells w a2 (l2.map (.int .i64))) (h3 : Cells w a3 (l3.map (.int .i64)))
    (hl : l1.length + l2.length + l3.length ≤ 17592186044416) :
    Calls Try.prog 28 #[.agg #[c0, c1, c2, .slice a1 l1.length k1, .slice a2 l2.length k2, .slice a3 l3.length k3, c6, c7, c8, c9, c10]] w fun e w' =>
      ∃ ao cap, e = .returned (.slice ao (l1.length + (l2.length + l3.length)) cap) ∧ Cells w' ao ((l1 ++ (l2 ++ l3)).map (.int .i64)) ∧ Ext w w' := by
  have hb0 := (Ext.rf w).al (.cells #[c0, c1, c2, .slice a1 l1.length k1, .slice a2 l2.length k2, .slice a3 l3.length k3, c6, c7, c8, c9, c10] 45)
  have d0 := alloc_new w (.cells #[c0, c1, c2, .slice a1 l1.length k1, .slice a2 l2.length k2, .slice a3 l3.length k3, c6, c7, c8, c9, c10] 45)
  have g1 := h1.ext hb0
  have g2 := h2.ext hb0
  have g3 := h3.ext hb0
  have n0 := World.ownsRow_nil (w.alloc (.cells #[c0, c1, c2, .slice a1 l1.length k1, .slice a2 l2.length k2, .slice a3 l3.length k3, c6, c7, c8, c9, c10] 45)) (w.heap.size + 1) 66 1
  go_enter Try.func28, Try.ntmps28
  go_wp2_with (first
    | (at_builtin; (refine wpList_appendAll rfl (.tmp 4) (.tmp 6) 23 rfl (w.heap.size + 1) 66 (.int .i64 0) 1 8 Try.underlying23 (by kernel_rfl) rfl (by decide) _ 0 _ a1 l1.length _ (l1.map (.int .i64)) rfl n0 rfl g1 (by simp) (by intro u hu; simp only [List.mem_map] at hu; obtain ⟨_, _, rfl⟩ := hu; rfl) (by unfold maxLen; omega) (by omega) (by simp) ?_; intro v' w1 hown1 hgr; have hext1 := hb0.push n0 (Nat.le_succ _) hgr; have e1 : w.heap.size + 1 ≤ w1.heap.size := (by have := hgr.size; simp at this; omega); have d1 := push_keeps n0 hgr (Nat.lt_succ_self _) d0; have c11 := blk d1 3 rfl; have c12 := blk d1 4 rfl; have c13 := blk d1 5 rfl; have g12 := h2.ext hext1; have g13 := h3.ext hext1; simp only [Nat.zero_add, List.nil_append] at hown1; clear g1 hgr))
    | (at_builtin; (refine wpList_appendAll rfl (.tmp 8) (.tmp 10) 23 rfl (w.heap.size + 1) 66 (.int .i64 0) 1 8 Try.underlying23 (by kernel_rfl) rfl (by decide) _ l1.length _ a2 l2.length _ (l2.map (.int .i64)) rfl hown1 rfl g12 (by simp) (by intro u hu; simp only [List.mem_map] at hu; obtain ⟨_, _, rfl⟩ := hu; rfl) (by unfold maxLen; omega) (by omega) e1 ?_; intro v' w2 hown2 hgr; have hext2 := hext1.push hown1 (Nat.le_succ _) hgr; have e2 : w.heap.size + 1 ≤ w2.heap.size := (by have := hgr.size; omega); have d2 := push_keeps hown1 hgr (Nat.lt_succ_self _) d1; have c23 := blk d2 5 rfl; have g23 := h3.ext hext2; clear hgr))
    | (at_builtin; (refine wpList_appendAll rfl (.tmp 12) (.tmp 14) 23 rfl (w.heap.size + 1) 66 (.int .i64 0) 1 8 Try.underlying23 (by kernel_rfl) rfl (by decide) _ (l1.length + l2.length) _ a3 l3.length _ (l3.map (.int .i64)) rfl hown2 rfl g23 (by simp) (by intro u hu; simp only [List.mem_map] at hu; obtain ⟨_, _, rfl⟩ := hu; rfl) (by unfold maxLen; omega) (by omega) e2 ?_; intro v' w3 hown3 hgr; have hext3 := hext2.push hown2 (Nat.le_succ _) hgr; skip; clear hgr)))
  go_ret
  obtain ⟨ao, cap, hv, -, -, hc⟩ := Cells.own hown3
  exact ⟨ao, cap, by rw [← Nat.add_assoc, ← hv]; rfl, by simpa using hc, hext3⟩

theorem sig_First (a1 : Option Addr) (k1 : Nat) (l1 : List Int) (c0 c1 c2 c4 c5 c6 c7 c8 c9 c10 : Value) (w : World) :
    Calls Try.prog 29 #[.agg #[c0, c1, c2, .slice a1 l1.length k1, c4, c5, c6, c7, c8, c9, c10]] w fun e w' => e = .returned (.int .i64 l1.length) ∧ Ext w w' := by
  go_enter Try.func29, Try.ntmps29
  go_wp2
  go_ret
  exact ⟨rfl, (Ext.rf w).al _⟩

theorem sigref_SameN (ao bo : Option Addr) (ca cb n m : Nat) (l : List Int) (w : World) (hl : Cells w ao (l.map (.int .i64))) (hm : Cells w bo (l.map (.int .i64))) (hn : n = l.length) (hmm : m = l.length) (hlen : l.length ≤ 17592186044416) :
    Calls Try.prog 19 #[.slice ao n ca, .slice bo m cb] w fun e w' => e = .returned (.bool true) ∧ Ext w w' := by
  subst hn
  subst hmm
  have := sigref_Same ao bo ca cb l l w hl hm hlen hlen
  rwa [decide_eq_true rfl] at this

set_option maxHeartbeats 4000000 in
set_option maxRecDepth 20000 in
theorem SigSlots_walk (ao0 : Option Addr) (cap0 : Nat) (l0 : List Int) (ao1 : Option Addr) (cap1 : Nat) (l1 : List Int) (ao2 : Option Addr) (cap2 : Nat) (l2 : List Int) (w : World)
    (hl0 : Cells w ao0 (l0.map (.int .i64))) (hb0 : ∀ n ∈ l0, (Lit.int .i64 n).wf = true) (hl1 : Cells w ao1 (l1.map (.int .i64))) (hb1 : ∀ n ∈ l1, (Lit.int .i64 n).wf = true) (hl2 : Cells w ao2 (l2.map (.int .i64))) (hb2 : ∀ n ∈ l2, (Lit.int .i64 n).wf = true) :
    Calls Try.prog 5 #[.slice ao0 l0.length cap0, .slice ao1 l1.length cap1, .slice ao2 l2.length cap2] w fun e w' => e = .returned (.bool true) ∧ Ext w w' := by
  clear hb0 hb1 hb2
  by_cases h3 : 100 < l0.length ∨ 100 < l1.length ∨ 100 < l2.length
  · have hq : 100 < l0.length ∨ (l0.length ≤ 100 ∧ 100 < l1.length) ∨ (l0.length ≤ 100 ∧ l1.length ≤ 100 ∧ 100 < l2.length) := by omega
    clear h3
    rcases hq with h | ⟨h, h'⟩ | ⟨h, h', h''⟩
    all_goals
      go_enter Try.func5, Try.ntmps5
      go_wp2_with fail
      refine (sig_lives _).mono ?_
      rintro e w1 ⟨rfl, hb⟩
      go_wp2_with fail
      go_ret
      exact ⟨rfl, hb⟩
  · obtain ⟨h4, h5, h6⟩ : l0.length ≤ 100 ∧ l1.length ≤ 100 ∧ l2.length ≤ 100 := by omega
    clear h3
    have hx0 := ((Ext.rf w).al (.cells #[.string ByteArray.empty, .bool false, .slice none 0 0, .slice ao0 l0.length cap0, .slice ao1 l1.length cap1, .slice ao2 l2.length cap2, .slice none 0 0, .slice none 0 0, .slice none 0 0, .slice none 0 0, .slice none 0 0] 45)).dr
    have d0 : (w.alloc (.cells #[.string ByteArray.empty, .bool false, .slice none 0 0, .slice ao0 l0.length cap0, .slice ao1 l1.length cap1, .slice ao2 l2.length cap2, .slice none 0 0, .slice none 0 0, .slice none 0 0, .slice none 0 0, .slice none 0 0] 45)).drew.heap[w.heap.size]? = _ := alloc_new w _
    have p0 := hl0.ext hx0
    have p1 := hl1.ext hx0
    have p2 := hl2.ext hx0
    go_enter Try.func5, Try.ntmps5
    go_wp2_with fail
    go_region_held3 (fun w' => w'.cell? ⟨w.heap.size, 0, none⟩ = some (.string ByteArray.empty) ∧ w'.cell? ⟨w.heap.size, 1, none⟩ = some (.bool false) ∧ w'.cell? ⟨w.heap.size, 2, none⟩ = some (.slice none 0 0) ∧ w'.cell? ⟨w.heap.size, 3, none⟩ = some (.slice ao0 l0.length cap0) ∧ w'.cell? ⟨w.heap.size, 4, none⟩ = some (.slice ao1 l1.length cap1) ∧ w'.cell? ⟨w.heap.size, 5, none⟩ = some (.slice ao2 l2.length cap2) ∧ w'.cell? ⟨w.heap.size, 6, none⟩ = some (.slice none 0 0) ∧ w'.cell? ⟨w.heap.size, 7, none⟩ = some (.slice none 0 0) ∧ w'.cell? ⟨w.heap.size, 8, none⟩ = some (.slice none 0 0) ∧ w'.cell? ⟨w.heap.size, 9, none⟩ = some (.slice none 0 0) ∧ w'.cell? ⟨w.heap.size, 10, none⟩ = some (.slice none 0 0)) (first | exact ⟨blk d5 0 rfl, blk d5 1 rfl, blk d5 2 rfl, blk d5 3 rfl, blk d5 4 rfl, blk d5 5 rfl, blk d5 6 rfl, blk d5 7 rfl, blk d5 8 rfl, blk d5 9 rfl, blk d5 10 rfl⟩ | exact ⟨blk d4 0 rfl, blk d4 1 rfl, blk d4 2 rfl, blk d4 3 rfl, blk d4 4 rfl, blk d4 5 rfl, blk d4 6 rfl, blk d4 7 rfl, blk d4 8 rfl, blk d4 9 rfl, blk d4 10 rfl⟩ | exact ⟨blk d3 0 rfl, blk d3 1 rfl, blk d3 2 rfl, blk d3 3 rfl, blk d3 4 rfl, blk d3 5 rfl, blk d3 6 rfl, blk d3 7 rfl, blk d3 8 rfl, blk d3 9 rfl, blk d3 10 rfl⟩ | exact ⟨blk d2 0 rfl, blk d2 1 rfl, blk d2 2 rfl, blk d2 3 rfl, blk d2 4 rfl, blk d2 5 rfl, blk d2 6 rfl, blk d2 7 rfl, blk d2 8 rfl, blk d2 9 rfl, blk d2 10 rfl⟩ | exact ⟨blk d1 0 rfl, blk d1 1 rfl, blk d1 2 rfl, blk d1 3 rfl, blk d1 4 rfl, blk d1 5 rfl, blk d1 6 rfl, blk d1 7 rfl, blk d1 8 rfl, blk d1 9 rfl, blk d1 10 rfl⟩ | exact ⟨blk d0 0 rfl, blk d0 1 rfl, blk d0 2 rfl, blk d0 3 rfl, blk d0 4 rfl, blk d0 5 rfl, blk d0 6 rfl, blk d0 7 rfl, blk d0 8 rfl, blk d0 9 rfl, blk d0 10 rfl⟩)
      (first
        | (go_at_call 27; refine (sig_Slots ao0 ao1 ao2 cap0 cap1 cap2 l0 l1 l2 _ _ _ _ _ _ _ _ _ p0 p1 p2 (by omega)).mono ?_; rintro e w1 ⟨bo, bc, rfl, hc1, hx1⟩; have d1 := hx1.blk d0)
        | (go_at_call 28; refine (sigref_Slots ao0 ao1 ao2 cap0 cap1 cap2 l0 l1 l2 _ _ _ _ _ _ _ _ _ (p0.ext hx1) (p1.ext hx1) (p2.ext hx1) (by omega)).mono ?_; rintro e w2 ⟨co, cc, rfl, hc2, hx2⟩; have d2 := hx2.blk d1)
        | (go_at_call 19; refine (sigref_SameN bo co bc cc _ _ (l0 ++ (l1 ++ l2)) _ (hc1.ext hx2) hc2 (by simp) (by simp) (by simp; omega)).mono ?_; rintro e w3 ⟨rfl, hx3⟩; have d3 := hx3.blk d2)
        | (go_at_call 29; refine (sig_First ao0 cap0 l0 _ _ _ _ _ _ _ _ _ _ _).mono ?_; rintro e w4 ⟨rfl, hx4⟩; have d4 := hx4.blk d3)
        | (go_at_call 16; refine (sig_lives _).mono ?_; rintro e w5 ⟨rfl, hx5⟩; have d5 := hx5.blk d4))
    go_wp2_with fail
    go_ret
    exact ⟨rfl, ((((hx0.tr hx1).tr hx2).tr hx3).tr hx4).tr hx5⟩
end Go.Proofs.Ytfeddkfpkdjbeaa
