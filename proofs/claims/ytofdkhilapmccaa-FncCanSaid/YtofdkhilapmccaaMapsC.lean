/- Tables of sets: the counting. -/
import Derived.Test.YtofdkhilapmccaaMapsP
import Derived.Test.YtofdkhilapmccaaFncP
import Derived.Test.YtofdkhilapmccaaTreeU
namespace Go.Proofs.Ytofdkhilapmccaa
open Go.RowKit

def lastC (acc : List CntT) : List Value := match acc.getLast? with
  | some c => cntC c
  | none => zeroC
theorem lastC_snoc (A : List CntT) (c : CntT) : lastC (A ++ [c]) = cntC c := by simp [lastC]

theorem own_mono {w : World} {base base' : Nat} {e : TypeId} {size : Nat} {v : Value} {n : Nat} {xs : List Value} (h : w.ownsRow base e size v n xs) (hb : base' ≤ base) : w.ownsRow base' e size v n xs :=
  ⟨h.1, h.2.imp id fun ⟨g, cap, cur, h1, h2, h3⟩ => ⟨g, cap, cur, h1, Nat.le_trans hb h2, h3⟩⟩

theorem flat5 (A : List CntT) : (A.flatMap cntC).length = A.length * 5 := by
  induction A with
  | nil => rfl
  | cons a A ih => rw [List.flatMap_cons, List.length_append, ih, List.length_cons]; simp only [cntC, setC, List.length_append, List.length_cons, List.length_nil]; omega
theorem own_at {w : World} {base : Nat} {e : TypeId} {size g cap n : Nat} {xs : List Value} (h : w.ownsRow base e size (.slice (some ⟨g, 0, none⟩) n cap) n xs) {j : Nat} {u : Value} (hj : xs[j]? = some u) : w.cell? ⟨g, j, none⟩ = some u := by
  have := h.cells rfl j u hj
  by_cases h0 : j = 0
  · subst h0; simpa [Addr.add] using this
  · simpa [Addr.add, h0] using this

theorem box_cnt {W : World} {g : Nat} {c0 : List Value} (hc : c0.length = 5) {t : TypeId} (h : W.heap[g]? = some (.cells c0.toArray t (0, 0))) (s : SetT) (m : Int) (hm : ∃ n : Nat, m = n) :
    (((((W.setCell ⟨g, 0, none⟩ (.int .u64 s.a)).setCell ⟨g, 1, none⟩ (.int .u64 s.b)).setCell ⟨g, 2, none⟩ (.int .u64 s.c)).setCell ⟨g, 3, none⟩ (.int .u64 s.d)).setCell ⟨g, 4, none⟩ (.int .i64 m)).heap[g]? = some (.cells (cntC (s, m.toNat)).toArray t (0, 0)) := by
  obtain ⟨n, rfl⟩ := hm
  obtain ⟨a, b, c, d, e, rfl⟩ : ∃ a b c d e, c0 = [a, b, c, d, e] := by
    match c0, hc with
    | [a, b, c, d, e], _ => exact ⟨a, b, c, d, e, rfl⟩
  exact blk_set (blk_set (blk_set (blk_set (blk_set h 0 _) 1 _) 2 _) 3 _) 4 _

set_option maxHeartbeats 4000000 in
set_option maxRecDepth 20000 in
theorem maps_count (ao : Option Addr) (cap : Nat) (l : List SetT) (w : World) (hc : Cells w ao (l.flatMap setC)) (hl : l.length ≤ 4294967296) (hv : ∀ s ∈ l, Set64 s) :
    Calls Try.prog 163 #[.slice ao l.length cap] w fun e w' => ∃ v, e = .returned v ∧ w'.ownsRow w.heap.size 177 5 v (cnts l).length ((cnts l).flatMap cntC) ∧ Ext w w' := by
  have HV := Lib.hid hv
  clear hv
  go_enter Try.func163, Try.ntmps163
  go_upto_region 3 with fail
  have hx0 := (Ext.rf w).al (.cells zeroC.toArray 177)
  have hblk := alloc_new w (.cells zeroC.toArray 177)
  have hs0 : w.heap.size + 1 ≤ (w.alloc (.cells zeroC.toArray 177)).heap.size := by simp
  simp only [zeroC] at hx0 hblk hs0
  generalize w.alloc (.cells [Value.int .u64 0, Value.int .u64 0, Value.int .u64 0, Value.int .u64 0, Value.int .i64 0].toArray 177) = W0 at *
  have hown0 := World.ownsRow_nil W0 (w.heap.size + 1) 177 5
  have HBLK := Lib.hid hblk
  have HX0 := Lib.hid hx0
  clear hblk hx0
  go_wp2_with fail
  go_loopw [3, 10] (fun v i wr => ∃ k : Nat, k ≤ l.length ∧ i = .int .i64 k ∧ wr.ownsRow (w.heap.size + 1) 177 5 v (cnts (l.take k)).length ((cnts (l.take k)).flatMap cntC) ∧ Ext w wr ∧ w.heap.size + 1 ≤ wr.heap.size ∧ Hid (wr.heap[w.heap.size]? = some (.cells (lastC (cnts (l.take k))).toArray 177 (0, 0))))
    (fun _ i _ => l.length - (intOf i).toNat)
  case atStart => exact ⟨0, Nat.zero_le _, rfl, hown0, HX0.out, hs0, HBLK.out⟩
  case round =>
    clear hown0 hs0
    obtain ⟨k, hk, rfl, hownk, hext, hbs, hblk⟩ := hrel
    by_cases hlt : k < l.length
    · obtain ⟨b, off, rfl, hcl⟩ := (hc.ext hext).flat (enc := setC) (size := 4) (fun _ => rfl) hlt (by decide)
      have HS := Lib.hid (cnts_take hlt)
      obtain ⟨hn1, hn2⟩ := cnts_inv (l.take k)
      rw [List.length_take] at hn1
      have HN : Hid (∀ c ∈ cnts (l.take k), 1 ≤ c.2 ∧ c.2 ≤ k) := fun c hc => by
        have := hn2 c hc; rw [List.length_take] at this; omega
      have hnk : (cnts (l.take k)).length ≤ k := by omega
      generalize l[k] = s at *
      clear hn1 hn2
      generalize cnts (l.take k) = acc at *
      have e0 : wr.cell? ⟨b, off + k * 4, none⟩ = some (.int .u64 s.a) := by exact hcl 0 _ rfl
      have e1 : wr.cell? ⟨b, off + k * 4 + 1, none⟩ = some (.int .u64 s.b) := by rw [Nat.add_assoc]; exact hcl 1 _ rfl
      have e2 : wr.cell? ⟨b, off + k * 4 + 2, none⟩ = some (.int .u64 s.c) := by rw [Nat.add_assoc]; exact hcl 2 _ rfl
      have e3 : wr.cell? ⟨b, off + k * 4 + 3, none⟩ = some (.int .u64 s.d) := by rw [Nat.add_assoc]; exact hcl 3 _ rfl
      clear hcl
      go_upto_region 6 with fail
      have hown1 := hownk.alloc (.cells ([.int .u64 s.a, .int .u64 s.b, .int .u64 s.c, .int .u64 s.d] : List Value).toArray 43)
      obtain ⟨hx0, hz0, hcA⟩ := one_box wr ([.int .u64 s.a, .int .u64 s.b, .int .u64 s.c, .int .u64 s.d] : List Value) 43
      generalize hW1 : wr.alloc (.cells ([.int .u64 s.a, .int .u64 s.b, .int .u64 s.c, .int .u64 s.d] : List Value).toArray 43) = W1 at *
      clear hW1
      have c0 : W1.cell? ⟨wr.heap.size, 0, none⟩ = some (.int .u64 s.a) := by have := hcA.cell _ _ rfl 0 _ rfl; rwa [Nat.zero_add] at this
      have c1 : W1.cell? ⟨wr.heap.size, 1, none⟩ = some (.int .u64 s.b) := by have := hcA.cell _ _ rfl 1 _ rfl; rwa [Nat.zero_add] at this
      have c2 : W1.cell? ⟨wr.heap.size, 2, none⟩ = some (.int .u64 s.c) := by have := hcA.cell _ _ rfl 2 _ rfl; rwa [Nat.zero_add] at this
      have c3 : W1.cell? ⟨wr.heap.size, 3, none⟩ = some (.int .u64 s.d) := by have := hcA.cell _ _ rfl 3 _ rfl; rwa [Nat.zero_add] at this
      clear hcA
      have HB1 := Lib.hid (hx0.blk hblk.out)
      have HX1 := Lib.hid (hext.tr hx0)
      have hb1 : w.heap.size + 1 ≤ W1.heap.size := by omega
      have fz : ∀ j, W1.frozen? ⟨w.heap.size, j, none⟩ = false := fun j => frozen_of_row _ _ _ _ _ HB1.out
      clear hownk hext hblk e0 e1 e2 e3 hx0
      rcases List.eq_nil_or_concat acc with rfl | ⟨A, ⟨t, m⟩, rfl⟩
      · have d4 : W1.cell? ⟨w.heap.size, 4, none⟩ = some (.int .i64 0) := blk HB1.out 4 rfl
        have d0 : W1.cell? ⟨w.heap.size, 0, none⟩ = some (.int .u64 0) := blk HB1.out 0 rfl
        have d1 : W1.cell? ⟨w.heap.size, 1, none⟩ = some (.int .u64 0) := blk HB1.out 1 rfl
        have d2 : W1.cell? ⟨w.heap.size, 2, none⟩ = some (.int .u64 0) := blk HB1.out 2 rfl
        have d3 : W1.cell? ⟨w.heap.size, 3, none⟩ = some (.int .u64 0) := blk HB1.out 3 rfl
        have HA : Hid (cnts (l.take (k + 1)) = [] ++ [(s, 1)]) := HS.out
        go_upto_region 10 with fail
        have hb5 := box_cnt (by first | rfl | simp [lastC, cntC, setC]) HB1.out s 1 ⟨1, rfl⟩
        have hx5 := ((((HX1.out.set (Nat.le_refl w.heap.size) 0 (.int .u64 s.a)).set (Nat.le_refl w.heap.size) 1 (.int .u64 s.b)).set (Nat.le_refl w.heap.size) 2 (.int .u64 s.c)).set (Nat.le_refl w.heap.size) 3 (.int .u64 s.d)).set (Nat.le_refl w.heap.size) 4 (.int .i64 1)
        have hown5 := ownsRow_setCell_below (ownsRow_setCell_below (ownsRow_setCell_below (ownsRow_setCell_below (ownsRow_setCell_below hown1 (a := ⟨w.heap.size, 0, none⟩) (Nat.lt_succ_self _) (.int .u64 s.a)) (a := ⟨w.heap.size, 1, none⟩) (Nat.lt_succ_self _) (.int .u64 s.b)) (a := ⟨w.heap.size, 2, none⟩) (Nat.lt_succ_self _) (.int .u64 s.c)) (a := ⟨w.heap.size, 3, none⟩) (Nat.lt_succ_self _) (.int .u64 s.d)) (a := ⟨w.heap.size, 4, none⟩) (Nat.lt_succ_self _) (.int .i64 1)
        have hs5 : w.heap.size + 1 ≤ (((((W1.setCell ⟨w.heap.size, 0, none⟩ (.int .u64 s.a)).setCell ⟨w.heap.size, 1, none⟩ (.int .u64 s.b)).setCell ⟨w.heap.size, 2, none⟩ (.int .u64 s.c)).setCell ⟨w.heap.size, 3, none⟩ (.int .u64 s.d)).setCell ⟨w.heap.size, 4, none⟩ (.int .i64 1)).heap.size := by simpa using hb1
        generalize (((((W1.setCell ⟨w.heap.size, 0, none⟩ (.int .u64 s.a)).setCell ⟨w.heap.size, 1, none⟩ (.int .u64 s.b)).setCell ⟨w.heap.size, 2, none⟩ (.int .u64 s.c)).setCell ⟨w.heap.size, 3, none⟩ (.int .u64 s.d)).setCell ⟨w.heap.size, 4, none⟩ (.int .i64 1)) = W5 at *
        rw [show ((1 : Int).toNat) = 1 from rfl] at hb5
        have g0 : W5.cell? ⟨w.heap.size, 0, none⟩ = some (.int .u64 s.a) := blk hb5 0 rfl
        have g1 : W5.cell? ⟨w.heap.size, 1, none⟩ = some (.int .u64 s.b) := blk hb5 1 rfl
        have g2 : W5.cell? ⟨w.heap.size, 2, none⟩ = some (.int .u64 s.c) := blk hb5 2 rfl
        have g3 : W5.cell? ⟨w.heap.size, 3, none⟩ = some (.int .u64 s.d) := blk hb5 3 rfl
        have g4 : W5.cell? ⟨w.heap.size, 4, none⟩ = some (.int .i64 1) := blk hb5 4 rfl
        have HB5 := Lib.hid hb5
        have HX5 := Lib.hid hx5
        clear hb5 hx5 HB1 HX1 hown1 hb1 fz c0 c1 c2 c3
        go_upto_region 11 with (at_builtin; (refine wpList_push rfl (.tmp 35) (.tmp 37) 174 rfl (w.heap.size + 1) 177 177 (.agg #[.int .u64 0, .int .u64 0, .int .u64 0, .int .u64 0, .int .i64 0]) 5 40 Try.underlying174 (by kernel_rfl) rfl (by decide) _ ([]).length _ (cntC (s, 1)) rfl hown5 _ rfl (by simp) rfl (by simp [cntC, setC, Value.oneCell']) (by unfold maxLen; omega) (by omega) hs5 ?_; intro v' w6 hown6 hgr'; have hgr := Lib.hid hgr'; clear hgr'))
        have HB6 := Lib.hid (push_keeps hown5 hgr.out (Nat.lt_succ_self _) HB5.out)
        have hx6 := HX5.out.push hown5 (Nat.le_succ _) hgr.out
        have hs6 := Nat.le_trans hs5 hgr.out.size
        clear hgr HB5 HX5 hown5 hs5 g0 g1 g2 g3 g4
        go_wp2_with fail
        go_roundw
        case rel => exact ⟨k + 1, by omega, by go_num, by rw [HA.out, List.length_append, List.flatMap_append, List.flatMap_singleton]; exact hown6, hx6, hs6, by rw [HA.out, lastC_snoc]; exact HB6⟩
        case measure => simp [intOf]; omega
      · rw [List.concat_eq_append] at *
        have hm1 := HN.out (t, m) (by simp)
        rw [lastC_snoc] at HB1
        have d0 : W1.cell? ⟨w.heap.size, 0, none⟩ = some (.int .u64 t.a) := blk HB1.out 0 rfl
        have d1 : W1.cell? ⟨w.heap.size, 1, none⟩ = some (.int .u64 t.b) := blk HB1.out 1 rfl
        have d2 : W1.cell? ⟨w.heap.size, 2, none⟩ = some (.int .u64 t.c) := blk HB1.out 2 rfl
        have d3 : W1.cell? ⟨w.heap.size, 3, none⟩ = some (.int .u64 t.d) := blk HB1.out 3 rfl
        have d4 : W1.cell? ⟨w.heap.size, 4, none⟩ = some (.int .i64 m) := blk HB1.out 4 rfl
        have tm : decide ((0 : Int) < m) = true := decide_eq_true (by have := hm1.1; simp only at this; omega)
        have tn : decide (0 < m) = true := decide_eq_true hm1.1
        have hq := fun W => run_eql_arr (P := Try.prog) (k := .u64) (t := 43) (e := 41) (n := 4) Try.underlying43 Try.underlying41 (fun _ => by kernel_rfl) W (setI t) (setI s) rfl rfl
        by_cases hts : t = s
        · subst hts
          have hne : decide (setI t = setI t) = true := decide_eq_true rfl
          simp only [hne] at hq
          simp only [setI, List.map_cons, List.map_nil] at hq
          have HA : Hid (cnts (l.take (k + 1)) = A ++ [(t, m + 1)]) := HS.out.trans (cntS_eq A t m)
          clear hne
          have hkm : m ≤ 4294967296 := by have := hm1.2; simp only at this; omega
          have hlA : (A ++ [(t, m)]).length = A.length + 1 := by simp
          rw [hlA, List.flatMap_append, List.flatMap_singleton] at hown1
          obtain ⟨gr, rc, rfl⟩ := own_some hown1 (Nat.succ_pos _)
          go_upto_region 8 with fail
          have hown7 := ownsRow_setCell_below hown1 (a := ⟨w.heap.size, 4, none⟩) (Nat.lt_succ_self _) (.int .i64 ((m : Int) + 1))
          have hb7 : (W1.setCell ⟨w.heap.size, 4, none⟩ (.int .i64 ((m : Int) + 1))).heap[w.heap.size]? = some (.cells (cntC (t, m + 1)).toArray 177 (0, 0)) := blk_set HB1.out 4 _
          have hx7 := HX1.out.set (Nat.le_refl w.heap.size) 4 (.int .i64 ((m : Int) + 1))
          have hs7 : w.heap.size + 1 ≤ (W1.setCell ⟨w.heap.size, 4, none⟩ (.int .i64 ((m : Int) + 1))).heap.size := by simpa using hb1
          generalize W1.setCell ⟨w.heap.size, 4, none⟩ (.int .i64 ((m : Int) + 1)) = W7 at *
          have HB7 := Lib.hid hb7
          have HX7 := Lib.hid hx7
          have g0 : W7.cell? ⟨w.heap.size, 0, none⟩ = some (.int .u64 t.a) := blk hb7 0 rfl
          have g1 : W7.cell? ⟨w.heap.size, 1, none⟩ = some (.int .u64 t.b) := blk hb7 1 rfl
          have g2 : W7.cell? ⟨w.heap.size, 2, none⟩ = some (.int .u64 t.c) := blk hb7 2 rfl
          have g3 : W7.cell? ⟨w.heap.size, 3, none⟩ = some (.int .u64 t.d) := blk hb7 3 rfl
          have g4 : W7.cell? ⟨w.heap.size, 4, none⟩ = some (.int .i64 ((m : Int) + 1)) := blk hb7 4 rfl
          have hAl := flat5 A
          have hfr : ∀ j, W7.frozen? ⟨gr, j, none⟩ = false := fun j => hown7.frozenAt j
          have hcc : ∀ j u, (cntC (t, m))[j]? = some u → W7.cell? ⟨gr, A.length * 5 + j, none⟩ = some u := fun j u h => by
            exact own_at hown7 (j := A.length * 5 + j) (by rw [List.getElem?_append_right (by omega), hAl, Nat.add_sub_cancel_left]; exact h)
          have q0 : W7.cell? ⟨gr, A.length * 5, none⟩ = some (.int .u64 t.a) := hcc 0 _ rfl
          have q1 : W7.cell? ⟨gr, A.length * 5 + 1, none⟩ = some (.int .u64 t.b) := hcc 1 _ rfl
          have q2 : W7.cell? ⟨gr, A.length * 5 + 2, none⟩ = some (.int .u64 t.c) := hcc 2 _ rfl
          have q3 : W7.cell? ⟨gr, A.length * 5 + 3, none⟩ = some (.int .u64 t.d) := hcc 3 _ rfl
          have q4 : W7.cell? ⟨gr, A.length * 5 + 4, none⟩ = some (.int .i64 m) := hcc 4 _ rfl
          have hgr := (hown7.lt gr rfl).1
          have hA4 : A.length ≤ 4294967296 := by rw [hlA] at hnk; omega
          clear hcc hown1 hb1 fz c0 c1 c2 c3 d0 d1 d2 d3 d4 HB1 HX1 hb7 hx7 hq tm tn
          go_upto_region 11 with fail
          have hown8 := own_last5 (a' := .int .u64 t.a) (b' := .int .u64 t.b) (c' := .int .u64 t.c) (d' := .int .u64 t.d) (m' := .int .i64 ((m : Int) + 1)) hAl hown7
          have HB8 := Lib.hid (blk_other (blk_other (blk_other (blk_other (blk_other HB7.out (A.length * 5) (.int .u64 t.a) (by omega : w.heap.size ≠ gr)) (A.length * 5 + 1) (.int .u64 t.b) (by omega : w.heap.size ≠ gr)) (A.length * 5 + 2) (.int .u64 t.c) (by omega : w.heap.size ≠ gr)) (A.length * 5 + 3) (.int .u64 t.d) (by omega : w.heap.size ≠ gr)) (A.length * 5 + 4) (.int .i64 ((m : Int) + 1)) (by omega : w.heap.size ≠ gr))
          have hx8 := ((((HX7.out.set (by omega : w.heap.size ≤ gr) (A.length * 5) (.int .u64 t.a)).set (by omega : w.heap.size ≤ gr) (A.length * 5 + 1) (.int .u64 t.b)).set (by omega : w.heap.size ≤ gr) (A.length * 5 + 2) (.int .u64 t.c)).set (by omega : w.heap.size ≤ gr) (A.length * 5 + 3) (.int .u64 t.d)).set (by omega : w.heap.size ≤ gr) (A.length * 5 + 4) (.int .i64 ((m : Int) + 1))
          have hs8 : w.heap.size + 1 ≤ (((((W7.setCell ⟨gr, A.length * 5, none⟩ (.int .u64 t.a)).setCell ⟨gr, A.length * 5 + 1, none⟩ (.int .u64 t.b)).setCell ⟨gr, A.length * 5 + 2, none⟩ (.int .u64 t.c)).setCell ⟨gr, A.length * 5 + 3, none⟩ (.int .u64 t.d)).setCell ⟨gr, A.length * 5 + 4, none⟩ (.int .i64 ((m : Int) + 1))).heap.size := by simpa using hs7
          generalize (((((W7.setCell ⟨gr, A.length * 5, none⟩ (.int .u64 t.a)).setCell ⟨gr, A.length * 5 + 1, none⟩ (.int .u64 t.b)).setCell ⟨gr, A.length * 5 + 2, none⟩ (.int .u64 t.c)).setCell ⟨gr, A.length * 5 + 3, none⟩ (.int .u64 t.d)).setCell ⟨gr, A.length * 5 + 4, none⟩ (.int .i64 ((m : Int) + 1))) = W8 at *
          clear hown7 HB7 HX7 hs7 g0 g1 g2 g3 g4 q0 q1 q2 q3 q4 hfr
          go_wp2_with fail
          go_roundw
          case rel => exact ⟨k + 1, by omega, by go_num, by rw [HA.out, List.length_append, List.flatMap_append, List.flatMap_singleton]; exact hown8, hx8, hs8, by rw [HA.out, lastC_snoc]; exact HB8⟩
          case measure => simp [intOf]; omega
        · have HA : Hid (cnts (l.take (k + 1)) = (A ++ [(t, m)]) ++ [(s, 1)]) := HS.out.trans (cntS_ne A m hts)
          have hne : decide (setI t = setI s) = false := decide_eq_false (fun h => hts ((setI_eq t s).mp h))
          simp only [hne] at hq
          simp only [setI, List.map_cons, List.map_nil] at hq
          clear hne hts
          go_upto_region 10 with fail
          have hb5 := box_cnt (by first | rfl | simp [lastC, cntC, setC]) HB1.out s 1 ⟨1, rfl⟩
          have hx5 := ((((HX1.out.set (Nat.le_refl w.heap.size) 0 (.int .u64 s.a)).set (Nat.le_refl w.heap.size) 1 (.int .u64 s.b)).set (Nat.le_refl w.heap.size) 2 (.int .u64 s.c)).set (Nat.le_refl w.heap.size) 3 (.int .u64 s.d)).set (Nat.le_refl w.heap.size) 4 (.int .i64 1)
          have hown5 := ownsRow_setCell_below (ownsRow_setCell_below (ownsRow_setCell_below (ownsRow_setCell_below (ownsRow_setCell_below hown1 (a := ⟨w.heap.size, 0, none⟩) (Nat.lt_succ_self _) (.int .u64 s.a)) (a := ⟨w.heap.size, 1, none⟩) (Nat.lt_succ_self _) (.int .u64 s.b)) (a := ⟨w.heap.size, 2, none⟩) (Nat.lt_succ_self _) (.int .u64 s.c)) (a := ⟨w.heap.size, 3, none⟩) (Nat.lt_succ_self _) (.int .u64 s.d)) (a := ⟨w.heap.size, 4, none⟩) (Nat.lt_succ_self _) (.int .i64 1)
          have hs5 : w.heap.size + 1 ≤ (((((W1.setCell ⟨w.heap.size, 0, none⟩ (.int .u64 s.a)).setCell ⟨w.heap.size, 1, none⟩ (.int .u64 s.b)).setCell ⟨w.heap.size, 2, none⟩ (.int .u64 s.c)).setCell ⟨w.heap.size, 3, none⟩ (.int .u64 s.d)).setCell ⟨w.heap.size, 4, none⟩ (.int .i64 1)).heap.size := by simpa using hb1
          generalize (((((W1.setCell ⟨w.heap.size, 0, none⟩ (.int .u64 s.a)).setCell ⟨w.heap.size, 1, none⟩ (.int .u64 s.b)).setCell ⟨w.heap.size, 2, none⟩ (.int .u64 s.c)).setCell ⟨w.heap.size, 3, none⟩ (.int .u64 s.d)).setCell ⟨w.heap.size, 4, none⟩ (.int .i64 1)) = W5 at *
          rw [show ((1 : Int).toNat) = 1 from rfl] at hb5
          have g0 : W5.cell? ⟨w.heap.size, 0, none⟩ = some (.int .u64 s.a) := blk hb5 0 rfl
          have g1 : W5.cell? ⟨w.heap.size, 1, none⟩ = some (.int .u64 s.b) := blk hb5 1 rfl
          have g2 : W5.cell? ⟨w.heap.size, 2, none⟩ = some (.int .u64 s.c) := blk hb5 2 rfl
          have g3 : W5.cell? ⟨w.heap.size, 3, none⟩ = some (.int .u64 s.d) := blk hb5 3 rfl
          have g4 : W5.cell? ⟨w.heap.size, 4, none⟩ = some (.int .i64 1) := blk hb5 4 rfl
          have HB5 := Lib.hid hb5
          have HX5 := Lib.hid hx5
          clear hb5 hx5 HB1 HX1 hown1 hb1 fz c0 c1 c2 c3
          go_upto_region 11 with (at_builtin; (refine wpList_push rfl (.tmp 35) (.tmp 37) 174 rfl (w.heap.size + 1) 177 177 (.agg #[.int .u64 0, .int .u64 0, .int .u64 0, .int .u64 0, .int .i64 0]) 5 40 Try.underlying174 (by kernel_rfl) rfl (by decide) _ (A ++ [(t, m)]).length _ (cntC (s, 1)) rfl hown5 _ rfl (by simp) rfl (by simp [cntC, setC, Value.oneCell']) (by unfold maxLen; omega) (by omega) hs5 ?_; intro v' w6 hown6 hgr'; have hgr := Lib.hid hgr'; clear hgr'))
          have HB6 := Lib.hid (push_keeps hown5 hgr.out (Nat.lt_succ_self _) HB5.out)
          have hx6 := HX5.out.push hown5 (Nat.le_succ _) hgr.out
          have hs6 := Nat.le_trans hs5 hgr.out.size
          clear hgr HB5 HX5 hown5 hs5 g0 g1 g2 g3 g4
          go_wp2_with fail
          go_roundw
          case rel => exact ⟨k + 1, by omega, by go_num, by rw [HA.out, List.length_append, List.flatMap_append, List.flatMap_singleton]; exact hown6, hx6, hs6, by rw [HA.out, lastC_snoc]; exact HB6⟩
          case measure => simp [intOf]; omega
    · obtain rfl : k = l.length := by omega
      rw [List.take_of_length_le (Nat.le_refl _)] at hownk
      have hown9 := own_mono hownk (Nat.le_succ w.heap.size)
      clear hownk hblk
      obtain ⟨ro, rc, rfl⟩ := own_form hown9
      go_wp2_with fail
      go_ret
      exact ⟨_, rfl, hown9, hext⟩

theorem setI_map (s : SetT) : setI s = (setN s).map (fun (n : Nat) => (n : Int)) := rfl
theorem setN_64 {s : SetT} (h : Set64 s) : ∀ n ∈ setN s, n ≤ 18446744073709551615 := by
  obtain ⟨h1, h2, h3, h4⟩ := h
  intro n hn
  simp only [setN, List.mem_cons, List.not_mem_nil, or_false] at hn
  rcases hn with rfl | rfl | rfl | rfl <;> omega

set_option maxHeartbeats 4000000 in
set_option maxRecDepth 20000 in
theorem maps_Put (base : Nat) (v : Value) (k0 : Nat) (xs : List Value) (ao : Option Addr) (cap : Nat) (l : List SetT) (w : World) (hown : w.ownsRow base 5 1 v k0 xs) (hb : base ≤ w.heap.size) (hk0 : k0 ≤ 4398046511104)
    (hc : Cells w ao (l.flatMap setC)) (hl : l.length ≤ 4294967296) (hv : ∀ s ∈ l, Set64 s) :
    Calls Try.prog 114 #[v, .slice ao l.length cap] w (PutRow base v k0 xs (putMaps l) w) := by
  have HR : Hid (putMaps l = (cnts l).flatMap putCnt) := rfl
  obtain ⟨hn1, hn2⟩ := cnts_inv l
  have HN : Hid (∀ c ∈ cnts l, c.2 ≤ 4294967296 ∧ Set64 c.1) := fun c hc => ⟨by have := hn2 c hc; omega, hv _ (hn2 c hc).2.2⟩
  have HCC := maps_count ao cap l w hc hl hv
  have hCl : (cnts l).length ≤ 4294967296 := by omega
  clear hn1 hn2 hc hv
  generalize cnts l = C at *
  replace HCC := Lib.hid HCC
  go_enter Try.func114, Try.ntmps114
  go_wp2_with fail
  refine HCC.out.mono ?_
  rintro e w1 ⟨vc, rfl, hownc, hx1⟩
  clear HCC
  obtain ⟨ac, cc, rfl, hcc, hfc⟩ := own_cells hownc
  have hown1 := own_ext hown hx1
  have hg1 := (Grow.rf w v).extR hx1
  have hb1 : base ≤ w1.heap.size := Nat.le_trans hb hx1.size
  have HNE : Hid (∀ ad, ac = some ad → v.ownBlock ≠ some ad.block) := fun ad e h => by have := hfc ad e; have := (hown.lt _ h).2; omega
  clear hownc hown hx1 hfc
  have HG1 := Lib.hid hg1
  clear hg1
  go_wp2_with fail
  go_loopw [0, 12] (fun u i wr => ∃ k : Nat, k ≤ C.length ∧ i = .int .i64 k ∧ wr.ownsRow base 5 1 u (k0 + ((C.take k).flatMap putCnt).length) (xs ++ ((C.take k).flatMap putCnt).map byteC) ∧ Grow w1 wr v u ∧ base ≤ wr.heap.size)
    (fun _ i _ => C.length - (intOf i).toNat)
  case atStart => exact ⟨0, Nat.zero_le _, rfl, by simpa using hown1, Grow.rf _ _, hb1⟩
  case round =>
    clear hown1 hb1
    obtain ⟨k, hk, rfl, hownk, hgk, hbs⟩ := hrel
    by_cases hlt : k < C.length
    · obtain ⟨b, off, rfl, hcl⟩ := (hcc.grow hgk HNE.out).flat (enc := cntC) (size := 5) (fun _ => rfl) hlt (by decide)
      have HS := Lib.hid (flat_snoc putCnt hlt)
      obtain ⟨hm1, hm2⟩ := HN.out C[k] (List.getElem_mem hlt)
      have hle : ((C.take k).flatMap putCnt).length ≤ k * 50 := by
        have := flat_le putCnt 50 putCnt_le (C.take k)
        rw [List.length_take] at this; have e : min k C.length = k := by omega
        rwa [e] at this
      generalize C[k] = x at *
      have H64 := Lib.hid (setN_64 hm2)
      generalize (C.take k).flatMap putCnt = D at *
      have e0 : wr.cell? ⟨b, off + k * 5, none⟩ = some (.int .u64 x.1.a) := by exact hcl 0 _ rfl
      have e1 : wr.cell? ⟨b, off + k * 5 + 1, none⟩ = some (.int .u64 x.1.b) := by rw [Nat.add_assoc]; exact hcl 1 _ rfl
      have e2 : wr.cell? ⟨b, off + k * 5 + 2, none⟩ = some (.int .u64 x.1.c) := by rw [Nat.add_assoc]; exact hcl 2 _ rfl
      have e3 : wr.cell? ⟨b, off + k * 5 + 3, none⟩ = some (.int .u64 x.1.d) := by rw [Nat.add_assoc]; exact hcl 3 _ rfl
      have e4 : wr.cell? ⟨b, off + k * 5 + 4, none⟩ = some (.int .i64 x.2) := by rw [Nat.add_assoc]; exact hcl 4 _ rfl
      clear hcl hm2
      have hwm : IntKind.u64.wrap (x.2 : Int) = x.2 := by rw [IntKind.wrap_u64]; omega
      go_upto_region 4 with fail
      have hown3 := hownk.alloc (.cells ([.int .u64 x.1.a, .int .u64 x.1.b, .int .u64 x.1.c, .int .u64 x.1.d, .int .i64 x.2] : List Value).toArray 177)
      have hgk3 := hgk.extR ((Ext.rf wr).al (.cells ([.int .u64 x.1.a, .int .u64 x.1.b, .int .u64 x.1.c, .int .u64 x.1.d, .int .i64 x.2] : List Value).toArray 177))
      have hs3 : wr.heap.size < (wr.alloc (.cells ([.int .u64 x.1.a, .int .u64 x.1.b, .int .u64 x.1.c, .int .u64 x.1.d, .int .i64 x.2] : List Value).toArray 177)).heap.size := by simp
      have hblk := alloc_new wr (.cells ([.int .u64 x.1.a, .int .u64 x.1.b, .int .u64 x.1.c, .int .u64 x.1.d, .int .i64 x.2] : List Value).toArray 177)
      have hune : u0.ownBlock ≠ some wr.heap.size := fun h => by have := (hownk.lt _ h).2; omega
      have hbs4 : base ≤ (wr.alloc (.cells ([.int .u64 x.1.a, .int .u64 x.1.b, .int .u64 x.1.c, .int .u64 x.1.d, .int .i64 x.2] : List Value).toArray 177)).heap.size := by omega
      generalize wr.alloc (.cells ([.int .u64 x.1.a, .int .u64 x.1.b, .int .u64 x.1.c, .int .u64 x.1.d, .int .i64 x.2] : List Value).toArray 177) = W4 at *
      generalize wr.heap.size = g at *
      have f4 : W4.cell? ⟨g, 4, none⟩ = some (.int .i64 x.2) := blk hblk 4 rfl
      have HB4 := Lib.hid hblk
      have HG4 := Lib.hid hgk3
      clear e0 e1 e2 e3 e4 hblk hgk3 hownk hgk
      go_wp2_with fail
      refine (uvar_Put base _ _ _ x.2 _ hown3 hbs4 (by omega) (by omega)).mono ?_
      rintro e w5 ⟨u5, rfl, hown5, hg5⟩
      have hb5 : w5.heap[g]? = some (.cells ([.int .u64 x.1.a, .int .u64 x.1.b, .int .u64 x.1.c, .int .u64 x.1.d, .int .i64 x.2] : List Value).toArray 177 (0, 0)) := by rw [hg5.block g hs3 (fun h => hune h.symm)]; exact HB4.out
      have f0 : w5.cell? ⟨g, 0, none⟩ = some (.int .u64 x.1.a) := blk hb5 0 rfl
      have f1 : w5.cell? ⟨g, 1, none⟩ = some (.int .u64 x.1.b) := blk hb5 1 rfl
      have f2 : w5.cell? ⟨g, 2, none⟩ = some (.int .u64 x.1.c) := blk hb5 2 rfl
      have f3 : w5.cell? ⟨g, 3, none⟩ = some (.int .u64 x.1.d) := blk hb5 3 rfl
      have hbs5 : base ≤ w5.heap.size := Nat.le_trans hbs4 hg5.size
      have hple := putB_le x.2
      have HD : Hid (D ++ putCnt x = (D ++ putB x.2) ++ (setN x.1).flatMap putB) := by rw [Hid, putCnt, List.append_assoc]
      have HO5 : w5.ownsRow base 5 1 u5 (k0 + (D ++ putB x.2).length) (xs ++ (D ++ putB x.2).map byteC) := by
        rw [List.length_append, List.map_append, ← List.append_assoc, ← Nat.add_assoc]; exact hown5
      have HG5 := Lib.hid (HG4.out.tr hg5)
      generalize putB x.2 = B at *
      have hle5 : (D ++ B).length ≤ k * 50 + 10 := by rw [List.length_append]; omega
      generalize D ++ B = DB at *
      clear f4 HB4 HG4 hg5 hown5 hown3 hune hs3 hbs4 hb5
      go_wp2_with fail
      go_loopw [0, 23] (fun u j wi => ∃ q : Nat, q ≤ 4 ∧ j = .int .i64 q ∧ wi.ownsRow base 5 1 u (k0 + (DB ++ ((setN x.1).take q).flatMap putB).length) (xs ++ (DB ++ ((setN x.1).take q).flatMap putB).map byteC) ∧ Grow w1 wi v u ∧ base ≤ wi.heap.size)
        (fun _ j _ => 4 - (intOf j).toNat)
      case atStart => exact ⟨0, Nat.zero_le _, rfl, by simpa using HO5, HG5.out, hbs5⟩
      case round =>
        clear HO5 hbs5 f0 f1 f2 f3
        obtain ⟨q, hq, rfl, hownq, hgq, hbsq⟩ := hrel
        by_cases hql : q < 4
        · have HS2 := Lib.hid (flat_snoc putB (show q < (setN x.1).length from hql))
          have hr1 := H64.out ((setN x.1)[q]'hql) (List.getElem_mem _)
          have hi := fun W => run_index_ints (P := Try.prog) (k := .u64) (ki := .i64) (t := 43) (e := 41) (n := 4) Try.underlying43 Try.underlying41 (fun _ => by kernel_rfl) (setI x.1) rfl q hql (((setN x.1)[q]'hql : Nat) : Int) (by rw [setI_map, List.getElem?_map, List.getElem?_eq_getElem (show q < (setN x.1).length from hql)]; rfl) W
          generalize (setN x.1)[q]'hql = r at *
          have HD2 : Hid (DB ++ ((setN x.1).take (q + 1)).flatMap putB = (DB ++ ((setN x.1).take q).flatMap putB) ++ putB r) := by rw [Hid, HS2.out, List.append_assoc]
          have hle2 : (DB ++ ((setN x.1).take q).flatMap putB).length ≤ DB.length + 40 := by
            have := flat_le putB 10 putB_le ((setN x.1).take q)
            rw [List.length_append]; rw [List.length_take] at this; omega
          clear HS2
          generalize DB ++ ((setN x.1).take q).flatMap putB = Dq at *
          simp only [setI, List.map_cons, List.map_nil] at hi
          go_wp2_with fail
          refine (uvar_Put base _ _ _ r _ hownq hbsq (by omega) hr1).mono ?_
          rintro e w7 ⟨u7, rfl, hown7, hg7⟩
          have hgk7 := hgq.tr hg7
          have hbs7 : base ≤ w7.heap.size := Nat.le_trans hbsq hg7.size
          have HO7 : Hid (w7.ownsRow base 5 1 u7 (k0 + (Dq ++ putB r).length) (xs ++ (Dq ++ putB r).map byteC)) := by
            rw [Hid, List.length_append, List.map_append, ← List.append_assoc, ← Nat.add_assoc]; exact hown7
          have HG7 := Lib.hid hgk7
          clear hown7 hg7 hgk7 hownq hgq hi
          go_wp2_with fail
          go_roundw
          case rel => exact ⟨q + 1, by omega, by go_num, by rw [HD2.out]; exact HO7.out, HG7.out, hbs7⟩
          case measure => simp [intOf]; omega
        · obtain rfl : q = 4 := by omega
          rw [List.take_of_length_le (show (setN x.1).length ≤ 4 from Nat.le_refl _), ← HD.out] at hownq
          have HO6 := Lib.hid hownq
          clear hownq
          go_wp2_with fail
          go_roundw
          case rel => exact ⟨k + 1, by omega, by go_num, by rw [HS.out]; exact HO6.out, hgq, hbsq⟩
          case measure => simp [intOf]; omega
    · obtain rfl : k = C.length := by omega
      rw [List.take_of_length_le (Nat.le_refl _), ← HR.out] at hownk
      obtain ⟨ro, rc, rfl⟩ := own_form hownk
      have HG9 := Lib.hid (HG1.out.tr hgk)
      go_wp2_with fail
      go_ret
      exact ⟨_, rfl, hownk, HG9.out⟩

theorem setC_at (s : SetT) {p : Nat} (h : p < 4) : (setC s)[p]? = some (.int .u64 ((setN s)[p]'h : Nat)) := by
  rcases (by omega : p = 0 ∨ p = 1 ∨ p = 2 ∨ p = 3) with rfl | rfl | rfl | rfl <;> rfl

theorem putMaps_le (l : List SetT) : (putMaps l).length ≤ l.length * 50 := by
  have := flat_le putCnt 50 putCnt_le (cnts l)
  have := (cnts_inv l).1
  unfold putMaps; omega

set_option maxHeartbeats 4000000 in
set_option maxRecDepth 20000 in
theorem mapsref_Put (ao : Option Addr) (cap : Nat) (l : List SetT) (w : World) (hc : Cells w ao (l.flatMap setC)) (hl : l.length ≤ 4294967296) (hv : ∀ s ∈ l, Set64 s) :
    Calls Try.prog 118 #[.slice ao l.length cap] w (RetSl (putMaps l).length ((putMaps l).map byteC) w) := by
  have HV := Lib.hid hv
  clear hv
  go_enter Try.func118, Try.ntmps118
  go_wp2_with fail
  have hown0 := World.ownsRow_nil w w.heap.size 5 1
  go_loopw [3, 4] (fun u i wr => ∃ k : Nat, k ≤ l.length ∧ i = .int .i64 k ∧ wr.ownsRow w.heap.size 5 1 u (putMaps (l.take k)).length ((putMaps (l.take k)).map byteC) ∧ Ext w wr ∧ Hid (k < l.length → (l.take k).getLast? ≠ l[k]?))
    (fun _ i _ => l.length - (intOf i).toNat)
  case atStart => exact ⟨0, Nat.zero_le _, rfl, hown0, Ext.rf w, fun h e => by rw [List.take_zero, List.getElem?_eq_getElem h] at e; cases e⟩
  case round =>
    clear hown0
    obtain ⟨k, hk, rfl, hownk, hext, hls⟩ := hrel
    by_cases hlt : k < l.length
    · obtain ⟨b, off, rfl, -⟩ := (hc.ext hext).flat (enc := setC) (size := 4) (fun _ => rfl) hlt (by decide)
      obtain ⟨s, HSK⟩ : ∃ s, Hid (l[k] = s) := ⟨_, Lib.hid rfl⟩
      have HLS : Hid ((l.take k).getLast? ≠ some s) := fun e => hls.out hlt (by rw [e, List.getElem?_eq_getElem hlt, HSK.out])
      have H64 : Hid (∀ n ∈ setN s, n ≤ 18446744073709551615) := setN_64 (HV.out s (by rw [← HSK.out]; exact List.getElem_mem hlt))
      have hle := putMaps_le (l.take k)
      rw [List.length_take, Nat.min_eq_left hk] at hle
      have HDD : Hid ((cnts (l.take k)).flatMap putCnt = putMaps (l.take k)) := rfl
      generalize putMaps (l.take k) = D at *
      clear hls
      go_wp2_with fail
      go_loopw [5] (fun j wi => ∃ q : Nat, k ≤ q ∧ q ≤ l.length ∧ j = .int .i64 q ∧ Ext w wi ∧ wi.ownsRow w.heap.size 5 1 u3 D.length (D.map byteC) ∧ Hid (l.take q = l.take k ++ List.replicate (q - k) s))
        (fun j _ => l.length - (intOf j).toNat)
      case atStart => exact ⟨k, Nat.le_refl _, hk, rfl, hext, hownk, Lib.hid (by simp)⟩
      case round =>
        clear hext hownk
        obtain ⟨q, hkq, hql, rfl, hextq, hownq, HT⟩ := hrel
        have hl2 : (k : Int) < l.length := by omega
        by_cases hqt : q < l.length
        · obtain ⟨b', off', e', hcl⟩ := (hc.ext hextq).flat (enc := setC) (size := 4) (fun _ => rfl) hqt (by decide)
          simp only [Option.some.injEq, Addr.mk.injEq, and_true] at e'
          obtain ⟨rfl, rfl⟩ := e'
          obtain ⟨b', off', e', hck⟩ := (hc.ext hextq).flat (enc := setC) (size := 4) (fun _ => rfl) hlt (by decide)
          simp only [Option.some.injEq, Addr.mk.injEq, and_true] at e'
          obtain ⟨rfl, rfl⟩ := e'
          rw [HSK.out] at hck
          have HQ := Lib.hid (List.take_succ_eq_append_getElem hqt)
          have HG : Hid (l[q]? = some l[q]) := List.getElem?_eq_getElem hqt
          have HK : Hid (q = k → l[q] = s) := fun h => by subst h; exact HSK.out
          generalize l[q] = t at *
          have e0 : wr.cell? ⟨b, off + q * 4, none⟩ = some (.int .u64 t.a) := by exact hcl 0 _ rfl
          have e1 : wr.cell? ⟨b, off + q * 4 + 1, none⟩ = some (.int .u64 t.b) := by rw [Nat.add_assoc]; exact hcl 1 _ rfl
          have e2 : wr.cell? ⟨b, off + q * 4 + 2, none⟩ = some (.int .u64 t.c) := by rw [Nat.add_assoc]; exact hcl 2 _ rfl
          have e3 : wr.cell? ⟨b, off + q * 4 + 3, none⟩ = some (.int .u64 t.d) := by rw [Nat.add_assoc]; exact hcl 3 _ rfl
          have k0 : wr.cell? ⟨b, off + k * 4, none⟩ = some (.int .u64 s.a) := by exact hck 0 _ rfl
          have k1 : wr.cell? ⟨b, off + k * 4 + 1, none⟩ = some (.int .u64 s.b) := by rw [Nat.add_assoc]; exact hck 1 _ rfl
          have k2 : wr.cell? ⟨b, off + k * 4 + 2, none⟩ = some (.int .u64 s.c) := by rw [Nat.add_assoc]; exact hck 2 _ rfl
          have k3 : wr.cell? ⟨b, off + k * 4 + 3, none⟩ = some (.int .u64 s.d) := by rw [Nat.add_assoc]; exact hck 3 _ rfl
          clear hcl hck
          have hq := fun W => run_eql_arr (P := Try.prog) (k := .u64) (t := 43) (e := 41) (n := 4) Try.underlying43 Try.underlying41 (fun _ => by kernel_rfl) W (setI t) (setI s) rfl rfl
          have i1 : (0 : Int) ≤ k := by omega
          have i2 : (k : Int) < l.length := by omega
          have i3 : (0 : Int) ≤ q := by omega
          have i4 : (q : Int) < l.length := by omega
          by_cases hts : t = s
          · subst hts
            have hne : decide (setI t = setI t) = true := decide_eq_true rfl
            simp only [hne] at hq
            simp only [setI, List.map_cons, List.map_nil] at hq
            clear hne
            have HT2 : Hid (l.take (q + 1) = l.take k ++ List.replicate (q + 1 - k) t) := by
              rw [Hid, HQ.out, HT.out, List.append_assoc, ← List.replicate_succ', show q - k + 1 = q + 1 - k from by omega]
            go_wp2_with fail
            go_quiet (fail)
            replace hownq := own_drN hownq nq
            replace hextq := hextq.drN nq
            generalize wr.drewN nq = wz at *
            clear e0 e1 e2 e3 k0 k1 k2 k3 hq i1 i2 i3 i4
            go_wp2_with fail
            go_roundw
            case rel => exact ⟨q + 1, by omega, by omega, by go_num, hextq, hownq, HT2⟩
            case measure => simp [intOf]; omega
          · have hne : decide (setI t = setI s) = false := decide_eq_false (fun h => hts ((setI_eq t s).mp h))
            simp only [hne] at hq
            simp only [setI, List.map_cons, List.map_nil] at hq
            clear hne
            have HL : Hid (q < l.length → l[q]? ≠ some s) := fun _ h => by rw [HG.out] at h; exact hts (Option.some.inj h)
            have hqk : k < q := by
              rcases Nat.eq_or_lt_of_le hkq with h | h
              · exact absurd (HK.out h.symm) hts
              · exact h
            clear hts HQ HG HK
            go_wp2_with fail
            go_quiet (fail)
            replace hownq := own_drN hownq nq
            replace hextq := hextq.drN nq
            generalize wr.drewN nq = wz at *
            clear e0 e1 e2 e3 k0 k1 k2 k3 hq i1 i2 i3 i4
            have HA : Hid (putMaps (l.take q) = (D ++ putB (q - k)) ++ (setN s).flatMap putB) := by
              obtain ⟨n, hn⟩ : ∃ n, q - k = n + 1 := ⟨q - k - 1, by omega⟩
              rw [Hid, putMaps, HT.out, hn, cnts_last _ _ HLS.out, List.flatMap_append, List.flatMap_singleton, HDD.out, putCnt, List.append_assoc]
            have HL2 : Hid (q < l.length → (l.take q).getLast? ≠ l[q]?) := fun h e => by
              obtain ⟨n, hn⟩ : ∃ n, q - k = n + 1 := ⟨q - k - 1, by omega⟩
              rw [HT.out, hn, List.replicate_succ', ← List.append_assoc, List.getLast?_concat] at e
              exact HL.out h e.symm
            have hwq : IntKind.u64.wrap ((q : Int) - k) = ((q - k : Nat) : Int) := by rw [IntKind.wrap_u64]; omega
            have hwq2 : ((q : Int) - k) = ((q - k : Nat) : Int) := by omega
            have hqk2 : q - k ≤ 4294967296 := by omega
            clear HT HL hl2
            generalize hN : q - k = N at *
            go_upto_region 7 with fail
            go_wp2_with fail
            refine (uvarref_PutO N _ (by omega)).mono ?_
            rintro e w5 ⟨u5', rfl, ho5, hb5⟩
            have hple5 := putB_le N
            generalize putB N = B at *
            obtain ⟨a5, c5, rfl, hc5, -⟩ := own_cells ho5
            have hown5 := own_ext hownq hb5
            have hext5 := hextq.tr hb5
            clear ho5 hb5 hownq hextq
            go_wp2_with (at_builtin; (refine wpList_appendAll rfl (.tmp 29) (.tmp 34) 38 rfl w.heap.size 5 (.int .u8 0) 1 1 Try.underlying38 (by kernel_rfl) rfl (by decide) _ D.length _ a5 B.length _ (B.map byteC) rfl hown5 rfl hc5 (by simp) (by intro u hu; simp only [List.mem_map] at hu; obtain ⟨_, _, rfl⟩ := hu; rfl) (by unfold maxLen; omega) (by omega) hext5.size ?_; intro v' w6 hown6 hgr; have hext6 := hext5.push hown5 (Nat.le_refl _) hgr; clear hgr hown5 hext5))
            have HO6 : w6.ownsRow w.heap.size 5 1 v' (D ++ B).length ((D ++ B).map byteC) := by
              rw [List.length_append, List.map_append]; exact hown6
            have HX6 := Lib.hid hext6
            have hle6 : (D ++ B).length ≤ k * 50 + 10 := by rw [List.length_append]; omega
            generalize D ++ B = DB at *
            clear hown6 hext6 hle hple5
            go_loopw [3, 6] (fun u j wi => ∃ p : Nat, p ≤ 4 ∧ j = .int .i64 p ∧ wi.ownsRow w.heap.size 5 1 u (DB ++ ((setN s).take p).flatMap putB).length ((DB ++ ((setN s).take p).flatMap putB).map byteC) ∧ Ext w wi)
              (fun _ j _ => 4 - (intOf j).toNat)
            case atStart => exact ⟨0, Nat.zero_le _, rfl, by simpa using HO6, HX6.out⟩
            case round =>
              clear HO6
              obtain ⟨p, hp, rfl, hownp, hextp⟩ := hrel
              by_cases hpl : p < 4
              · obtain ⟨b', off', e', hcl⟩ := (hc.ext hextp).flat (enc := setC) (size := 4) (fun _ => rfl) hlt (by decide)
                simp only [Option.some.injEq, Addr.mk.injEq, and_true] at e'
                obtain ⟨rfl, rfl⟩ := e'
                rw [HSK.out] at hcl
                have HS2 := Lib.hid (flat_snoc putB (show p < (setN s).length from hpl))
                have hr1 := H64.out ((setN s)[p]'hpl) (List.getElem_mem _)
                have hcp : wr.cell? ⟨b, off + k * 4 + p, none⟩ = some (.int .u64 ((setN s)[p]'hpl : Nat)) := by rw [Nat.add_assoc]; exact hcl p _ (setC_at s hpl)
                generalize (setN s)[p]'hpl = r at *
                have HD2 : Hid (DB ++ ((setN s).take (p + 1)).flatMap putB = (DB ++ ((setN s).take p).flatMap putB) ++ putB r) := by rw [Hid, HS2.out, List.append_assoc]
                have hle2 : (DB ++ ((setN s).take p).flatMap putB).length ≤ DB.length + 40 := by
                  have := flat_le putB 10 putB_le ((setN s).take p)
                  rw [List.length_append]; rw [List.length_take] at this; omega
                clear HS2 hcl
                generalize DB ++ ((setN s).take p).flatMap putB = Dp at *
                go_wp2_with fail
                refine (uvarref_PutO r _ hr1).mono ?_
                rintro e w7 ⟨u7, rfl, ho7, hb7⟩
                have hple7 := putB_le r
                generalize putB r = R at *
                obtain ⟨a7, c7, rfl, hc7, -⟩ := own_cells ho7
                have hown7 := own_ext hownp hb7
                have hext7 := hextp.tr hb7
                clear ho7 hb7 hownp hextp hcp
                go_wp2_with (at_builtin; (refine wpList_appendAll rfl (.tmp 40) (.tmp 47) 38 rfl w.heap.size 5 (.int .u8 0) 1 1 Try.underlying38 (by kernel_rfl) rfl (by decide) _ Dp.length _ a7 R.length _ (R.map byteC) rfl hown7 rfl hc7 (by simp) (by intro u hu; simp only [List.mem_map] at hu; obtain ⟨_, _, rfl⟩ := hu; rfl) (by unfold maxLen; omega) (by omega) hext7.size ?_; intro v' w8 hown8 hgr; have hext8 := hext7.push hown7 (Nat.le_refl _) hgr; clear hgr hown7 hext7))
                have HO8 : Hid (w8.ownsRow w.heap.size 5 1 v' (Dp ++ R).length ((Dp ++ R).map byteC)) := by
                  rw [Hid, List.length_append, List.map_append]; exact hown8
                clear hown8
                go_roundw
                case rel => exact ⟨p + 1, by omega, by go_num, by rw [HD2.out]; exact HO8.out, hext8⟩
                case measure => simp [intOf]; omega
              · obtain rfl : p = 4 := by omega
                rw [List.take_of_length_le (show (setN s).length ≤ 4 from Nat.le_refl _), ← HA.out] at hownp
                have HO6 := Lib.hid hownp
                clear hownp
                go_wp2_with fail
                go_roundw
                case rel => exact ⟨q, by omega, by go_num, HO6.out, hextp, HL2.out⟩
                case measure => simp [intOf]; omega
        · have HL : Hid (q < l.length → l[q]? ≠ some s) := fun h => absurd h hqt
          have hqk : k < q := by omega
          go_wp2_with fail
          go_quiet (fail)
          replace hownq := own_drN hownq nq
          replace hextq := hextq.drN nq
          generalize wr.drewN nq = wz at *
          have HA : Hid (putMaps (l.take q) = (D ++ putB (q - k)) ++ (setN s).flatMap putB) := by
            obtain ⟨n, hn⟩ : ∃ n, q - k = n + 1 := ⟨q - k - 1, by omega⟩
            rw [Hid, putMaps, HT.out, hn, cnts_last _ _ HLS.out, List.flatMap_append, List.flatMap_singleton, HDD.out, putCnt, List.append_assoc]
          have HL2 : Hid (q < l.length → (l.take q).getLast? ≠ l[q]?) := fun h e => by
            obtain ⟨n, hn⟩ : ∃ n, q - k = n + 1 := ⟨q - k - 1, by omega⟩
            rw [HT.out, hn, List.replicate_succ', ← List.append_assoc, List.getLast?_concat] at e
            exact HL.out h e.symm
          have hwq : IntKind.u64.wrap ((q : Int) - k) = ((q - k : Nat) : Int) := by rw [IntKind.wrap_u64]; omega
          have hwq2 : ((q : Int) - k) = ((q - k : Nat) : Int) := by omega
          have hqk2 : q - k ≤ 4294967296 := by omega
          clear HT HL hl2
          generalize hN : q - k = N at *
          go_upto_region 7 with fail
          go_wp2_with fail
          refine (uvarref_PutO N _ (by omega)).mono ?_
          rintro e w5 ⟨u5', rfl, ho5, hb5⟩
          have hple5 := putB_le N
          generalize putB N = B at *
          obtain ⟨a5, c5, rfl, hc5, -⟩ := own_cells ho5
          have hown5 := own_ext hownq hb5
          have hext5 := hextq.tr hb5
          clear ho5 hb5 hownq hextq
          go_wp2_with (at_builtin; (refine wpList_appendAll rfl (.tmp 29) (.tmp 34) 38 rfl w.heap.size 5 (.int .u8 0) 1 1 Try.underlying38 (by kernel_rfl) rfl (by decide) _ D.length _ a5 B.length _ (B.map byteC) rfl hown5 rfl hc5 (by simp) (by intro u hu; simp only [List.mem_map] at hu; obtain ⟨_, _, rfl⟩ := hu; rfl) (by unfold maxLen; omega) (by omega) hext5.size ?_; intro v' w6 hown6 hgr; have hext6 := hext5.push hown5 (Nat.le_refl _) hgr; clear hgr hown5 hext5))
          have HO6 : w6.ownsRow w.heap.size 5 1 v' (D ++ B).length ((D ++ B).map byteC) := by
            rw [List.length_append, List.map_append]; exact hown6
          have HX6 := Lib.hid hext6
          have hle6 : (D ++ B).length ≤ k * 50 + 10 := by rw [List.length_append]; omega
          generalize D ++ B = DB at *
          clear hown6 hext6 hle hple5
          go_loopw [3, 6] (fun u j wi => ∃ p : Nat, p ≤ 4 ∧ j = .int .i64 p ∧ wi.ownsRow w.heap.size 5 1 u (DB ++ ((setN s).take p).flatMap putB).length ((DB ++ ((setN s).take p).flatMap putB).map byteC) ∧ Ext w wi)
            (fun _ j _ => 4 - (intOf j).toNat)
          case atStart => exact ⟨0, Nat.zero_le _, rfl, by simpa using HO6, HX6.out⟩
          case round =>
            clear HO6
            obtain ⟨p, hp, rfl, hownp, hextp⟩ := hrel
            by_cases hpl : p < 4
            · obtain ⟨b', off', e', hcl⟩ := (hc.ext hextp).flat (enc := setC) (size := 4) (fun _ => rfl) hlt (by decide)
              simp only [Option.some.injEq, Addr.mk.injEq, and_true] at e'
              obtain ⟨rfl, rfl⟩ := e'
              rw [HSK.out] at hcl
              have HS2 := Lib.hid (flat_snoc putB (show p < (setN s).length from hpl))
              have hr1 := H64.out ((setN s)[p]'hpl) (List.getElem_mem _)
              have hcp : wr.cell? ⟨b, off + k * 4 + p, none⟩ = some (.int .u64 ((setN s)[p]'hpl : Nat)) := by rw [Nat.add_assoc]; exact hcl p _ (setC_at s hpl)
              generalize (setN s)[p]'hpl = r at *
              have HD2 : Hid (DB ++ ((setN s).take (p + 1)).flatMap putB = (DB ++ ((setN s).take p).flatMap putB) ++ putB r) := by rw [Hid, HS2.out, List.append_assoc]
              have hle2 : (DB ++ ((setN s).take p).flatMap putB).length ≤ DB.length + 40 := by
                have := flat_le putB 10 putB_le ((setN s).take p)
                rw [List.length_append]; rw [List.length_take] at this; omega
              clear HS2 hcl
              generalize DB ++ ((setN s).take p).flatMap putB = Dp at *
              go_wp2_with fail
              refine (uvarref_PutO r _ hr1).mono ?_
              rintro e w7 ⟨u7, rfl, ho7, hb7⟩
              have hple7 := putB_le r
              generalize putB r = R at *
              obtain ⟨a7, c7, rfl, hc7, -⟩ := own_cells ho7
              have hown7 := own_ext hownp hb7
              have hext7 := hextp.tr hb7
              clear ho7 hb7 hownp hextp hcp
              go_wp2_with (at_builtin; (refine wpList_appendAll rfl (.tmp 40) (.tmp 47) 38 rfl w.heap.size 5 (.int .u8 0) 1 1 Try.underlying38 (by kernel_rfl) rfl (by decide) _ Dp.length _ a7 R.length _ (R.map byteC) rfl hown7 rfl hc7 (by simp) (by intro u hu; simp only [List.mem_map] at hu; obtain ⟨_, _, rfl⟩ := hu; rfl) (by unfold maxLen; omega) (by omega) hext7.size ?_; intro v' w8 hown8 hgr; have hext8 := hext7.push hown7 (Nat.le_refl _) hgr; clear hgr hown7 hext7))
              have HO8 : Hid (w8.ownsRow w.heap.size 5 1 v' (Dp ++ R).length ((Dp ++ R).map byteC)) := by
                rw [Hid, List.length_append, List.map_append]; exact hown8
              clear hown8
              go_roundw
              case rel => exact ⟨p + 1, by omega, by go_num, by rw [HD2.out]; exact HO8.out, hext8⟩
              case measure => simp [intOf]; omega
            · obtain rfl : p = 4 := by omega
              rw [List.take_of_length_le (show (setN s).length ≤ 4 from Nat.le_refl _), ← HA.out] at hownp
              have HO6 := Lib.hid hownp
              clear hownp
              go_wp2_with fail
              go_roundw
              case rel => exact ⟨q, by omega, by go_num, HO6.out, hextp, HL2.out⟩
              case measure => simp [intOf]; omega
    · obtain rfl : k = l.length := by omega
      rw [List.take_of_length_le (Nat.le_refl _)] at hownk
      obtain ⟨ro, rc, rfl, hc', hf'⟩ := own_cells hownk
      clear hownk hls
      go_wp2_with fail
      go_ret
      exact ⟨_, _, rfl, hc', hext, hf'⟩
end Go.Proofs.Ytofdkhilapmccaa
