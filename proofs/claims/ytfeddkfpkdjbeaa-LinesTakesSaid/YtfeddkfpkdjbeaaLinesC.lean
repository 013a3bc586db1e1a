/- The iterator over a table's spans, and lines.Of, that ranges over it. -/
import Derived.Test.YtfeddkfpkdjbeaaFence
import Derived.Test.YtfeddkfpkdjbeaaLinesB
namespace Go.Proofs.Ytfeddkfpkdjbeaa
open Go.RowKit Go.Shelf
attribute [local go_sem] Oper.semAt_some

theorem lines_spans (ao : Option Addr) (n cap : Nat) (w : World) :
    Calls Try.prog 77 #[.slice ao n cap] w fun e w' => e = .returned (.func (.func 97) #[] #[.pointer (some ⟨w.heap.size, 0, none⟩)]) ∧ w' = w.alloc (.cells #[.slice ao n cap] 36) := by
  go_enter Try.func77, Try.ntmps77
  go_wp2
  go_ret
  exact ⟨rfl, rfl⟩

set_option maxHeartbeats 2000000 in
set_option maxRecDepth 100000 in
theorem spans_in (n : Nat) (hn : 1 ≤ n) (lp Bs B0 : Nat) (ao : Option Addr) (cap : Nat) (l : List Int) (hlen : l.length ≤ 4398046511104) (J Jx : List (Int × Int × Int) → World → Prop)
    (hJ : ∀ s W k, J s W → J s (World.drewN W k))
    (hY : ∀ pre x W, J pre W → pre.length < l.length → YieldAt Fence.wide (n - 1) Try.prog lp #[.int .i64 x.1, .agg #[.int .i64 x.2.1, .int .i64 x.2.2]] W fun e W' =>
      (e = .returned (.bool true) ∧ J (pre ++ [x]) W' ∧ KeepBs B0 Bs W W') ∨ (e = .returned (.bool false) ∧ Jx (pre ++ [x]) W'))
    (W : World) (hBs : W.heap[Bs]? = some (.cells #[.slice ao l.length cap] 36 (0, 0))) (hc : Cells W ao (l.map (.int .i64))) (hb : ∀ b off, l ≠ [] → ao = some ⟨b, off, none⟩ → b < B0) (h0 : J [] W) :
    CallsIn Fence.wide n Try.prog 97 #[.func (.yield lp) #[] #[], .pointer (some ⟨Bs, 0, none⟩)] W fun e W' => (∃ v, e = .returned v) ∧
      ((∃ ys, Bound l 0 ys l.length ∧ J ys W') ∨ (∃ pre, True ∧ Jx pre W')) := by
  have HJ := Lib.hid hJ
  have HY := Lib.hid hY
  have HB := Lib.hid hb
  clear hJ hY hb
  refine callsIn_of_wp Try.func97 rfl trivial ?_ rfl
  simp only [Try.ntmps97, List.size_toArray, List.length_cons, List.length_nil, Nat.reduceAdd, Nat.reduceSub, Array.replicate_succ, Array.replicate_zero, List.push_toArray, List.append_toArray, List.nil_append, List.cons_append]
  gi_wp2
  gi_loopw [3] (fun i wr => ∃ (pre : List (Int × Int × Int)) (a : Nat), i = .int .i64 a ∧ a ≤ l.length ∧ Bound l 0 pre a ∧ J pre wr ∧ KeepBs B0 Bs W wr)
    (fun i _ => l.length - (intOf i).toNat)
  case atStart => exact ⟨[], 0, rfl, Nat.zero_le _, rfl, h0, Below.refl _ _, fun _ h => h⟩
  case round =>
    obtain ⟨pre, a, rfl, ha, hbd, hJr, hk⟩ := hrel
    have cB := blk (hk.2 _ hBs) 0 rfl
    by_cases hlt : a < l.length
    · obtain ⟨b, off, rfl, -⟩ := hc.at (k := a) (by simpa using hlt)
      have hbB := HB.out b off (by rintro rfl; simp at hlt) rfl
      have i1 : (0 : Int) ≤ a := by omega
      have i2 : (a : Int) < l.length := by omega
      gi_wp2
      obtain ⟨wo, rfl⟩ : ∃ wo : World, wo = wr := ⟨_, rfl⟩
      gi_loopw [4] (fun e wq => ∃ j : Nat, e = .int .i64 j ∧ a < j ∧ j ≤ l.length ∧ Hid (∀ i, a ≤ i → i < j → l[i]? = l[a]?) ∧ J pre wq ∧ KeepBs B0 Bs W wq)
        (fun e _ => l.length - (intOf e).toNat)
      case atStart => exact ⟨a + 1, by go_num, by omega, by omega, Lib.hid (by intro i h1 h2; rw [show i = a by omega]), hJr, hk⟩
      case round =>
        obtain ⟨j, rfl, haj, hj, hsame, hJq, hkq⟩ := hrel
        have cB2 := blk (hkq.2 _ hBs) 0 rfl
        have hcw := hc.below hkq.1 hbB
        obtain ⟨_, _, e3, ca⟩ := hcw.at (k := a) (by simpa using hlt)
        simp only [Option.some.injEq, Addr.mk.injEq, and_true] at e3
        obtain ⟨rfl, rfl⟩ := e3
        simp only [List.getElem_map] at ca
        have k1 : (0 : Int) ≤ j := by omega
        by_cases hjl : j < l.length
        · obtain ⟨_, _, e4, cj⟩ := hcw.at (k := j) (by simpa using hjl)
          simp only [Option.some.injEq, Addr.mk.injEq, and_true] at e4
          obtain ⟨rfl, rfl⟩ := e4
          simp only [List.getElem_map] at cj
          have t0 : decide ((j : Int) < l.length) = true := decide_eq_true (by omega)
          have t0n : decide (j < l.length) = true := decide_eq_true hjl
          have k2 : (j : Int) < l.length := by omega
          by_cases hv : l[j] = l[a]
          · have t1 : (l[j] == l[a]) = true := by simpa using hv
            have HS : Hid (∀ i, a ≤ i → i < j + 1 → l[i]? = l[a]?) := fun i h1 h2 => by
              by_cases h : i < j
              · exact hsame.out i h1 h
              · rw [show i = j by omega, List.getElem?_eq_getElem hjl, List.getElem?_eq_getElem hlt, hv]
            clear hv
            gi_wp2
            gi_quiet (fail)
            have hJ2 := HJ.out _ _ nq hJq
            have hk2 : KeepBs B0 Bs W (wr.drewN nq) := hkq.drN nq
            gi_wp2
            go_roundw
            case rel => exact ⟨j + 1, by go_num, by omega, by omega, HS, hJ2, hk2⟩
            case measure => simp [intOf]; omega
          · have t1 : (l[j] == l[a]) = false := by simpa using hv
            have HE : Hid (Bound l 0 (pre ++ [(l[a], (a : Int), (j : Int))]) j) := Bound.snoc hlt ⟨haj, hj, hsame.out, fun h => by rw [List.getElem?_eq_getElem hjl, List.getElem?_eq_getElem hlt]; simpa using hv⟩ hbd
            clear hv
            gi_wp2
            gi_quiet (fail)
            have hJ2 := HJ.out _ _ nq hJq
            have hk2 : KeepBs B0 Bs W (wr.drewN nq) := hkq.drN nq
            have cB3 : (wr.drewN nq).cell? ⟨Bs, 0, none⟩ = some (.slice (some ⟨b, off, none⟩) l.length cap) := cB2
            have ca3 : (wr.drewN nq).cell? ⟨b, off + a, none⟩ = some (.int .i64 l[a]) := ca
            generalize wr.drewN nq = wz at *
            obtain ⟨fn, tmps, assign, body, hy, hR⟩ := HY.out pre (l[a], (a : Int), (j : Int)) wz hJ2 (by have := bound_len pre 0 a hbd; omega)
            dsimp only at hy
            gi_wp2
            refine hR.mono ?_
            rintro e W3 (⟨rfl, hJ3, hk3⟩ | ⟨rfl, hJx3⟩)
            · gi_wp2
              go_roundw
              case rel => exact ⟨pre ++ [(l[a], (a : Int), (j : Int))], j, by go_num, by omega, HE.out, hJ3, hk2.tr hk3⟩
              case measure => simp [intOf]; omega
            · gi_wp2
              refine bodyPost_ret (results_none rfl _ _ _) rfl ?_
              exact ⟨⟨_, rfl⟩, .inr ⟨_, trivial, hJx3⟩⟩
        · obtain rfl : j = l.length := by omega
          have t0 : decide ((l.length : Int) < l.length) = false := decide_eq_false (by omega)
          have t0n : decide (l.length < l.length) = false := decide_eq_false (by omega)
          have HE : Hid (Bound l 0 (pre ++ [(l[a], (a : Int), (l.length : Int))]) l.length) := Bound.snoc hlt ⟨haj, hj, hsame.out, fun h => absurd h hjl⟩ hbd
          clear hjl
          gi_wp2
          gi_quiet (fail)
          have hJ2 := HJ.out _ _ nq hJq
          have hk2 : KeepBs B0 Bs W (wr.drewN nq) := hkq.drN nq
          have cB3 : (wr.drewN nq).cell? ⟨Bs, 0, none⟩ = some (.slice (some ⟨b, off, none⟩) l.length cap) := cB2
          have ca3 : (wr.drewN nq).cell? ⟨b, off + a, none⟩ = some (.int .i64 l[a]) := ca
          generalize wr.drewN nq = wz at *
          obtain ⟨fn, tmps, assign, body, hy, hR⟩ := HY.out pre (l[a], (a : Int), (l.length : Int)) wz hJ2 (by have := bound_len pre 0 a hbd; omega)
          dsimp only at hy
          gi_wp2
          refine hR.mono ?_
          rintro e W3 (⟨rfl, hJ3, hk3⟩ | ⟨rfl, hJx3⟩)
          · gi_wp2
            go_roundw
            case rel => exact ⟨pre ++ [(l[a], (a : Int), (l.length : Int))], l.length, by go_num, by omega, HE.out, hJ3, hk2.tr hk3⟩
            case measure => simp [intOf]; omega
          · gi_wp2
            refine bodyPost_ret (results_none rfl _ _ _) rfl ?_
            exact ⟨⟨_, rfl⟩, .inr ⟨_, trivial, hJx3⟩⟩
    · obtain rfl : a = l.length := by omega
      gi_wp2
      go_end0
      exact ⟨⟨_, rfl⟩, .inl ⟨pre, hbd, hJr⟩⟩

theorem spans_stops (n : Nat) (hn : 1 ≤ n) (Bs B0 : Nat) (ao : Option Addr) (cap : Nat) (l : List Int) (hlen : l.length ≤ 4398046511104) (w : World) (hBsl : Bs < w.heap.size)
    (hBs : w.heap[Bs]? = some (.cells #[.slice ao l.length cap] 36 (0, 0))) (hc : Cells w ao (l.map (.int .i64))) (hb : ∀ b off, l ≠ [] → ao = some ⟨b, off, none⟩ → b < B0) (hB0 : B0 ≤ w.heap.size) :
    SeqStopsK Fence.wide n Try.prog 97 #[.pointer (some ⟨Bs, 0, none⟩)] (fun x : Int × Int × Int => #[.int .i64 x.1, .agg #[.int .i64 x.2.1, .int .i64 x.2.2]]) (KeepBs B0 Bs) (fun ys => Bound l 0 ys l.length)
      (fun _ => True) l.length w := fun lp J Jx W hW hJ _ hY h0 => by
  have h1 : W.heap[Bs]? = _ := (hW.block Bs hBsl).trans hBs
  refine spans_in n hn lp Bs B0 ao cap l hlen J Jx (fun s W' k h => hJ s W' _ none h ⟨rfl, rfl, rfl, Nat.le_refl _, fun _ _ _ => rfl⟩ (fun r e => by cases e)) hY W h1 ?_ hb h0
  exact hc.ext hW

set_option maxHeartbeats 4000000 in
set_option maxRecDepth 100000 in
theorem lines_Of_in (n : Nat) (hn : 5 ≤ n) (ao : Option Addr) (cap : Nat) (l : List Int) (line : Int) (w : World) (hc : Cells w ao (l.map (.int .i64))) (hl : l.length ≤ 4398046511104) :
    CallsIn Fence.wide n Try.prog 35 #[.slice ao l.length cap, .int .i64 line] w (RetSl (linesOf l line).length ((linesOf l line).flatMap pairC) w) := by
  have h1 : 1 ≤ n := by omega
  refine callsIn_of_wp_marks Try.func35 rfl trivial ?_ rfl
  simp only [Try.ntmps35, List.size_toArray, List.length_cons, List.length_nil, Nat.reduceAdd, Nat.reduceSub, Array.replicate_succ, Array.replicate_zero, List.push_toArray, List.append_toArray, List.nil_append, List.cons_append]
  gi_wp2_with (refine ⟨trivial, ?_⟩; gi_at_call 77; refine (callsIn_wide.2 (lines_spans _ _ _ _)).mono ?_; rintro e w' ⟨rfl, rfl⟩)
  obtain ⟨W0, hW0⟩ : ∃ W0, ((w.alloc (.cells #[.int .i64 line] 3)).alloc (.cells #[.slice none 0 0] 55)).alloc (.cells #[.slice ao l.length cap] 36) = W0 := ⟨_, rfl⟩
  have bL : Boxed W0 w.heap.size 3 (.int .i64 line) := by rw [← hW0]; exact ((Boxed.new w _ _).alloc _).alloc _
  have bO : Boxed W0 (w.heap.size + 1) 55 (.slice none 0 0) := by rw [← hW0]; have := (Boxed.new (w.alloc (.cells #[.int .i64 line] 3)) 55 (.slice none 0 0)).alloc (.cells #[.slice ao l.length cap] 36); simpa using this
  have bS : W0.heap[w.heap.size + 2]? = some (.cells #[.slice ao l.length cap] 36 (0, 0)) := by rw [← hW0]; have := Boxed.new ((w.alloc (.cells #[.int .i64 line] 3)).alloc (.cells #[.slice none 0 0] 55)) 36 (.slice ao l.length cap); simpa [Boxed] using this
  have hsz : W0.heap.size = w.heap.size + 3 := by rw [← hW0]; simp
  have hB0 : Below w.heap.size w W0 := by rw [← hW0]; exact ((Ext.rf w).al _).al _ |>.al _
  rw [hW0]
  clear hW0
  refine wpIn_rangeFunc_ownH rfl h1 (gf := 97) (lb := #[.pointer (some ⟨w.heap.size + 2, 0, none⟩)]) rfl trivial (enters_of Try.func97 (by kernel_rfl) rfl)
    (spans_stops (n - 1) (by omega) (w.heap.size + 2) w.heap.size ao cap l hl W0 (by omega) bS (hc.ext hB0) (fun b off hne e => by subst e; exact hc.lt (by simpa using hne)) (by omega))
    (fun h k => h.tr k) (KeepBs.putObj (by omega) (by omega)) (Below.refl _ _) (fun _ => rfl)
    (fun pre W => ((∃ v, Boxed W (w.heap.size + 1) 55 v ∧ W.ownsRow (w.heap.size + 3) 60 2 v (collect line pre).length ((collect line pre).flatMap pairC) ∧ True) ∧ Boxed W w.heap.size 3 (.int .i64 line)) ∧ Below w.heap.size W0 W)
    (fun _ _ _ => False)
    (OwnFrom.and (OwnFrom.and (Own.from (holdsRow_own (w.heap.size + 3) (w.heap.size + 1) 55 60 2 (fun pre => (collect line pre).length) (fun pre => (collect line pre).flatMap pairC) (fun _ _ => True)) _) (Own.from (boxed_own _ _ _) _)) (ownFrom_below (by omega) (by omega)))
    (fun _ _ _ _ _ hs _ _ => hs)
    ⟨⟨⟨_, bO, World.ownsRow_nil _ _ _ _, trivial⟩, bL⟩, Below.refl _ _⟩
    (fun x a' W => ∃ Bx, w.heap.size + 2 < Bx ∧ W.heap[Bx]? = some (.cells #[.int .i64 x.2.1, .int .i64 x.2.2] 60 (0, 0)) ∧ a' = { tmps := #[.slice ao l.length cap, .int .i64 line, undef, .pointer (some ⟨w.heap.size, 0, none⟩), .slice none 0 0, .pointer (some ⟨w.heap.size + 1, 0, none⟩), .int .i64 x.1, .pointer (some ⟨Bx, 0, none⟩), .slice ao l.length cap, .func (.func 97) #[] #[.pointer (some ⟨w.heap.size + 1 + 1, 0, none⟩)], .int .i64 x.1, .agg #[.int .i64 x.2.1, .int .i64 x.2.2], undef, undef, undef, undef, undef, undef, undef, undef], defers := [] })
    (fun x a' _ X Y row hs hg hr => by obtain ⟨Bx, h1, h2, h3⟩ := hs; exact ⟨Bx, h1, blk_own Bx 60 (fun (_ : Unit) => #[.int .i64 x.2.1, .int .i64 x.2.2]) () X Y row h2 hg (fun r e => (hr r e).2), h3⟩)
    ?assign ?body ?done ?stop
  case assign =>
    rintro l1 pre x W K ⟨⟨⟨v, bO1, hr1, -⟩, bL1⟩, hB1⟩ hK
    gi_wp2
    exact hK _ _ ((KeepsOthers.alloc _ _).from _) ((KeepBs.rf _ _ W).al (by have := hB1.size; omega) _) ⟨⟨⟨v, bO1.alloc _, hr1.alloc _, trivial⟩, bL1.alloc _⟩, hB1.alloc (by have := hB1.size; omega) _⟩ ⟨W.heap.size, by have := hB1.size; omega, alloc_new W _, rfl⟩
  case body =>
    rintro l1 pre x a' W hl1 - ⟨⟨⟨v, bO1, hr1, -⟩, bL1⟩, hB1⟩ ⟨Bx, hBx, bX, rfl⟩ hlt
    have cL := bL1.cell
    have cO := bO1.cell
    have fO := bO1.frozen
    have x0 : W.cell? ⟨Bx, 0, none⟩ = some (.int .i64 x.2.1) := blk bX 0 rfl
    have x1 : W.cell? ⟨Bx, 1, none⟩ = some (.int .i64 x.2.2) := blk bX 1 rfl
    have hsW := hB1.size
    have hcl := collect_le line pre
    obtain ⟨ro, rc, rfl⟩ := own_form hr1
    by_cases hv : x.1 = line
    · have t0 : (x.1 == line) = true := by simpa using hv
      have HC : Hid (collect line (pre ++ [x]) = collect line pre ++ [x.2]) := collect_hit pre hv
      clear hv
      gi_wp2_with (gi_at_builtin; (refine wpListIn_push rfl (.tmp 15) (.tmp 17) 55 rfl (w.heap.size + 3) 60 60 (.agg #[.int .i64 0, .int .i64 0]) 2 16 Try.underlying55 (by kernel_rfl) rfl (by decide) _ (collect line pre).length _ [.int .i64 x.2.1, .int .i64 x.2.2] rfl hr1 _ rfl (by simp) rfl (by simp [Value.oneCell']) (by unfold maxLen; omega) (by omega) (by omega) ?_; intro v' w1 hr2 hg'; obtain ⟨g', cap', rfl⟩ := ownsRow_succ hr2; have hg : Hid (Grow W w1 (.slice ro (collect line pre).length rc) (.slice (some ⟨g', 0, none⟩) ((collect line pre).length + 1) cap')) := hg'; clear hg'; have bO2 := bO1.kept hg.out.togrownBy (bO1.not_row (by decide) hr1); have bL2 := bL1.kept hg.out.togrownBy (bL1.not_row (by decide) hr1); have cO2 := bO2.cell; have fO2 := bO2.frozen))
      refine ⟨((keeps_grow hr1 hg.out).trans (KeepsOthers.setCell _ _ _)).from _, ((KeepBs.rf _ _ W).grow (by omega) hr1 (by omega) (by omega) hg.out).set (by omega) (by omega) _,
        ⟨⟨_, bO2.set _, ?_, trivial⟩, bL2.other (by omega) _⟩, (below_grow hB1 (by omega) hr1 (by omega) hg.out).setCell (p := ⟨w.heap.size + 1, 0, none⟩) (by simp) _⟩
      rw [HC.out, List.length_append, List.flatMap_append]
      exact hr2.kept (grownBy_setCell' w1 _ _) (.inr (bO2.not_row (by decide) hr2).symm)
    · have t0 : (x.1 == line) = false := by simpa using hv
      have HC : Hid (collect line (pre ++ [x]) = collect line pre) := collect_miss pre hv
      clear hv
      gi_wp2
      exact ⟨KeepsFrom.refl _ _, KeepBs.rf _ _ _, ⟨⟨_, bO1, by rw [HC.out]; exact hr1, trivial⟩, bL1⟩, hB1⟩
  case done =>
    rintro D ys W hD hys ⟨⟨⟨v, bO1, hr1, -⟩, bL1⟩, hB1⟩ hK
    have HC : Hid (collect line ys = linesOf l line) := collect_all line hys
    have cO := bO1.cell
    obtain ⟨ro, rc, rfl⟩ := own_form hr1
    gi_wp2
    refine ⟨by simp, .inl ⟨_, _, rfl, run_takeDeferred hK, ?_⟩⟩
    have hr2 := ownsRow_putObj hr1 (.deferred none) hK rfl
    obtain ⟨ao', cap', e, hc', hf'⟩ := own_cells hr2
    have hBf : Below w.heap.size w (W.putObj D (.deferred none)) := hB0.trans (hB1.trans (belowK_b (w := w) (Nat.le_refl _) W D _ _ (by omega) hK rfl rfl))
    simp only [Value.slice.injEq, true_and] at e
    obtain ⟨rfl, rfl⟩ := e
    rw [HC.out] at hc'
    exact ⟨_, results_tmp rfl _ _ _, ro, rc, by rw [HC.out]; rfl, hc', hBf, hf'.mono (by omega)⟩
  case stop =>
    rintro D c pre W _ _ h _
    exact h.elim
theorem lines_Of (ao : Option Addr) (cap : Nat) (l : List Int) (line : Int) (w : World) (hc : Cells w ao (l.map (.int .i64))) (hl : l.length ≤ 4398046511104) :
    Calls Try.prog 35 #[.slice ao l.length cap, .int .i64 line] w (RetSl (linesOf l line).length ((linesOf l line).flatMap pairC) w) :=
  (callsIn_wide (n := 5)).1 (lines_Of_in 5 (Nat.le_refl _) ao cap l line w hc hl)
end Go.Proofs.Ytfeddkfpkdjbeaa
