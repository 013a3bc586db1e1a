/- LinesTables: the walk of the law. -/
import Derived.Test.YtfeddkfpkdjbeaaRunsPut
import Derived.Test.YtfeddkfpkdjbeaaLinesC
import Derived.Test.YtfeddkfpkdjbeaaOpen
namespace Go.Proofs.Ytfeddkfpkdjbeaa
open Go.RowKit

theorem lines_Put (ao : Option Addr) (cap : Nat) (l : List Int) (w : World)
    (hc : Cells w ao (l.map (.int .i64))) (hl : l.length ≤ 4398046511) (hv : ∀ n ∈ l, -9223372036854775808 ≤ n ∧ n ≤ 9223372036854775807) :
    Calls Try.prog 41 #[.slice none 0 0, .slice ao l.length cap] w (RetSl (putRuns (runsOf l)).length ((putRuns (runsOf l)).map byteC) w) := by
  have HV := Lib.hid hv
  clear hv
  go_enter Try.func41, Try.ntmps41
  go_wp2_with fail
  refine (runs_Put w.heap.size _ 0 [] ao cap l w (World.ownsRow_nil _ _ _ _) (Nat.le_refl _) (by omega) hc hl HV.out).mono ?_
  rintro e w1 ⟨v', rfl, hr, hg⟩
  have hx := (Ext.rf w).push (World.ownsRow_nil w w.heap.size 5 1) (Nat.le_refl _) hg
  rw [Nat.zero_add, List.nil_append] at hr
  obtain ⟨ao', cap', rfl, hc', hf'⟩ := own_cells hr
  clear hr hg
  go_wp2_with fail
  go_ret
  exact ⟨ao', cap', rfl, hc', hx, hf'⟩

theorem lines_Of_1121 (g : Nat) (w : World) (hc : Cells w (some ⟨g, 0, none⟩) ([1, 1, 2, 1].map (.int .i64))) : Calls Try.prog 35 #[.slice (some ⟨g, 0, none⟩) 4 4, .int .i64 1] w fun e w' =>
    ∃ ao cap, e = .returned (.slice ao 2 cap) ∧ Cells w' ao ([(0, 2), (3, 4)].flatMap pairC) ∧ Ext w w' :=
  (lines_Of _ _ [1, 1, 2, 1] 1 w hc (by decide)).mono fun e w' ⟨ao, cap, h1, h2, h3, _⟩ => ⟨ao, cap, h1, h2, h3⟩
theorem lines_At_5 (g : Nat) (w : World) (hc : Cells w (some ⟨g, 0, none⟩) ([5].map (.int .i64))) : Calls Try.prog 39 #[.slice (some ⟨g, 0, none⟩) 1 1, .int .i64 0] w fun e w' => e = .returned (.int .i64 5) ∧ Ext w w' :=
  lines_At _ _ [5] 0 w hc (by decide) (by decide) (by decide)
theorem lines_Right_5 (g : Nat) (w : World) (hc : Cells w (some ⟨g, 0, none⟩) ([5].map (.int .i64))) : Calls Try.prog 37 #[.slice (some ⟨g, 0, none⟩) 1 1] w fun e w' => e = .returned (.bool true) ∧ Ext w w' :=
  lines_Right _ _ [5] w hc (by decide) (by decide)

set_option maxHeartbeats 1000000 in
set_option maxRecDepth 20000 in
theorem lines_lives (w : World) : Calls Try.prog 34 #[] w fun e w' => e = .returned (.bool true) ∧ Ext w w' := by
  go_enter Try.func34, Try.ntmps34
  go_wp2_with fail
  refine (lines_Of_1121 _ _ (cells_new w _ _ _ rfl)).mono ?_
  rintro e w1 ⟨ao, cap, rfl, hc, hb⟩
  obtain ⟨b, off, rfl, c1, c2⟩ := hc.pair (k := 0) (by decide)
  obtain ⟨b', off', e', c3, c4⟩ := hc.pair (k := 1) (by decide)
  simp only [Option.some.injEq, Addr.mk.injEq, and_true] at e'
  obtain ⟨rfl, rfl⟩ := e'
  simp only [Nat.zero_mul, Nat.add_zero, Nat.one_mul, List.getElem_cons_zero, List.getElem_cons_succ] at c1 c2 c3 c4
  have hb0 := ((Ext.rf w).al _).tr hb
  clear hb
  go_wp2_with fail
  refine (lines_At_5 _ _ (cells_new w1 _ _ _ rfl)).mono ?_
  rintro e w2 ⟨rfl, hb2⟩
  have hb3 := (hb0.al _).tr hb2
  clear hb2
  go_wp2_with fail
  refine (lines_Right_5 _ _ (cells_new w2 _ _ _ rfl)).mono ?_
  rintro e w3 ⟨rfl, hb4⟩
  have hb5 := (hb3.al _).tr hb4
  clear hb4
  go_wp2_with fail
  go_ret
  exact ⟨rfl, hb5⟩

set_option maxHeartbeats 4000000 in
set_option maxRecDepth 20000 in
theorem LinesTables_walk (ao0 : Option Addr) (cap0 : Nat) (l0 : List Int) (x1 x2 : Int) (w : World) (hl0 : Cells w ao0 (l0.map (.int .i64))) (hb0 : ∀ n ∈ l0, (Lit.int .i64 n).wf = true) (hx1 : (Lit.int .i64 x1).wf = true) (hx2 : (Lit.int .i64 x2).wf = true) :
    Calls Try.prog 7 #[.slice ao0 l0.length cap0, .int .i64 x1, .int .i64 x2] w fun e w' => e = .returned (.bool true) ∧ Ext w w' := by
  have HB := Lib.hid (ints_bounds hb0)
  have hpc : -9223372036854775808 ≤ x1 ∧ x1 ≤ 9223372036854775807 := ints_bounds (l := [x1]) (by simpa using hx1) x1 (by simp)
  clear hb0 hx1 hx2
  by_cases h3 : 300 < l0.length
  · go_enter Try.func7, Try.ntmps7
    go_wp2_with fail
    refine (lines_lives _).mono ?_
    rintro e w1 ⟨rfl, hb⟩
    go_wp2_with fail
    go_ret
    exact ⟨rfl, hb⟩
  · have hle : l0.length ≤ 300 := by omega
    clear h3
    have hcl := (ofUpto_ok l0 x2 l0.length).1
    have hpl : (putRuns (runsOf l0)).length ≤ 6000 := by have := putRuns_le (runsOf l0); have := (cntOk l0).1; omega
    go_enter Try.func7, Try.ntmps7
    go_wp2_with fail
    refine (lines_Of ao0 cap0 l0 x2 w hl0 (by omega)).mono ?_
    rintro e w1 ⟨a1, k1, rfl, hr1, hx1, -⟩
    go_wp2_with fail
    refine (linesref_Of ao0 cap0 l0 x2 w1 (hl0.ext hx1) (by omega)).mono ?_
    rintro e w2 ⟨a2, k2, rfl, hr2, hx2, -⟩
    have hx := hx1.tr hx2
    have g1 := hr1.ext hx2
    change (linesOf l0 x2).length ≤ _ at hcl
    generalize linesOf l0 x2 = R at *
    clear hx1 hx2 hr1
    go_wp2_with fail
    go_loopw [9] (fun i wr => ∃ k : Nat, k ≤ R.length ∧ i = .int .i64 k ∧ Ext w wr ∧ Ext w2 wr)
      (fun i _ => R.length - (intOf i).toNat)
    case atStart => exact ⟨0, Nat.zero_le _, rfl, hx, Ext.rf _⟩
    case round =>
      obtain ⟨k, hk, rfl, hext, hext2⟩ := hrel
      by_cases hlt : k < R.length
      · obtain ⟨b, off, rfl, c1, c2⟩ := (g1.ext hext2).pair (k := k) hlt
        obtain ⟨b', off', rfl, c3, c4⟩ := (hr2.ext hext2).pair (k := k) hlt
        have i1 : (0 : Int) ≤ k := by omega
        have i2 : (k : Int) < R.length := by omega
        generalize R[k] = p at *
        have t1 : (p.1 != p.1) = false := by simp
        have t2 : (p.2 != p.2) = false := by simp
        go_wp2
        go_quiet (fail)
        go_wp2
        go_roundw
        case rel => exact ⟨k + 1, by omega, by go_num, hext.drN _, hext2.drN _⟩
        case measure => simp [intOf]; omega
      · clear g1 hr2
        have j0 := hl0.ext hext
        have hbound := HB.out
        have e0 := Ext.rf wr
        generalize hPR : putRuns (runsOf l0) = PR at *
        have HPR := Lib.hid hPR
        have HBD := Lib.hid hbound
        clear hPR hbound
        go_wp2_with fail
        refine wp_region_ext (fun W => Ext wr W) (by kernel_rfl) ((Ext.rf _).dr) (fun hS0 => ?_)
        refine take_op 0 (v := ?_) rfl (by kernel_rfl) (by kernel_rfl) (by kernel_rfl) (Or.inl ⟨by rfl, ?_⟩) (by assumption) ?_
        rotate_left 1
        · (intro W hS; go_simp; try with_reducible rfl)
        (try simp only [Act.put, List.setIfInBounds_toArray, List.set_cons_zero, List.set_cons_succ])
        refine take_op 2 (v := ?_) rfl (by kernel_rfl) (by kernel_rfl) (by kernel_rfl) (Or.inl ⟨by rfl, ?_⟩) (by assumption) ?_
        rotate_left 1
        · (intro W hS; go_simp; try with_reducible rfl)
        (try simp only [Act.put, List.setIfInBounds_toArray, List.set_cons_zero, List.set_cons_succ])
        refine do_op 1 rfl (by kernel_rfl) (fun K hK => ?_)
        go_simp; (with_reducible refine (lines_Right ao0 cap0 l0 _ (j0.ext ((Ext.rf wr).dr)) (by omega) HBD.out).mono ?_); rintro e w3 ⟨rfl, hx3⟩; have hy3 := (Ext.rf wr).dr.tr hx3
        refine hK.out _ _ hy3 (fun hS => ?_)
        clear hK K
        (try simp only [Act.put, List.setIfInBounds_toArray, List.set_cons_zero, List.set_cons_succ])
        refine do_op 3 rfl (by kernel_rfl) (fun K hK => ?_)
        go_simp; (with_reducible refine (linesref_Right ao0 cap0 l0 _ (j0.ext hy3) (by omega)).mono ?_); rintro e w4 ⟨rfl, hx4⟩; have hy4 := hy3.tr hx4; have hq : (rightLines l0 == rightLines l0) = true := by simp
        refine hK.out _ _ hy4 (fun hS => ?_)
        clear hK K
        (try simp only [Act.put, List.setIfInBounds_toArray, List.set_cons_zero, List.set_cons_succ])
        refine take_op 4 (v := ?_) rfl (by kernel_rfl) (by kernel_rfl) (by kernel_rfl) (Or.inl ⟨by rfl, ?_⟩) (by assumption) ?_
        rotate_left 1
        · (intro W hS; go_simp; try with_reducible rfl)
        (try simp only [Act.put, List.setIfInBounds_toArray, List.set_cons_zero, List.set_cons_succ])
        refine take_op 5 (v := ?_) rfl (by kernel_rfl) (by kernel_rfl) (by kernel_rfl) (Or.inl ⟨by rfl, ?_⟩) (by assumption) ?_
        rotate_left 1
        · (intro W hS; go_simp; try with_reducible rfl)
        (try simp only [Act.put, List.setIfInBounds_toArray, List.set_cons_zero, List.set_cons_succ])
        refine take_op 6 (v := ?_) rfl (by kernel_rfl) (by kernel_rfl) (by kernel_rfl) (Or.inl ⟨by rfl, ?_⟩) (by assumption) ?_
        rotate_left 1
        · (intro W hS; go_simp; try with_reducible rfl)
        (try simp only [Act.put, List.setIfInBounds_toArray, List.set_cons_zero, List.set_cons_succ])
        refine take_op 7 (v := ?_) rfl (by kernel_rfl) (by kernel_rfl) (by kernel_rfl) (Or.inl ⟨by rfl, ?_⟩) (by assumption) ?_
        rotate_left 1
        · (intro W hS; go_simp; try with_reducible rfl)
        (try simp only [Act.put, List.setIfInBounds_toArray, List.set_cons_zero, List.set_cons_succ])
        refine take_op 9 (v := ?_) rfl (by kernel_rfl) (by kernel_rfl) (by kernel_rfl) (Or.inl ⟨by rfl, ?_⟩) (by assumption) ?_
        rotate_left 1
        · (intro W hS; go_simp; try with_reducible rfl)
        (try simp only [Act.put, List.setIfInBounds_toArray, List.set_cons_zero, List.set_cons_succ])
        refine take_op 10 (v := ?_) rfl (by kernel_rfl) (by kernel_rfl) (by kernel_rfl) (Or.inl ⟨by rfl, ?_⟩) (by assumption) ?_
        rotate_left 1
        · (intro W hS; go_simp; try with_reducible rfl)
        (try simp only [Act.put, List.setIfInBounds_toArray, List.set_cons_zero, List.set_cons_succ])
        refine do_op 8 rfl (by kernel_rfl) (fun K hK => ?_)
        go_simp; (with_reducible refine (lines_At ao0 cap0 l0 x1 _ (j0.ext hy4) (by omega) hpc.1 hpc.2).mono ?_); rintro e w5 ⟨rfl, hx5⟩; have hy5 := hy4.tr hx5
        refine hK.out _ _ hy5 (fun hS => ?_)
        clear hK K
        (try simp only [Act.put, List.setIfInBounds_toArray, List.set_cons_zero, List.set_cons_succ])
        refine do_op 11 rfl (by kernel_rfl) (fun K hK => ?_)
        go_simp; (with_reducible refine (linesref_At ao0 cap0 l0 x1 _ (j0.ext hy5) (by omega) hpc.1 hpc.2).mono ?_); rintro e w6 ⟨rfl, hx6⟩; have hy6 := hy5.tr hx6; have hq2 : (atLine l0 x1 == atLine l0 x1) = true := by simp
        refine hK.out _ _ hy6 (fun hS => ?_)
        clear hK K
        (try simp only [Act.put, List.setIfInBounds_toArray, List.set_cons_zero, List.set_cons_succ])
        refine take_op 12 (v := ?_) rfl (by kernel_rfl) (by kernel_rfl) (by kernel_rfl) (Or.inl ⟨by rfl, ?_⟩) (by assumption) ?_
        rotate_left 1
        · (intro W hS; go_simp; try with_reducible rfl)
        (try simp only [Act.put, List.setIfInBounds_toArray, List.set_cons_zero, List.set_cons_succ])
        refine take_op 13 (v := ?_) rfl (by kernel_rfl) (by kernel_rfl) (by kernel_rfl) (Or.inl ⟨by rfl, ?_⟩) (by assumption) ?_
        rotate_left 1
        · (intro W hS; go_simp; try with_reducible rfl)
        (try simp only [Act.put, List.setIfInBounds_toArray, List.set_cons_zero, List.set_cons_succ])
        refine take_op 14 (v := ?_) rfl (by kernel_rfl) (by kernel_rfl) (by kernel_rfl) (Or.inl ⟨by rfl, ?_⟩) (by assumption) ?_
        rotate_left 1
        · (intro W hS; go_simp; try with_reducible rfl)
        (try simp only [Act.put, List.setIfInBounds_toArray, List.set_cons_zero, List.set_cons_succ])
        refine take_op 15 (v := ?_) rfl (by kernel_rfl) (by kernel_rfl) (by kernel_rfl) (Or.inl ⟨by rfl, ?_⟩) (by assumption) ?_
        rotate_left 1
        · (intro W hS; go_simp; try with_reducible rfl)
        (try simp only [Act.put, List.setIfInBounds_toArray, List.set_cons_zero, List.set_cons_succ])
        refine take_op 18 (v := ?_) rfl (by kernel_rfl) (by kernel_rfl) (by kernel_rfl) (Or.inl ⟨by rfl, ?_⟩) (by assumption) ?_
        rotate_left 1
        · (intro W hS; go_simp; try with_reducible rfl)
        (try simp only [Act.put, List.setIfInBounds_toArray, List.set_cons_zero, List.set_cons_succ])
        refine do_op 16 rfl (by kernel_rfl) (fun K hK => ?_)
        go_simp; (with_reducible refine (lines_Put ao0 cap0 l0 _ (j0.ext hy6) (by omega) HBD.out).mono ?_); rw [HPR.out]; rintro e w7 ⟨a7, k7, rfl, hc7, hx7, -⟩; have hy7 := hy6.tr hx7
        refine hK.out _ _ hy7 (fun hS => ?_)
        clear hK K
        (try simp only [Act.put, List.setIfInBounds_toArray, List.set_cons_zero, List.set_cons_succ])
        refine wpAnyH_weaken (S' := fun W => Ext w7 W) (fun W h => Ext.tr hy7 h) _ _ _ _ ?_
        have hS : Ext w7 w7 := Ext.rf _
        have hcv7 : ∀ W, Ext w7 W → (convert 49 9 (.slice a7 PR.length k7)).run Try.prog W = .ok (.string ⟨PR.toArray⟩) W := fun W h => run_bytes_string _ rfl Try.underlying49 Try.underlying5 Try.underlying9 (hc7.ext h)
        refine take_op 17 (v := ?_) rfl (by kernel_rfl) (by kernel_rfl) (by kernel_rfl) (Or.inl ⟨by rfl, ?_⟩) (by assumption) ?_
        rotate_left 1
        · (intro W hS; go_simp; try with_reducible rfl)
        (try simp only [Act.put, List.setIfInBounds_toArray, List.set_cons_zero, List.set_cons_succ])
        refine do_op 19 rfl (by kernel_rfl) (fun K hK => ?_)
        go_simp; (with_reducible refine (runsref_Put ao0 cap0 l0 _ (j0.ext hy7) (by omega) HBD.out).mono ?_); rw [HPR.out]; rintro e w8 ⟨a8, k8, rfl, hc8, hx8, -⟩
        refine hK.out _ _ hx8 (fun hS => ?_)
        clear hK K
        (try simp only [Act.put, List.setIfInBounds_toArray, List.set_cons_zero, List.set_cons_succ])
        refine wpAnyH_weaken (S' := fun W => Ext w8 W) (fun W h => Ext.tr hx8 h) _ _ _ _ ?_
        have hS : Ext w8 w8 := Ext.rf _
        have hcv8 : ∀ W, Ext w8 W → (convert 49 9 (.slice a8 PR.length k8)).run Try.prog W = .ok (.string ⟨PR.toArray⟩) W := fun W h => run_bytes_string _ rfl Try.underlying49 Try.underlying5 Try.underlying9 (hc8.ext h)
        refine take_op 20 (v := ?_) rfl (by kernel_rfl) (by kernel_rfl) (by kernel_rfl) (Or.inl ⟨by rfl, ?_⟩) (by assumption) ?_
        rotate_left 1
        · (intro W hS; go_simp; try with_reducible rfl)
        (try simp only [Act.put, List.setIfInBounds_toArray, List.set_cons_zero, List.set_cons_succ])
        refine take_op 21 (v := ?_) rfl (by kernel_rfl) (by kernel_rfl) (by kernel_rfl) (Or.inl ⟨by rfl, ?_⟩) (by assumption) ?_
        rotate_left 1
        · (intro W hS; go_simp; try with_reducible rfl)
        (try simp only [Act.put, List.setIfInBounds_toArray, List.set_cons_zero, List.set_cons_succ])
        refine take_op 22 (v := ?_) rfl (by kernel_rfl) (by kernel_rfl) (by kernel_rfl) (Or.inl ⟨by rfl, ?_⟩) (by assumption) ?_
        rotate_left 1
        · (intro W hS; go_simp; try with_reducible rfl)
        (try simp only [Act.put, List.setIfInBounds_toArray, List.set_cons_zero, List.set_cons_succ])
        refine take_op 23 (v := ?_) rfl (by kernel_rfl) (by kernel_rfl) (by kernel_rfl) (Or.inl ⟨by rfl, ?_⟩) (by assumption) ?_
        rotate_left 1
        · (intro W hS; go_simp; try with_reducible rfl)
        (try simp only [Act.put, List.setIfInBounds_toArray, List.set_cons_zero, List.set_cons_succ])
        refine do_op 24 rfl (by kernel_rfl) (fun K hK => ?_)
        go_simp; (with_reducible refine (lines_lives _).mono ?_); rintro e w9 ⟨rfl, hx9⟩
        refine hK.out _ _ hx9 (fun hS => ?_)
        clear hK K
        (try simp only [Act.put, List.setIfInBounds_toArray, List.set_cons_zero, List.set_cons_succ])
        refine take_op 25 (v := ?_) rfl (by kernel_rfl) (by kernel_rfl) (by kernel_rfl) (Or.inl ⟨by rfl, ?_⟩) (by assumption) ?_
        rotate_left 1
        · (intro W hS; go_simp; try with_reducible rfl)
        (try simp only [Act.put, List.setIfInBounds_toArray, List.set_cons_zero, List.set_cons_succ])
        refine take_op 26 (v := ?_) rfl (by kernel_rfl) (by kernel_rfl) (by kernel_rfl) (Or.inl ⟨by rfl, ?_⟩) (by assumption) ?_
        rotate_left 1
        · (intro W hS; go_simp; try with_reducible rfl)
        (try simp only [Act.put, List.setIfInBounds_toArray, List.set_cons_zero, List.set_cons_succ])
        refine wpAnyH_done (by kernel_rfl) ?_ _
        refine NoPanic.normal ?_
        go_wp2_with fail
        go_ret
        exact ⟨rfl, ((hext.tr hy7).tr hx8).tr hx9⟩
end Go.Proofs.Ytfeddkfpkdjbeaa
