/- RunsOf: the walk of the law. -/
import Derived.Test.YtfeddkfpkdjbeaaRunsPut
import Derived.Test.YtfeddkfpkdjbeaaRunsL
import Derived.Test.YtfeddkfpkdjbeaaRunsQ
import Derived.Test.YtfeddkfpkdjbeaaOpen
namespace Go.Proofs.Ytfeddkfpkdjbeaa
open Go.RowKit

theorem runsref_IntsN (ao bo : Option Addr) (ca cb n m : Nat) (l : List Int) (w : World) (hl : Cells w ao (l.map (.int .i64))) (hm : Cells w bo (l.map (.int .i64))) (hn : n = l.length) (hmm : m = l.length) (hlen : l.length ≤ 17592186044416) :
    Calls Try.prog 22 #[.slice ao n ca, .slice bo m cb] w fun e w' => e = .returned (.bool true) ∧ Ext w w' := by
  subst hn
  subst hmm
  have := runsref_Ints ao bo ca cb l l w hl hm hlen hlen
  rwa [decide_eq_true rfl] at this

set_option maxHeartbeats 4000000 in
set_option maxRecDepth 20000 in
theorem RunsOf_walk (ao0 : Option Addr) (cap0 : Nat) (l0 : List Int) (ao1 : Option Addr) (cap1 : Nat) (b1 : List UInt8) (w : World) (hl0 : Cells w ao0 (l0.map (.int .i64))) (hb0 : ∀ n ∈ l0, (Lit.int .i64 n).wf = true) (hl1 : Cells w ao1 (b1.map byteC)) :
    Calls Try.prog 6 #[.slice ao0 l0.length cap0, .slice ao1 b1.length cap1] w fun e w' => e = .returned (.bool true) ∧ Ext w w' := by
  have HB := Lib.hid (ints_bounds hb0)
  clear hb0
  by_cases h3 : 300 < l0.length ∨ 50 < b1.length
  · have hq : 300 < l0.length ∨ (l0.length ≤ 300 ∧ 50 < b1.length) := by omega
    clear h3
    rcases hq with h | ⟨h, h'⟩
    all_goals
      go_enter Try.func6, Try.ntmps6
      go_wp2_with fail
      refine (runs_lives _).mono ?_
      rintro e w1 ⟨rfl, hb⟩
      go_wp2_with fail
      go_ret
      exact ⟨rfl, hb⟩
  · obtain ⟨h4, h5⟩ : l0.length ≤ 300 ∧ b1.length ≤ 50 := by omega
    clear h3
    have hcl := (cntOk l0).1
    have HR := Lib.hid (rowOf_runsOf l0 (by omega))
    have HQ := Lib.hid (rightB_runsOf l0 (by omega))
    have hpl := putRuns_le (runsOf l0)
    go_enter Try.func6, Try.ntmps6
    go_wp2_with fail
    refine (runs_Of ao0 cap0 l0 w hl0 (by omega)).mono ?_
    rintro e w1 ⟨a1, k1, rfl, hr1, hx1, -⟩
    go_wp2_with fail
    refine (runsref_Of ao0 cap0 l0 w1 (hl0.ext hx1) (by omega)).mono ?_
    rintro e w2 ⟨a2, k2, rfl, hr2, hx2, -⟩
    go_wp2_with fail
    refine (runs_Row a1 k1 (runsOf l0) w2 (hr1.ext hx2) (by omega)).mono ?_
    rw [HR.out]
    rintro e w3 ⟨a3, k3, rfl, hr3, hx3⟩
    go_wp2_with fail
    refine (runsref_IntsN a3 ao0 k3 cap0 _ _ l0 w3 hr3 (((hl0.ext hx1).ext hx2).ext hx3) rfl rfl (by omega)).mono ?_
    rintro e w4 ⟨rfl, hx4⟩
    go_wp2_with fail
    refine (runs_Right a1 k1 (runsOf l0) w4 (((hr1.ext hx2).ext hx3).ext hx4) (by omega)).mono ?_
    rw [HQ.out]
    rintro e w5 ⟨rfl, hx5⟩
    have hx := (((hx1.tr hx2).tr hx3).tr hx4).tr hx5
    have g1 := (((hr1.ext hx2).ext hx3).ext hx4).ext hx5
    have g2 := ((hr2.ext hx3).ext hx4).ext hx5
    clear hx1 hx2 hx3 hx4 hx5 hr1 hr2 hr3 HR HQ
    go_wp2_with fail
    go_loopw [7] (fun i wr => ∃ k : Nat, k ≤ (runsOf l0).length ∧ i = .int .i64 k ∧ Ext w wr ∧ Ext w5 wr)
      (fun i _ => (runsOf l0).length - (intOf i).toNat)
    case atStart => exact ⟨0, Nat.zero_le _, rfl, hx, Ext.rf _⟩
    case round =>
      obtain ⟨k, hk, rfl, hext, hext5⟩ := hrel
      by_cases hlt : k < (runsOf l0).length
      · obtain ⟨b, off, rfl, c1, c2⟩ := (g1.ext hext5).pair (k := k) hlt
        obtain ⟨b', off', rfl, c3, c4⟩ := (g2.ext hext5).pair (k := k) hlt
        have i1 : (0 : Int) ≤ k := by omega
        have i2 : (k : Int) < (runsOf l0).length := by omega
        generalize (runsOf l0)[k] = p at *
        have t1 : (p.1 != p.1) = false := by simp
        have t2 : (p.2 != p.2) = false := by simp
        go_wp2
        go_quiet (fail)
        go_wp2
        go_roundw
        case rel => exact ⟨k + 1, by omega, by go_num, hext.drN _, hext5.drN _⟩
        case measure => simp [intOf]; omega
      · clear g1 g2
        have j0 := hl0.ext hext
        have j1 := hl1.ext hext
        have hxB : Ext wr (wr.drew.alloc (.cells #[] 5)) := (Ext.rf wr).dr.al _
        have ownB := World.ownsRow_lit (base := wr.heap.size) (e := 5) (size := 1) wr.drew #[] 0 (Nat.le_refl _) (by decide) rfl
        have jB := j1.ext hxB
        have hcb : ∀ W, Ext wr W → (convert 49 9 (.slice ao1 b1.length cap1)).run Try.prog W = .ok (.string ⟨b1.toArray⟩) W := fun W h => run_bytes_string _ rfl Try.underlying49 Try.underlying5 Try.underlying9 (j1.ext h)
        have hbound := HB.out
        have HCL := Lib.hid hcl
        have e0 := Ext.rf wr
        generalize hPR : putRuns (runsOf l0) = PR at *
        have HPR := Lib.hid hPR
        have hpl2 : PR.length ≤ 6000 := by omega
        clear hPR hpl
        have heq : (ByteArray.mk b1.toArray ++ ByteArray.mk PR.toArray).toList = b1 ++ PR := by rw [ByteArray.toList_eq]; simp [ByteArray.data_append]
        have hnb : ¬ 9223372036854775807 < b1.length + PR.length := by omega
        go_wp2_with fail
        refine wp_region_ext (fun W => Ext wr W) (by kernel_rfl) ((Ext.rf _).dr) (fun hS0 => ?_)
        refine take_op 1 (v := ?_) rfl (by kernel_rfl) (by kernel_rfl) (by kernel_rfl) (Or.inl ⟨by rfl, ?_⟩) (by assumption) ?_
        rotate_left 1
        · (intro W hS; go_simp; try with_reducible rfl)
        (try simp only [Act.put, List.setIfInBounds_toArray, List.set_cons_zero, List.set_cons_succ])
        refine take_op 3 (v := ?_) rfl (by kernel_rfl) (by kernel_rfl) (by kernel_rfl) (Or.inl ⟨by rfl, ?_⟩) (by assumption) ?_
        rotate_left 1
        · (intro W hS; go_simp; try with_reducible rfl)
        (try simp only [Act.put, List.setIfInBounds_toArray, List.set_cons_zero, List.set_cons_succ])
        refine take_op 6 (v := ?_) rfl (by kernel_rfl) (by kernel_rfl) (by kernel_rfl) (Or.inl ⟨by rfl, ?_⟩) (by assumption) ?_
        rotate_left 1
        · (intro W hS; go_simp; try with_reducible rfl)
        (try simp only [Act.put, List.setIfInBounds_toArray, List.set_cons_zero, List.set_cons_succ])
        refine take_op 7 (v := ?_) rfl (by kernel_rfl) (by kernel_rfl) (by kernel_rfl) (Or.inl ⟨by rfl, ?_⟩) (by assumption) ?_
        rotate_left 1
        · (intro W hS; go_simp; try with_reducible rfl)
        (try simp only [Act.put, List.setIfInBounds_toArray, List.set_cons_zero, List.set_cons_succ])
        refine take_op 8 (v := ?_) rfl (by kernel_rfl) (by kernel_rfl) (by kernel_rfl) (Or.inl ⟨by rfl, ?_⟩) (by assumption) ?_
        rotate_left 1
        · (intro W hS; go_simp; try with_reducible rfl)
        (try simp only [Act.put, List.setIfInBounds_toArray, List.set_cons_zero, List.set_cons_succ])
        refine do_op 0 rfl (by kernel_rfl) (fun K hK => ?_)
        go_simp
        refine hK.out _ _ hxB (fun hS => ?_)
        clear hK K
        (try simp only [Act.put, List.setIfInBounds_toArray, List.set_cons_zero, List.set_cons_succ])
        refine do_op 2 rfl (by kernel_rfl) (fun K hK => ?_)
        (refine step_appendAll rfl (.tmp 68) (.tmp 69) 49 rfl wr.heap.size 5 (.int .u8 0) 1 1 Try.underlying49 (by kernel_rfl) rfl (by decide) _ 0 _ ao1 b1.length cap1 (b1.map byteC) rfl ownB rfl jB (by simp) (by intro u hu; simp only [List.mem_map] at hu; obtain ⟨_, _, rfl⟩ := hu; rfl) (by unfold maxLen; omega) (by omega) hxB.size ?_; intro v6 w6 ho6 hg6; have hxA := hxB.push ownB (Nat.le_refl _) hg6)
        refine hK.out _ _ hxA (fun hS => ?_)
        clear hK K
        (try simp only [Act.put, List.setIfInBounds_toArray, List.set_cons_zero, List.set_cons_succ])
        refine do_op 4 rfl (by kernel_rfl) (fun K hK => ?_)
        go_simp; (with_reducible refine (runs_Put wr.heap.size _ _ _ ao0 cap0 l0 _ ho6 hxA.size (by omega) (j0.ext hxA) (by omega) hbound).mono ?_); rintro e w7 ⟨v7, rfl, ho7, hg7⟩; rw [HPR.out] at ho7; have hxP := hxA.push ho6 (Nat.le_refl _) hg7; obtain ⟨a7, k7, rfl, hc7, -⟩ := own_cells ho7
        refine hK.out _ _ hxP (fun hS => ?_)
        clear hK K
        (try simp only [Act.put, List.setIfInBounds_toArray, List.set_cons_zero, List.set_cons_succ])
        refine wpAnyH_weaken (S' := fun W => Ext w7 W) (fun W h => Ext.tr hxP h) _ _ _ _ ?_
        have hS : Ext w7 w7 := Ext.rf _
        have hcv7 : ∀ W, Ext w7 W → (convert 49 9 (.slice a7 (b1.length + PR.length) k7)).run Try.prog W = .ok (.string ⟨(b1 ++ PR).toArray⟩) W := fun W h => run_bytes_string _ (by simp) Try.underlying49 Try.underlying5 Try.underlying9 (by simpa using hc7.ext h)
        refine take_op 5 (v := ?_) rfl (by kernel_rfl) (by kernel_rfl) (by kernel_rfl) (Or.inl ⟨by rfl, ?_⟩) (by assumption) ?_
        rotate_left 1
        · (intro W hS; go_simp; try with_reducible rfl)
        (try simp only [Act.put, List.setIfInBounds_toArray, List.set_cons_zero, List.set_cons_succ])
        refine do_op 9 rfl (by kernel_rfl) (fun K hK => ?_)
        go_simp; (with_reducible refine (runsref_Put ao0 cap0 l0 _ (j0.ext hxP) (by omega) hbound).mono ?_); rw [HPR.out]; rintro e w8 ⟨a8, k8, rfl, hc8, hx8, -⟩
        refine hK.out _ _ hx8 (fun hS => ?_)
        clear hK K
        (try simp only [Act.put, List.setIfInBounds_toArray, List.set_cons_zero, List.set_cons_succ])
        refine wpAnyH_weaken (S' := fun W => Ext w8 W) (fun W h => Ext.tr hx8 h) _ _ _ _ ?_
        have hS : Ext w8 w8 := Ext.rf _
        have hcv8 : ∀ W, Ext w8 W → (convert 49 9 (.slice a8 PR.length k8)).run Try.prog W = .ok (.string ⟨PR.toArray⟩) W := fun W h => run_bytes_string _ rfl Try.underlying49 Try.underlying5 Try.underlying9 (hc8.ext h)
        refine take_op 10 (v := ?_) rfl (by kernel_rfl) (by kernel_rfl) (by kernel_rfl) (Or.inl ⟨by rfl, ?_⟩) (by assumption) ?_
        rotate_left 1
        · (intro W hS; go_simp; try with_reducible rfl)
        (try simp only [Act.put, List.setIfInBounds_toArray, List.set_cons_zero, List.set_cons_succ])
        refine take_op 11 (v := ?_) rfl (by kernel_rfl) (by kernel_rfl) (by kernel_rfl) (Or.inl ⟨by rfl, ?_⟩) (by assumption) ?_
        rotate_left 1
        · (intro W hS; go_simp; try with_reducible rfl)
        (try simp only [Act.put, List.setIfInBounds_toArray, List.set_cons_zero, List.set_cons_succ])
        refine take_op 12 (v := ?_) rfl (by kernel_rfl) (by kernel_rfl) (by kernel_rfl) (Or.inl ⟨by rfl, ?_⟩) (by assumption) ?_
        rotate_left 1
        · (intro W hS; go_simp; try with_reducible rfl)
        (try simp only [Act.put, List.setIfInBounds_toArray, List.set_cons_zero, List.set_cons_succ])
        refine take_op 13 (v := ?_) rfl (by kernel_rfl) (by kernel_rfl) (by kernel_rfl) (Or.inl ⟨by rfl, ?_⟩) (by assumption) ?_
        rotate_left 1
        · (intro W hS; go_simp; try with_reducible rfl)
        (try simp only [Act.put, List.setIfInBounds_toArray, List.set_cons_zero, List.set_cons_succ])
        refine do_op 14 rfl (by kernel_rfl) (fun K hK => ?_)
        go_simp; (with_reducible refine (runs_lives _).mono ?_); rintro e w9 ⟨rfl, hx9⟩
        refine hK.out _ _ hx9 (fun hS => ?_)
        clear hK K
        (try simp only [Act.put, List.setIfInBounds_toArray, List.set_cons_zero, List.set_cons_succ])
        refine take_op 15 (v := ?_) rfl (by kernel_rfl) (by kernel_rfl) (by kernel_rfl) (Or.inl ⟨by rfl, ?_⟩) (by assumption) ?_
        rotate_left 1
        · (intro W hS; go_simp; try with_reducible rfl)
        (try simp only [Act.put, List.setIfInBounds_toArray, List.set_cons_zero, List.set_cons_succ])
        refine take_op 16 (v := ?_) rfl (by kernel_rfl) (by kernel_rfl) (by kernel_rfl) (Or.inl ⟨by rfl, ?_⟩) (by assumption) ?_
        rotate_left 1
        · (intro W hS; go_simp; try with_reducible rfl)
        (try simp only [Act.put, List.setIfInBounds_toArray, List.set_cons_zero, List.set_cons_succ])
        refine wpAnyH_done (by kernel_rfl) ?_ _
        refine NoPanic.normal ?_
        go_wp2_with fail
        go_ret
        exact ⟨rfl, ((hext.tr hxP).tr hx8).tr hx9⟩
end Go.Proofs.Ytfeddkfpkdjbeaa
