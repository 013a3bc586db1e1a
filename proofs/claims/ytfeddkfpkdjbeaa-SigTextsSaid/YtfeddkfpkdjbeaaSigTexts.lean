/- SigTexts: the walk of the law. -/
import Derived.Test.YtfeddkfpkdjbeaaSigM
import Derived.Test.YtfeddkfpkdjbeaaOpen
namespace Go.Proofs.Ytfeddkfpkdjbeaa
open Go.RowKit

set_option maxHeartbeats 4000000 in
set_option maxRecDepth 20000 in
theorem SigTexts_walk (ao0 : Option Addr) (cap0 : Nat) (l0 : List Int) (ao1 : Option Addr) (cap1 : Nat) (l1 : List Int) (x2 : Int) (w : World) (hl0 : Cells w ao0 (l0.map (.int .i64))) (hb0 : ∀ n ∈ l0, (Lit.int .i64 n).wf = true)
    (hl1 : Cells w ao1 (l1.map (.int .i64))) (hb1 : ∀ n ∈ l1, (Lit.int .i64 n).wf = true) (hx2 : (Lit.int .i64 x2).wf = true) :
    Calls Try.prog 8 #[.slice ao0 l0.length cap0, .slice ao1 l1.length cap1, .int .i64 x2] w fun e w' => e = .returned (.bool true) ∧ Ext w w' := by
  have HB := Lib.hid (ints_bounds hb0)
  clear hb0 hb1 hx2
  by_cases h3 : 100 < l0.length ∨ 100 < l1.length
  · have hq : 100 < l0.length ∨ (l0.length ≤ 100 ∧ 100 < l1.length) := by omega
    clear h3
    rcases hq with h | ⟨h, h'⟩
    all_goals
      go_enter Try.func8, Try.ntmps8
      go_wp2_with fail
      refine (sig_lives _).mono ?_
      rintro e w1 ⟨rfl, hb⟩
      go_wp2_with fail
      go_ret
      exact ⟨rfl, hb⟩
  · obtain ⟨h4, h5⟩ : l0.length ≤ 100 ∧ l1.length ≤ 100 := by omega
    clear h3
    go_enter Try.func8, Try.ntmps8
    go_wp2_with fail
    go_loopw [7] (fun i wr => ∃ k : Nat, k ≤ l0.length ∧ i = .int .i64 k ∧ Ext w wr)
      (fun i _ => l0.length - (intOf i).toNat)
    case atStart => exact ⟨0, Nat.zero_le _, rfl, Ext.rf _⟩
    case round =>
      obtain ⟨k, hk, rfl, hext⟩ := hrel
      by_cases hlt : k < l0.length
      · obtain ⟨b, off, rfl, c1⟩ := (hl0.ext hext).at (k := k) (by simpa using hlt)
        simp only [List.getElem_map] at c1
        have i1 : (0 : Int) ≤ k := by omega
        have i2 : (k : Int) < l0.length := by omega
        generalize l0[k] = a at *
        go_wp2_with fail
        refine wp_region_ext (fun W => Ext wr W) (by kernel_rfl) ((Ext.rf _).dr) (fun hS0 => ?_)
        refine take_op 0 (v := ?_) rfl (by kernel_rfl) (by kernel_rfl) (by kernel_rfl) (Or.inl ⟨by rfl, ?_⟩) (by assumption) ?_
        rotate_left 1
        · (intro W hS; go_simp; try with_reducible rfl)
        (try simp only [Act.put, List.setIfInBounds_toArray, List.set_cons_zero, List.set_cons_succ])
        refine take_op 1 (v := ?_) rfl (by kernel_rfl) (by kernel_rfl) (by kernel_rfl) (Or.inl ⟨by rfl, ?_⟩) (by assumption) ?_
        rotate_left 1
        · (intro W hS; go_simp; try with_reducible rfl)
        (try simp only [Act.put, List.setIfInBounds_toArray, List.set_cons_zero, List.set_cons_succ])
        refine take_op 2 (v := ?_) rfl (by kernel_rfl) (by kernel_rfl) (by kernel_rfl) (Or.inl ⟨by rfl, ?_⟩) (by assumption) ?_
        rotate_left 1
        · (intro W hS; go_simp; try with_reducible rfl)
        (try simp only [Act.put, List.setIfInBounds_toArray, List.set_cons_zero, List.set_cons_succ])
        refine take_op 3 (v := ?_) rfl (by kernel_rfl) (by kernel_rfl) (by kernel_rfl) (Or.inl ⟨by rfl, ?_⟩) (by assumption) ?_
        rotate_left 1
        · (intro W hS; have c1 := hS.has c1; go_simp; try with_reducible rfl)
        (try simp only [Act.put, List.setIfInBounds_toArray, List.set_cons_zero, List.set_cons_succ])
        refine take_op 5 (v := ?_) rfl (by kernel_rfl) (by kernel_rfl) (by kernel_rfl) (Or.inl ⟨by rfl, ?_⟩) (by assumption) ?_
        rotate_left 1
        · (intro W hS; go_simp; try with_reducible rfl)
        (try simp only [Act.put, List.setIfInBounds_toArray, List.set_cons_zero, List.set_cons_succ])
        refine take_op 6 (v := ?_) rfl (by kernel_rfl) (by kernel_rfl) (by kernel_rfl) (Or.inl ⟨by rfl, ?_⟩) (by assumption) ?_
        rotate_left 1
        · (intro W hS; go_simp; try with_reducible rfl)
        (try simp only [Act.put, List.setIfInBounds_toArray, List.set_cons_zero, List.set_cons_succ])
        refine take_op 7 (v := ?_) rfl (by kernel_rfl) (by kernel_rfl) (by kernel_rfl) (Or.inl ⟨by rfl, ?_⟩) (by assumption) ?_
        rotate_left 1
        · (intro W hS; go_simp; try with_reducible rfl)
        (try simp only [Act.put, List.setIfInBounds_toArray, List.set_cons_zero, List.set_cons_succ])
        refine take_op 8 (v := ?_) rfl (by kernel_rfl) (by kernel_rfl) (by kernel_rfl) (Or.inl ⟨by rfl, ?_⟩) (by assumption) ?_
        rotate_left 1
        · (intro W hS; have c1 := hS.has c1; go_simp; try with_reducible rfl)
        (try simp only [Act.put, List.setIfInBounds_toArray, List.set_cons_zero, List.set_cons_succ])
        refine do_op 4 rfl (by kernel_rfl) (fun K hK => ?_)
        go_simp; (with_reducible refine (sig_May a _).mono ?_); rintro e w3 ⟨rfl, rfl⟩
        refine hK.out _ _ ((Ext.rf wr).dr) (fun hS => ?_)
        clear hK K
        (try simp only [Act.put, List.setIfInBounds_toArray, List.set_cons_zero, List.set_cons_succ])
        refine do_op 9 rfl (by kernel_rfl) (fun K hK => ?_)
        go_simp; (with_reducible refine (sigref_May a _).mono ?_); rintro e w3 ⟨rfl, rfl⟩; have tq : ((a == 1 || a == 2) != (a == 1 || a == 2)) = false := (by simp)
        refine hK.out _ _ ((Ext.rf wr).dr) (fun hS => ?_)
        clear hK K
        (try simp only [Act.put, List.setIfInBounds_toArray, List.set_cons_zero, List.set_cons_succ])
        refine take_op 10 (v := ?_) rfl (by kernel_rfl) (by kernel_rfl) (by kernel_rfl) (Or.inl ⟨by rfl, ?_⟩) (by assumption) ?_
        rotate_left 1
        · (intro W hS; go_simp; try with_reducible rfl)
        (try simp only [Act.put, List.setIfInBounds_toArray, List.set_cons_zero, List.set_cons_succ])
        refine wpAnyH_done (by kernel_rfl) ?_ _
        refine NoPanic.normal ?_
        go_wp2
        go_roundw
        case rel => exact ⟨k + 1, by omega, by go_num, hext.dr⟩
        case measure => simp [intOf]; omega
      · have j0 := hl0.ext hext
        have j1 := hl1.ext hext
        have hpl := sigPut_le l0
        have e0 := Ext.rf wr
        generalize hPR : sigPut l0 = PR at *
        have HPR := Lib.hid hPR
        clear hPR
        have tS : ((textS l0).toList == (textS l0).toList) = true := by simp
        have tR : (rightSig l0 x2 == rightSig l0 x2) = true := by simp
        have tE : (decide (l0 = l1) == decide (l0 = l1)) = true := by simp
        have heq : (ByteArray.mk [7].toArray ++ ByteArray.mk PR.toArray).toList = 7 :: PR := by rw [ByteArray.toList_eq]; simp [ByteArray.data_append]
        have hnb : ¬ 9223372036854775807 < 1 + PR.length := by omega
        go_wp2_with fail
        have q0 := j0
        have q1 := j1
        refine wp_region_ext (fun W => Ext wr W) (by kernel_rfl) ((Ext.rf _).dr) (fun hS_0 => ?_)
        have hy_0 : Ext wr wr.drew := (Ext.rf _).dr
        replace j0 := q0.ext hy_0
        replace j1 := q1.ext hy_0
        refine take_op 0 (v := ?_) rfl (by kernel_rfl) (by kernel_rfl) (by kernel_rfl) (Or.inl ⟨by rfl, ?_⟩) (by assumption) ?_
        rotate_left 1
        · (intro W hS; go_simp; try with_reducible rfl)
        (try simp only [Act.put, List.setIfInBounds_toArray, List.set_cons_zero, List.set_cons_succ])
        refine take_op 2 (v := ?_) rfl (by kernel_rfl) (by kernel_rfl) (by kernel_rfl) (Or.inl ⟨by rfl, ?_⟩) (by assumption) ?_
        rotate_left 1
        · (intro W hS; go_simp; try with_reducible rfl)
        (try simp only [Act.put, List.setIfInBounds_toArray, List.set_cons_zero, List.set_cons_succ])
        refine do_op 1 rfl (by kernel_rfl) (fun K hK => ?_)
        go_simp; (with_reducible refine (sig_Text ao0 cap0 l0 _ j0 (by omega)).mono ?_); rintro e w1 ⟨rfl, hz1⟩
        have hx_1 : Ext wr.drew w1 := hz1
        have hy_1 : Ext wr w1 := Ext.tr hy_0 hx_1
        replace j0 := q0.ext hy_1
        replace j1 := q1.ext hy_1
        refine hK.out _ _ hy_1 (fun hS => ?_)
        clear hK K hS
        (try simp only [Act.put, List.setIfInBounds_toArray, List.set_cons_zero, List.set_cons_succ])
        have hS_1 : (fun W => Ext wr W) w1 := hy_1
        refine do_op 3 rfl (by kernel_rfl) (fun K hK => ?_)
        go_simp; (with_reducible refine (sigref_Text ao0 cap0 l0 _ j0 (by omega)).mono ?_); rintro e w2 ⟨rfl, hz2⟩
        have hx_2 : Ext w1 w2 := hz2
        have hy_2 : Ext wr w2 := Ext.tr hy_1 hx_2
        replace j0 := q0.ext hy_2
        replace j1 := q1.ext hy_2
        refine hK.out _ _ hy_2 (fun hS => ?_)
        clear hK K hS
        (try simp only [Act.put, List.setIfInBounds_toArray, List.set_cons_zero, List.set_cons_succ])
        have hS_2 : (fun W => Ext wr W) w2 := hy_2
        refine take_op 4 (v := ?_) rfl (by kernel_rfl) (by kernel_rfl) (by kernel_rfl) (Or.inl ⟨by rfl, ?_⟩) (by assumption) ?_
        rotate_left 1
        · (intro W hS; go_simp; try with_reducible rfl)
        (try simp only [Act.put, List.setIfInBounds_toArray, List.set_cons_zero, List.set_cons_succ])
        refine take_op 5 (v := ?_) rfl (by kernel_rfl) (by kernel_rfl) (by kernel_rfl) (Or.inl ⟨by rfl, ?_⟩) (by assumption) ?_
        rotate_left 1
        · (intro W hS; go_simp; try with_reducible rfl)
        (try simp only [Act.put, List.setIfInBounds_toArray, List.set_cons_zero, List.set_cons_succ])
        refine take_op 6 (v := ?_) rfl (by kernel_rfl) (by kernel_rfl) (by kernel_rfl) (Or.inl ⟨by rfl, ?_⟩) (by assumption) ?_
        rotate_left 1
        · (intro W hS; go_simp; try with_reducible rfl)
        (try simp only [Act.put, List.setIfInBounds_toArray, List.set_cons_zero, List.set_cons_succ])
        refine take_op 7 (v := ?_) rfl (by kernel_rfl) (by kernel_rfl) (by kernel_rfl) (Or.inl ⟨by rfl, ?_⟩) (by assumption) ?_
        rotate_left 1
        · (intro W hS; go_simp; try with_reducible rfl)
        (try simp only [Act.put, List.setIfInBounds_toArray, List.set_cons_zero, List.set_cons_succ])
        refine take_op 9 (v := ?_) rfl (by kernel_rfl) (by kernel_rfl) (by kernel_rfl) (Or.inl ⟨by rfl, ?_⟩) (by assumption) ?_
        rotate_left 1
        · (intro W hS; go_simp; try with_reducible rfl)
        (try simp only [Act.put, List.setIfInBounds_toArray, List.set_cons_zero, List.set_cons_succ])
        refine take_op 10 (v := ?_) rfl (by kernel_rfl) (by kernel_rfl) (by kernel_rfl) (Or.inl ⟨by rfl, ?_⟩) (by assumption) ?_
        rotate_left 1
        · (intro W hS; go_simp; try with_reducible rfl)
        (try simp only [Act.put, List.setIfInBounds_toArray, List.set_cons_zero, List.set_cons_succ])
        refine do_op 8 rfl (by kernel_rfl) (fun K hK => ?_)
        go_simp; (with_reducible refine (sig_Right ao0 cap0 l0 x2 _ j0 (by omega) HB.out).mono ?_); rintro e w3 ⟨rfl, hz3⟩
        have hx_3 : Ext w2 w3 := hz3
        have hy_3 : Ext wr w3 := Ext.tr hy_2 hx_3
        replace j0 := q0.ext hy_3
        replace j1 := q1.ext hy_3
        refine hK.out _ _ hy_3 (fun hS => ?_)
        clear hK K hS
        (try simp only [Act.put, List.setIfInBounds_toArray, List.set_cons_zero, List.set_cons_succ])
        have hS_3 : (fun W => Ext wr W) w3 := hy_3
        refine do_op 11 rfl (by kernel_rfl) (fun K hK => ?_)
        go_simp; (with_reducible refine (sigref_Right ao0 cap0 l0 x2 _ j0 (by omega)).mono ?_); rintro e w4 ⟨rfl, hz4⟩
        have hx_4 : Ext w3 w4 := hz4
        have hy_4 : Ext wr w4 := Ext.tr hy_3 hx_4
        replace j0 := q0.ext hy_4
        replace j1 := q1.ext hy_4
        refine hK.out _ _ hy_4 (fun hS => ?_)
        clear hK K hS
        (try simp only [Act.put, List.setIfInBounds_toArray, List.set_cons_zero, List.set_cons_succ])
        have hS_4 : (fun W => Ext wr W) w4 := hy_4
        refine take_op 12 (v := ?_) rfl (by kernel_rfl) (by kernel_rfl) (by kernel_rfl) (Or.inl ⟨by rfl, ?_⟩) (by assumption) ?_
        rotate_left 1
        · (intro W hS; go_simp; try with_reducible rfl)
        (try simp only [Act.put, List.setIfInBounds_toArray, List.set_cons_zero, List.set_cons_succ])
        refine take_op 13 (v := ?_) rfl (by kernel_rfl) (by kernel_rfl) (by kernel_rfl) (Or.inl ⟨by rfl, ?_⟩) (by assumption) ?_
        rotate_left 1
        · (intro W hS; go_simp; try with_reducible rfl)
        (try simp only [Act.put, List.setIfInBounds_toArray, List.set_cons_zero, List.set_cons_succ])
        refine take_op 14 (v := ?_) rfl (by kernel_rfl) (by kernel_rfl) (by kernel_rfl) (Or.inl ⟨by rfl, ?_⟩) (by assumption) ?_
        rotate_left 1
        · (intro W hS; go_simp; try with_reducible rfl)
        (try simp only [Act.put, List.setIfInBounds_toArray, List.set_cons_zero, List.set_cons_succ])
        refine take_op 15 (v := ?_) rfl (by kernel_rfl) (by kernel_rfl) (by kernel_rfl) (Or.inl ⟨by rfl, ?_⟩) (by assumption) ?_
        rotate_left 1
        · (intro W hS; go_simp; try with_reducible rfl)
        (try simp only [Act.put, List.setIfInBounds_toArray, List.set_cons_zero, List.set_cons_succ])
        refine take_op 16 (v := ?_) rfl (by kernel_rfl) (by kernel_rfl) (by kernel_rfl) (Or.inl ⟨by rfl, ?_⟩) (by assumption) ?_
        rotate_left 1
        · (intro W hS; go_simp; try with_reducible rfl)
        (try simp only [Act.put, List.setIfInBounds_toArray, List.set_cons_zero, List.set_cons_succ])
        refine take_op 18 (v := ?_) rfl (by kernel_rfl) (by kernel_rfl) (by kernel_rfl) (Or.inl ⟨by rfl, ?_⟩) (by assumption) ?_
        rotate_left 1
        · (intro W hS; go_simp; try with_reducible rfl)
        (try simp only [Act.put, List.setIfInBounds_toArray, List.set_cons_zero, List.set_cons_succ])
        refine take_op 19 (v := ?_) rfl (by kernel_rfl) (by kernel_rfl) (by kernel_rfl) (Or.inl ⟨by rfl, ?_⟩) (by assumption) ?_
        rotate_left 1
        · (intro W hS; go_simp; try with_reducible rfl)
        (try simp only [Act.put, List.setIfInBounds_toArray, List.set_cons_zero, List.set_cons_succ])
        refine do_op 17 rfl (by kernel_rfl) (fun K hK => ?_)
        go_simp; (with_reducible refine (sig_Same ao0 ao1 cap0 cap1 l0 l1 _ j0 j1 (by omega) (by omega)).mono ?_); rintro e w5 ⟨rfl, hz5⟩
        have hx_5 : Ext w4 w5 := hz5
        have hy_5 : Ext wr w5 := Ext.tr hy_4 hx_5
        replace j0 := q0.ext hy_5
        replace j1 := q1.ext hy_5
        refine hK.out _ _ hy_5 (fun hS => ?_)
        clear hK K hS
        (try simp only [Act.put, List.setIfInBounds_toArray, List.set_cons_zero, List.set_cons_succ])
        have hS_5 : (fun W => Ext wr W) w5 := hy_5
        refine do_op 20 rfl (by kernel_rfl) (fun K hK => ?_)
        go_simp; (with_reducible refine (sigref_Same ao0 ao1 cap0 cap1 l0 l1 _ j0 j1 (by omega) (by omega)).mono ?_); rintro e w6 ⟨rfl, hz6⟩
        have hx_6 : Ext w5 w6 := hz6
        have hy_6 : Ext wr w6 := Ext.tr hy_5 hx_6
        replace j0 := q0.ext hy_6
        replace j1 := q1.ext hy_6
        refine hK.out _ _ hy_6 (fun hS => ?_)
        clear hK K hS
        (try simp only [Act.put, List.setIfInBounds_toArray, List.set_cons_zero, List.set_cons_succ])
        have hS_6 : (fun W => Ext wr W) w6 := hy_6
        refine take_op 21 (v := ?_) rfl (by kernel_rfl) (by kernel_rfl) (by kernel_rfl) (Or.inl ⟨by rfl, ?_⟩) (by assumption) ?_
        rotate_left 1
        · (intro W hS; go_simp; try with_reducible rfl)
        (try simp only [Act.put, List.setIfInBounds_toArray, List.set_cons_zero, List.set_cons_succ])
        refine take_op 22 (v := ?_) rfl (by kernel_rfl) (by kernel_rfl) (by kernel_rfl) (Or.inl ⟨by rfl, ?_⟩) (by assumption) ?_
        rotate_left 1
        · (intro W hS; go_simp; try with_reducible rfl)
        (try simp only [Act.put, List.setIfInBounds_toArray, List.set_cons_zero, List.set_cons_succ])
        refine take_op 23 (v := ?_) rfl (by kernel_rfl) (by kernel_rfl) (by kernel_rfl) (Or.inl ⟨by rfl, ?_⟩) (by assumption) ?_
        rotate_left 1
        · (intro W hS; go_simp; try with_reducible rfl)
        (try simp only [Act.put, List.setIfInBounds_toArray, List.set_cons_zero, List.set_cons_succ])
        refine take_op 25 (v := ?_) rfl (by kernel_rfl) (by kernel_rfl) (by kernel_rfl) (Or.inl ⟨by rfl, ?_⟩) (by assumption) ?_
        rotate_left 1
        · (intro W hS; go_simp; try with_reducible rfl)
        (try simp only [Act.put, List.setIfInBounds_toArray, List.set_cons_zero, List.set_cons_succ])
        refine take_op 30 (v := ?_) rfl (by kernel_rfl) (by kernel_rfl) (by kernel_rfl) (Or.inl ⟨by rfl, ?_⟩) (by assumption) ?_
        rotate_left 1
        · (intro W hS; go_simp; try with_reducible rfl)
        (try simp only [Act.put, List.setIfInBounds_toArray, List.set_cons_zero, List.set_cons_succ])
        refine do_op2 24 28 rfl rfl (by kernel_rfl) (fun K hK => ?_) (fun K hK => ?_)
        · skip
          go_simp; obtain ⟨w7, hw7⟩ : ∃ x, x = w6.alloc (.cells #[.int .u8 7] 5) := ⟨_, rfl⟩; rw [← hw7]; have hz7 : Ext w6 w7 := (by rw [hw7]; exact (Ext.rf _).al _); have hs7 : (w6).heap.size < (w7).heap.size := (by rw [hw7]; simp); have hoA : (w7).ownsRow (w6).heap.size 5 1 (.slice (some ⟨(w6).heap.size, 0, none⟩) 1 1) 1 [.int .u8 7] := (by rw [hw7]; exact World.ownsRow_lit (base := (w6).heap.size) (e := 5) (size := 1) w6 #[.int .u8 7] 1 (Nat.le_refl _) (by decide) rfl); clear hw7
          have hx_7 : Ext w6 w7 := hz7
          have hy_7 : Ext wr w7 := Ext.tr hy_6 hx_7
          replace j0 := q0.ext hy_7
          replace j1 := q1.ext hy_7
          refine hK.out _ _ hy_7 (fun hS => ?_)
          clear hK K hS
          (try simp only [Act.put, List.setIfInBounds_toArray, List.set_cons_zero, List.set_cons_succ])
          have hbA : (w6).heap.size ≤ (w7).heap.size := (by omega); have hbw : wr.heap.size ≤ (w6).heap.size := Ext.size hy_6; have hfA : ∀ b off, l0 ≠ [] → ao0 = some ⟨b, off, none⟩ → b < (w6).heap.size := fun b off hne e => (by subst e; exact Nat.lt_of_lt_of_le (q0.lt (by simpa using hne)) hbw)
          have hS_7 : (fun W => Ext wr W) w7 := hy_7
          refine do_op2 26 28 rfl rfl (by kernel_rfl) (fun K hK => ?_) (fun K hK => ?_)
          · skip
            go_simp; (with_reducible refine (sig_Put _ _ 1 _ ao0 cap0 l0 _ hoA hbA (by omega) j0 (by omega) HB.out hfA).mono ?_); rw [HPR.out]; rintro e w8 ⟨v8, rfl, ho8, hg8⟩; obtain ⟨a9, k9, rfl, hc9, -⟩ := own_cells ho8
            have hy_8 : Ext wr w8 := Ext.push hy_7 hoA hbw hg8
            replace j0 := q0.ext hy_8
            replace j1 := q1.ext hy_8
            refine hK.out _ _ hy_8 (fun hS => ?_)
            clear hK K hS
            (try simp only [Act.put, List.setIfInBounds_toArray, List.set_cons_zero, List.set_cons_succ])
            have hcv9 : ∀ W, Cells W a9 (.int .u8 7 :: PR.map byteC) → (convert 49 9 (.slice a9 (1 + PR.length) k9)).run Try.prog W = .ok (.string ⟨(7 :: PR).toArray⟩) W := fun W h => run_bytes_string _ (by simp [Nat.add_comm]) Try.underlying49 Try.underlying5 Try.underlying9 h; replace hc9 : Cells w8 a9 (.int .u8 7 :: PR.map byteC) := hc9
            refine wpAnyH_weaken (S' := fun W => Ext w8 W) (fun W h => Ext.tr hy_8 h) _ _ _ _ ?_
            have hS_8 : Ext w8 w8 := Ext.rf _
            refine take_op 27 (v := ?_) rfl (by kernel_rfl) (by kernel_rfl) (by kernel_rfl) (Or.inl ⟨by rfl, ?_⟩) (by assumption) ?_
            rotate_left 1
            · (intro W hS; have hc9 := Cells.ext hc9 hS; go_simp; try with_reducible rfl)
            (try simp only [Act.put, List.setIfInBounds_toArray, List.set_cons_zero, List.set_cons_succ])
            refine do_op2 28 31 rfl rfl (by kernel_rfl) (fun K hK => ?_) (fun K hK => ?_)
            · skip
              go_simp; obtain ⟨w9, hw9⟩ : ∃ x, x = w8.alloc (.cells #[.int .u8 7] 5) := ⟨_, rfl⟩; rw [← hw9]; have hz9 : Ext w8 w9 := (by rw [hw9]; exact (Ext.rf _).al _); have hs9 : (w8).heap.size < (w9).heap.size := (by rw [hw9]; simp); have hcB : Cells w9 (some ⟨(w8).heap.size, 0, none⟩) [.int .u8 7] := (by rw [hw9]; exact cells_new w8 [.int .u8 7] 5 _ rfl); clear hw9
              have hx_9 : Ext w8 w9 := hz9
              have hy_9 : Ext wr w9 := Ext.tr hy_8 hx_9
              replace j0 := q0.ext hy_9
              replace j1 := q1.ext hy_9
              have hc9' := Cells.ext hc9 hx_9
              replace hc9 := hc9'
              refine hK.out _ _ hx_9 (fun hS => ?_)
              clear hK K hS
              (try simp only [Act.put, List.setIfInBounds_toArray, List.set_cons_zero, List.set_cons_succ])
              have hcvB : ∀ W, Cells W (some ⟨(w8).heap.size, 0, none⟩) [.int .u8 7] → (convert 49 9 (.slice (some ⟨(w8).heap.size, 0, none⟩) 1 1)).run Try.prog W = .ok (.string ⟨[7].toArray⟩) W := fun W h => run_bytes_string 1 rfl Try.underlying49 Try.underlying5 Try.underlying9 h
              refine wpAnyH_weaken (S' := fun W => Ext w9 W) (fun W h => Ext.tr hx_9 h) _ _ _ _ ?_
              have hS_9 : Ext w9 w9 := Ext.rf _
              refine take_op 29 (v := ?_) rfl (by kernel_rfl) (by kernel_rfl) (by kernel_rfl) (Or.inl ⟨by rfl, ?_⟩) (by assumption) ?_
              rotate_left 1
              · (intro W hS; have hc9 := Cells.ext hc9 hS; have hcB := Cells.ext hcB hS; go_simp; try with_reducible rfl)
              (try simp only [Act.put, List.setIfInBounds_toArray, List.set_cons_zero, List.set_cons_succ])
              refine do_op 31 rfl (by kernel_rfl) (fun K hK => ?_)
              go_simp; (with_reducible refine (sigref_Put ao0 cap0 l0 _ j0 (by omega)).mono ?_); rw [HPR.out]; rintro e w10 ⟨a10, k10, rfl, hc10, hz10, -⟩
              have hx_10 : Ext w9 w10 := hz10
              have hy_10 : Ext wr w10 := Ext.tr hy_9 hx_10
              replace j0 := q0.ext hy_10
              replace j1 := q1.ext hy_10
              have hc9' := Cells.ext hc9 hx_10
              replace hc9 := hc9'
              have hcB' := Cells.ext hcB hx_10
              replace hcB := hcB'
              refine hK.out _ _ hx_10 (fun hS => ?_)
              clear hK K hS
              (try simp only [Act.put, List.setIfInBounds_toArray, List.set_cons_zero, List.set_cons_succ])
              have hcv10 : ∀ W, Cells W a10 (PR.map byteC) → (convert 49 9 (.slice a10 PR.length k10)).run Try.prog W = .ok (.string ⟨PR.toArray⟩) W := fun W h => run_bytes_string _ rfl Try.underlying49 Try.underlying5 Try.underlying9 h
              refine wpAnyH_weaken (S' := fun W => Ext w10 W) (fun W h => Ext.tr hx_10 h) _ _ _ _ ?_
              have hS_10 : Ext w10 w10 := Ext.rf _
              refine take_op 32 (v := ?_) rfl (by kernel_rfl) (by kernel_rfl) (by kernel_rfl) (Or.inl ⟨by rfl, ?_⟩) (by assumption) ?_
              rotate_left 1
              · (intro W hS; have hc9 := Cells.ext hc9 hS; have hcB := Cells.ext hcB hS; have hc10 := Cells.ext hc10 hS; go_simp; try with_reducible rfl)
              (try simp only [Act.put, List.setIfInBounds_toArray, List.set_cons_zero, List.set_cons_succ])
              refine take_op 33 (v := ?_) rfl (by kernel_rfl) (by kernel_rfl) (by kernel_rfl) (Or.inl ⟨by rfl, ?_⟩) (by assumption) ?_
              rotate_left 1
              · (intro W hS; go_simp; try with_reducible rfl)
              (try simp only [Act.put, List.setIfInBounds_toArray, List.set_cons_zero, List.set_cons_succ])
              refine take_op 34 (v := ?_) rfl (by kernel_rfl) (by kernel_rfl) (by kernel_rfl) (Or.inl ⟨by rfl, ?_⟩) (by assumption) ?_
              rotate_left 1
              · (intro W hS; go_simp; try with_reducible rfl)
              (try simp only [Act.put, List.setIfInBounds_toArray, List.set_cons_zero, List.set_cons_succ])
              refine take_op 35 (v := ?_) rfl (by kernel_rfl) (by kernel_rfl) (by kernel_rfl) (Or.inl ⟨by rfl, ?_⟩) (by assumption) ?_
              rotate_left 1
              · (intro W hS; go_simp; try with_reducible rfl)
              (try simp only [Act.put, List.setIfInBounds_toArray, List.set_cons_zero, List.set_cons_succ])
              refine take_op 36 (v := ?_) rfl (by kernel_rfl) (by kernel_rfl) (by kernel_rfl) (Or.inl ⟨by rfl, ?_⟩) (by assumption) ?_
              rotate_left 1
              · (intro W hS; go_simp; try with_reducible rfl)
              (try simp only [Act.put, List.setIfInBounds_toArray, List.set_cons_zero, List.set_cons_succ])
              refine do_op 37 rfl (by kernel_rfl) (fun K hK => ?_)
              go_simp; (with_reducible refine (sig_lives _).mono ?_); rintro e w11 ⟨rfl, hz11⟩
              have hx_11 : Ext w10 w11 := hz11
              have hy_11 : Ext wr w11 := Ext.tr hy_10 hx_11
              replace j0 := q0.ext hy_11
              replace j1 := q1.ext hy_11
              have hc9' := Cells.ext hc9 hx_11
              replace hc9 := hc9'
              have hcB' := Cells.ext hcB hx_11
              replace hcB := hcB'
              have hc10' := Cells.ext hc10 hx_11
              replace hc10 := hc10'
              refine hK.out _ _ hx_11 (fun hS => ?_)
              clear hK K hS
              (try simp only [Act.put, List.setIfInBounds_toArray, List.set_cons_zero, List.set_cons_succ])
              refine wpAnyH_weaken (S' := fun W => Ext w11 W) (fun W h => Ext.tr hx_11 h) _ _ _ _ ?_
              have hS_11 : Ext w11 w11 := Ext.rf _
              refine take_op 38 (v := ?_) rfl (by kernel_rfl) (by kernel_rfl) (by kernel_rfl) (Or.inl ⟨by rfl, ?_⟩) (by assumption) ?_
              rotate_left 1
              · (intro W hS; go_simp; try with_reducible rfl)
              (try simp only [Act.put, List.setIfInBounds_toArray, List.set_cons_zero, List.set_cons_succ])
              refine take_op 39 (v := ?_) rfl (by kernel_rfl) (by kernel_rfl) (by kernel_rfl) (Or.inl ⟨by rfl, ?_⟩) (by assumption) ?_
              rotate_left 1
              · (intro W hS; go_simp; try with_reducible rfl)
              (try simp only [Act.put, List.setIfInBounds_toArray, List.set_cons_zero, List.set_cons_succ])
              refine wpAnyH_done (by kernel_rfl) ?_ _
              refine NoPanic.normal ?_
              go_wp2_with fail
              go_ret
              exact ⟨rfl, hext.tr hy_11⟩
            · skip
              go_simp; (with_reducible refine (sigref_Put ao0 cap0 l0 _ j0 (by omega)).mono ?_); rw [HPR.out]; rintro e w12 ⟨a10, k10, rfl, hc10, hz12, -⟩
              have hx_12 : Ext w8 w12 := hz12
              have hy_12 : Ext wr w12 := Ext.tr hy_8 hx_12
              replace j0 := q0.ext hy_12
              replace j1 := q1.ext hy_12
              have hc9' := Cells.ext hc9 hx_12
              replace hc9 := hc9'
              refine hK.out _ _ hx_12 (fun hS => ?_)
              clear hK K hS
              (try simp only [Act.put, List.setIfInBounds_toArray, List.set_cons_zero, List.set_cons_succ])
              have hcv10 : ∀ W, Cells W a10 (PR.map byteC) → (convert 49 9 (.slice a10 PR.length k10)).run Try.prog W = .ok (.string ⟨PR.toArray⟩) W := fun W h => run_bytes_string _ rfl Try.underlying49 Try.underlying5 Try.underlying9 h
              refine wpAnyH_weaken (S' := fun W => Ext w12 W) (fun W h => Ext.tr hx_12 h) _ _ _ _ ?_
              have hS_12 : Ext w12 w12 := Ext.rf _
              refine take_op 32 (v := ?_) rfl (by kernel_rfl) (by kernel_rfl) (by kernel_rfl) (Or.inl ⟨by rfl, ?_⟩) (by assumption) ?_
              rotate_left 1
              · (intro W hS; have hc9 := Cells.ext hc9 hS; have hc10 := Cells.ext hc10 hS; go_simp; try with_reducible rfl)
              (try simp only [Act.put, List.setIfInBounds_toArray, List.set_cons_zero, List.set_cons_succ])
              refine do_op 28 rfl (by kernel_rfl) (fun K hK => ?_)
              go_simp; obtain ⟨w13, hw13⟩ : ∃ x, x = w12.alloc (.cells #[.int .u8 7] 5) := ⟨_, rfl⟩; rw [← hw13]; have hz13 : Ext w12 w13 := (by rw [hw13]; exact (Ext.rf _).al _); have hs13 : (w12).heap.size < (w13).heap.size := (by rw [hw13]; simp); have hcB : Cells w13 (some ⟨(w12).heap.size, 0, none⟩) [.int .u8 7] := (by rw [hw13]; exact cells_new w12 [.int .u8 7] 5 _ rfl); clear hw13
              have hx_13 : Ext w12 w13 := hz13
              have hy_13 : Ext wr w13 := Ext.tr hy_12 hx_13
              replace j0 := q0.ext hy_13
              replace j1 := q1.ext hy_13
              have hc9' := Cells.ext hc9 hx_13
              replace hc9 := hc9'
              have hc10' := Cells.ext hc10 hx_13
              replace hc10 := hc10'
              refine hK.out _ _ hx_13 (fun hS => ?_)
              clear hK K hS
              (try simp only [Act.put, List.setIfInBounds_toArray, List.set_cons_zero, List.set_cons_succ])
              have hcvB : ∀ W, Cells W (some ⟨(w12).heap.size, 0, none⟩) [.int .u8 7] → (convert 49 9 (.slice (some ⟨(w12).heap.size, 0, none⟩) 1 1)).run Try.prog W = .ok (.string ⟨[7].toArray⟩) W := fun W h => run_bytes_string 1 rfl Try.underlying49 Try.underlying5 Try.underlying9 h
              refine wpAnyH_weaken (S' := fun W => Ext w13 W) (fun W h => Ext.tr hx_13 h) _ _ _ _ ?_
              have hS_13 : Ext w13 w13 := Ext.rf _
              refine take_op 29 (v := ?_) rfl (by kernel_rfl) (by kernel_rfl) (by kernel_rfl) (Or.inl ⟨by rfl, ?_⟩) (by assumption) ?_
              rotate_left 1
              · (intro W hS; have hc9 := Cells.ext hc9 hS; have hc10 := Cells.ext hc10 hS; have hcB := Cells.ext hcB hS; go_simp; try with_reducible rfl)
              (try simp only [Act.put, List.setIfInBounds_toArray, List.set_cons_zero, List.set_cons_succ])
              refine take_op 33 (v := ?_) rfl (by kernel_rfl) (by kernel_rfl) (by kernel_rfl) (Or.inl ⟨by rfl, ?_⟩) (by assumption) ?_
              rotate_left 1
              · (intro W hS; go_simp; try with_reducible rfl)
              (try simp only [Act.put, List.setIfInBounds_toArray, List.set_cons_zero, List.set_cons_succ])
              refine take_op 34 (v := ?_) rfl (by kernel_rfl) (by kernel_rfl) (by kernel_rfl) (Or.inl ⟨by rfl, ?_⟩) (by assumption) ?_
              rotate_left 1
              · (intro W hS; go_simp; try with_reducible rfl)
              (try simp only [Act.put, List.setIfInBounds_toArray, List.set_cons_zero, List.set_cons_succ])
              refine take_op 35 (v := ?_) rfl (by kernel_rfl) (by kernel_rfl) (by kernel_rfl) (Or.inl ⟨by rfl, ?_⟩) (by assumption) ?_
              rotate_left 1
              · (intro W hS; go_simp; try with_reducible rfl)
              (try simp only [Act.put, List.setIfInBounds_toArray, List.set_cons_zero, List.set_cons_succ])
              refine take_op 36 (v := ?_) rfl (by kernel_rfl) (by kernel_rfl) (by kernel_rfl) (Or.inl ⟨by rfl, ?_⟩) (by assumption) ?_
              rotate_left 1
              · (intro W hS; go_simp; try with_reducible rfl)
              (try simp only [Act.put, List.setIfInBounds_toArray, List.set_cons_zero, List.set_cons_succ])
              refine do_op 37 rfl (by kernel_rfl) (fun K hK => ?_)
              go_simp; (with_reducible refine (sig_lives _).mono ?_); rintro e w14 ⟨rfl, hz14⟩
              have hx_14 : Ext w13 w14 := hz14
              have hy_14 : Ext wr w14 := Ext.tr hy_13 hx_14
              replace j0 := q0.ext hy_14
              replace j1 := q1.ext hy_14
              have hc9' := Cells.ext hc9 hx_14
              replace hc9 := hc9'
              have hc10' := Cells.ext hc10 hx_14
              replace hc10 := hc10'
              have hcB' := Cells.ext hcB hx_14
              replace hcB := hcB'
              refine hK.out _ _ hx_14 (fun hS => ?_)
              clear hK K hS
              (try simp only [Act.put, List.setIfInBounds_toArray, List.set_cons_zero, List.set_cons_succ])
              refine wpAnyH_weaken (S' := fun W => Ext w14 W) (fun W h => Ext.tr hx_14 h) _ _ _ _ ?_
              have hS_14 : Ext w14 w14 := Ext.rf _
              refine take_op 38 (v := ?_) rfl (by kernel_rfl) (by kernel_rfl) (by kernel_rfl) (Or.inl ⟨by rfl, ?_⟩) (by assumption) ?_
              rotate_left 1
              · (intro W hS; go_simp; try with_reducible rfl)
              (try simp only [Act.put, List.setIfInBounds_toArray, List.set_cons_zero, List.set_cons_succ])
              refine take_op 39 (v := ?_) rfl (by kernel_rfl) (by kernel_rfl) (by kernel_rfl) (Or.inl ⟨by rfl, ?_⟩) (by assumption) ?_
              rotate_left 1
              · (intro W hS; go_simp; try with_reducible rfl)
              (try simp only [Act.put, List.setIfInBounds_toArray, List.set_cons_zero, List.set_cons_succ])
              refine wpAnyH_done (by kernel_rfl) ?_ _
              refine NoPanic.normal ?_
              go_wp2_with fail
              go_ret
              exact ⟨rfl, hext.tr hy_14⟩
          · skip
            go_simp; obtain ⟨w15, hw15⟩ : ∃ x, x = w7.alloc (.cells #[.int .u8 7] 5) := ⟨_, rfl⟩; rw [← hw15]; have hz15 : Ext w7 w15 := (by rw [hw15]; exact (Ext.rf _).al _); have hs15 : (w7).heap.size < (w15).heap.size := (by rw [hw15]; simp); have hcB : Cells w15 (some ⟨(w7).heap.size, 0, none⟩) [.int .u8 7] := (by rw [hw15]; exact cells_new w7 [.int .u8 7] 5 _ rfl); clear hw15
            have hx_15 : Ext w7 w15 := hz15
            have hy_15 : Ext wr w15 := Ext.tr hy_7 hx_15
            replace j0 := q0.ext hy_15
            replace j1 := q1.ext hy_15
            replace hoA := own_ext hoA hx_15
            replace hbA := Nat.le_trans hbA (Ext.size hx_15)
            refine hK.out _ _ hy_15 (fun hS => ?_)
            clear hK K hS
            (try simp only [Act.put, List.setIfInBounds_toArray, List.set_cons_zero, List.set_cons_succ])
            have hcvB : ∀ W, Cells W (some ⟨(w7).heap.size, 0, none⟩) [.int .u8 7] → (convert 49 9 (.slice (some ⟨(w7).heap.size, 0, none⟩) 1 1)).run Try.prog W = .ok (.string ⟨[7].toArray⟩) W := fun W h => run_bytes_string 1 rfl Try.underlying49 Try.underlying5 Try.underlying9 h
            refine wpAnyH_weaken (S' := fun W => Ext wr W ∧ Cells W (some ⟨(w7).heap.size, 0, none⟩) [.int .u8 7]) (fun W h => h.1) _ _ _ _ ?_
            have hS_15 : (fun W => Ext wr W ∧ Cells W (some ⟨(w7).heap.size, 0, none⟩) [.int .u8 7]) w15 := ⟨hy_15, hcB⟩
            refine take_op 29 (v := ?_) rfl (by kernel_rfl) (by kernel_rfl) (by kernel_rfl) (Or.inl ⟨by rfl, ?_⟩) (by assumption) ?_
            rotate_left 1
            · (intro W hS; obtain ⟨hS0, hcB⟩ := hS; go_simp; try with_reducible rfl)
            (try simp only [Act.put, List.setIfInBounds_toArray, List.set_cons_zero, List.set_cons_succ])
            refine do_op 26 rfl (by kernel_rfl) (fun K hK => ?_)
            go_simp; (with_reducible refine (sig_Put _ _ 1 _ ao0 cap0 l0 _ hoA hbA (by omega) j0 (by omega) HB.out hfA).mono ?_); rw [HPR.out]; rintro e w16 ⟨v16, rfl, ho16, hg16⟩; obtain ⟨a9, k9, rfl, hc9, -⟩ := own_cells ho16
            have hy_16 : Ext wr w16 := Ext.push hy_15 hoA hbw hg16
            replace j0 := q0.ext hy_16
            replace j1 := q1.ext hy_16
            have hcB' := hcB.grow hg16 (fun ad e => by cases e; simp [Value.ownBlock]; omega)
            replace hcB := hcB'
            refine hK.out _ _ ⟨hy_16, hcB⟩ (fun hS => ?_)
            clear hK K hS
            (try simp only [Act.put, List.setIfInBounds_toArray, List.set_cons_zero, List.set_cons_succ])
            have hcv9 : ∀ W, Cells W a9 (.int .u8 7 :: PR.map byteC) → (convert 49 9 (.slice a9 (1 + PR.length) k9)).run Try.prog W = .ok (.string ⟨(7 :: PR).toArray⟩) W := fun W h => run_bytes_string _ (by simp [Nat.add_comm]) Try.underlying49 Try.underlying5 Try.underlying9 h; replace hc9 : Cells w16 a9 (.int .u8 7 :: PR.map byteC) := hc9
            refine wpAnyH_weaken (S' := fun W => Ext w16 W) (fun W h => ⟨Ext.tr hy_16 h, Cells.ext hcB h⟩) _ _ _ _ ?_
            have hS_16 : Ext w16 w16 := Ext.rf _
            refine take_op 27 (v := ?_) rfl (by kernel_rfl) (by kernel_rfl) (by kernel_rfl) (Or.inl ⟨by rfl, ?_⟩) (by assumption) ?_
            rotate_left 1
            · (intro W hS; have hcB := Cells.ext hcB hS; have hc9 := Cells.ext hc9 hS; go_simp; try with_reducible rfl)
            (try simp only [Act.put, List.setIfInBounds_toArray, List.set_cons_zero, List.set_cons_succ])
            refine do_op 31 rfl (by kernel_rfl) (fun K hK => ?_)
            go_simp; (with_reducible refine (sigref_Put ao0 cap0 l0 _ j0 (by omega)).mono ?_); rw [HPR.out]; rintro e w17 ⟨a10, k10, rfl, hc10, hz17, -⟩
            have hx_17 : Ext w16 w17 := hz17
            have hy_17 : Ext wr w17 := Ext.tr hy_16 hx_17
            replace j0 := q0.ext hy_17
            replace j1 := q1.ext hy_17
            have hcB' := Cells.ext hcB hx_17
            replace hcB := hcB'
            have hc9' := Cells.ext hc9 hx_17
            replace hc9 := hc9'
            refine hK.out _ _ hx_17 (fun hS => ?_)
            clear hK K hS
            (try simp only [Act.put, List.setIfInBounds_toArray, List.set_cons_zero, List.set_cons_succ])
            have hcv10 : ∀ W, Cells W a10 (PR.map byteC) → (convert 49 9 (.slice a10 PR.length k10)).run Try.prog W = .ok (.string ⟨PR.toArray⟩) W := fun W h => run_bytes_string _ rfl Try.underlying49 Try.underlying5 Try.underlying9 h
            refine wpAnyH_weaken (S' := fun W => Ext w17 W) (fun W h => Ext.tr hx_17 h) _ _ _ _ ?_
            have hS_17 : Ext w17 w17 := Ext.rf _
            refine take_op 32 (v := ?_) rfl (by kernel_rfl) (by kernel_rfl) (by kernel_rfl) (Or.inl ⟨by rfl, ?_⟩) (by assumption) ?_
            rotate_left 1
            · (intro W hS; have hcB := Cells.ext hcB hS; have hc9 := Cells.ext hc9 hS; have hc10 := Cells.ext hc10 hS; go_simp; try with_reducible rfl)
            (try simp only [Act.put, List.setIfInBounds_toArray, List.set_cons_zero, List.set_cons_succ])
            refine take_op 33 (v := ?_) rfl (by kernel_rfl) (by kernel_rfl) (by kernel_rfl) (Or.inl ⟨by rfl, ?_⟩) (by assumption) ?_
            rotate_left 1
            · (intro W hS; go_simp; try with_reducible rfl)
            (try simp only [Act.put, List.setIfInBounds_toArray, List.set_cons_zero, List.set_cons_succ])
            refine take_op 34 (v := ?_) rfl (by kernel_rfl) (by kernel_rfl) (by kernel_rfl) (Or.inl ⟨by rfl, ?_⟩) (by assumption) ?_
            rotate_left 1
            · (intro W hS; go_simp; try with_reducible rfl)
            (try simp only [Act.put, List.setIfInBounds_toArray, List.set_cons_zero, List.set_cons_succ])
            refine take_op 35 (v := ?_) rfl (by kernel_rfl) (by kernel_rfl) (by kernel_rfl) (Or.inl ⟨by rfl, ?_⟩) (by assumption) ?_
            rotate_left 1
            · (intro W hS; go_simp; try with_reducible rfl)
            (try simp only [Act.put, List.setIfInBounds_toArray, List.set_cons_zero, List.set_cons_succ])
            refine take_op 36 (v := ?_) rfl (by kernel_rfl) (by kernel_rfl) (by kernel_rfl) (Or.inl ⟨by rfl, ?_⟩) (by assumption) ?_
            rotate_left 1
            · (intro W hS; go_simp; try with_reducible rfl)
            (try simp only [Act.put, List.setIfInBounds_toArray, List.set_cons_zero, List.set_cons_succ])
            refine do_op 37 rfl (by kernel_rfl) (fun K hK => ?_)
            go_simp; (with_reducible refine (sig_lives _).mono ?_); rintro e w18 ⟨rfl, hz18⟩
            have hx_18 : Ext w17 w18 := hz18
            have hy_18 : Ext wr w18 := Ext.tr hy_17 hx_18
            replace j0 := q0.ext hy_18
            replace j1 := q1.ext hy_18
            have hcB' := Cells.ext hcB hx_18
            replace hcB := hcB'
            have hc9' := Cells.ext hc9 hx_18
            replace hc9 := hc9'
            have hc10' := Cells.ext hc10 hx_18
            replace hc10 := hc10'
            refine hK.out _ _ hx_18 (fun hS => ?_)
            clear hK K hS
            (try simp only [Act.put, List.setIfInBounds_toArray, List.set_cons_zero, List.set_cons_succ])
            refine wpAnyH_weaken (S' := fun W => Ext w18 W) (fun W h => Ext.tr hx_18 h) _ _ _ _ ?_
            have hS_18 : Ext w18 w18 := Ext.rf _
            refine take_op 38 (v := ?_) rfl (by kernel_rfl) (by kernel_rfl) (by kernel_rfl) (Or.inl ⟨by rfl, ?_⟩) (by assumption) ?_
            rotate_left 1
            · (intro W hS; go_simp; try with_reducible rfl)
            (try simp only [Act.put, List.setIfInBounds_toArray, List.set_cons_zero, List.set_cons_succ])
            refine take_op 39 (v := ?_) rfl (by kernel_rfl) (by kernel_rfl) (by kernel_rfl) (Or.inl ⟨by rfl, ?_⟩) (by assumption) ?_
            rotate_left 1
            · (intro W hS; go_simp; try with_reducible rfl)
            (try simp only [Act.put, List.setIfInBounds_toArray, List.set_cons_zero, List.set_cons_succ])
            refine wpAnyH_done (by kernel_rfl) ?_ _
            refine NoPanic.normal ?_
            go_wp2_with fail
            go_ret
            exact ⟨rfl, hext.tr hy_18⟩
        · skip
          go_simp; obtain ⟨w19, hw19⟩ : ∃ x, x = w6.alloc (.cells #[.int .u8 7] 5) := ⟨_, rfl⟩; rw [← hw19]; have hz19 : Ext w6 w19 := (by rw [hw19]; exact (Ext.rf _).al _); have hs19 : (w6).heap.size < (w19).heap.size := (by rw [hw19]; simp); have hcB : Cells w19 (some ⟨(w6).heap.size, 0, none⟩) [.int .u8 7] := (by rw [hw19]; exact cells_new w6 [.int .u8 7] 5 _ rfl); clear hw19
          have hx_19 : Ext w6 w19 := hz19
          have hy_19 : Ext wr w19 := Ext.tr hy_6 hx_19
          replace j0 := q0.ext hy_19
          replace j1 := q1.ext hy_19
          refine hK.out _ _ hy_19 (fun hS => ?_)
          clear hK K hS
          (try simp only [Act.put, List.setIfInBounds_toArray, List.set_cons_zero, List.set_cons_succ])
          have hcvB : ∀ W, Cells W (some ⟨(w6).heap.size, 0, none⟩) [.int .u8 7] → (convert 49 9 (.slice (some ⟨(w6).heap.size, 0, none⟩) 1 1)).run Try.prog W = .ok (.string ⟨[7].toArray⟩) W := fun W h => run_bytes_string 1 rfl Try.underlying49 Try.underlying5 Try.underlying9 h
          refine wpAnyH_weaken (S' := fun W => Ext wr W ∧ Cells W (some ⟨(w6).heap.size, 0, none⟩) [.int .u8 7]) (fun W h => h.1) _ _ _ _ ?_
          have hS_19 : (fun W => Ext wr W ∧ Cells W (some ⟨(w6).heap.size, 0, none⟩) [.int .u8 7]) w19 := ⟨hy_19, hcB⟩
          refine take_op 29 (v := ?_) rfl (by kernel_rfl) (by kernel_rfl) (by kernel_rfl) (Or.inl ⟨by rfl, ?_⟩) (by assumption) ?_
          rotate_left 1
          · (intro W hS; obtain ⟨hS0, hcB⟩ := hS; go_simp; try with_reducible rfl)
          (try simp only [Act.put, List.setIfInBounds_toArray, List.set_cons_zero, List.set_cons_succ])
          refine do_op 24 rfl (by kernel_rfl) (fun K hK => ?_)
          go_simp; obtain ⟨w20, hw20⟩ : ∃ x, x = w19.alloc (.cells #[.int .u8 7] 5) := ⟨_, rfl⟩; rw [← hw20]; have hz20 : Ext w19 w20 := (by rw [hw20]; exact (Ext.rf _).al _); have hs20 : (w19).heap.size < (w20).heap.size := (by rw [hw20]; simp); have hoA : (w20).ownsRow (w19).heap.size 5 1 (.slice (some ⟨(w19).heap.size, 0, none⟩) 1 1) 1 [.int .u8 7] := (by rw [hw20]; exact World.ownsRow_lit (base := (w19).heap.size) (e := 5) (size := 1) w19 #[.int .u8 7] 1 (Nat.le_refl _) (by decide) rfl); clear hw20
          have hx_20 : Ext w19 w20 := hz20
          have hy_20 : Ext wr w20 := Ext.tr hy_19 hx_20
          replace j0 := q0.ext hy_20
          replace j1 := q1.ext hy_20
          have hcB' := Cells.ext hcB hx_20
          replace hcB := hcB'
          refine hK.out _ _ ⟨hy_20, hcB⟩ (fun hS => ?_)
          clear hK K hS
          (try simp only [Act.put, List.setIfInBounds_toArray, List.set_cons_zero, List.set_cons_succ])
          have hbA : (w19).heap.size ≤ (w20).heap.size := (by omega); have hbw : wr.heap.size ≤ (w19).heap.size := Ext.size hy_19; have hfA : ∀ b off, l0 ≠ [] → ao0 = some ⟨b, off, none⟩ → b < (w19).heap.size := fun b off hne e => (by subst e; exact Nat.lt_of_lt_of_le (q0.lt (by simpa using hne)) hbw)
          have hS_20 : (fun W => Ext wr W ∧ Cells W (some ⟨(w6).heap.size, 0, none⟩) [.int .u8 7]) w20 := ⟨hy_20, hcB⟩
          refine do_op 26 rfl (by kernel_rfl) (fun K hK => ?_)
          go_simp; (with_reducible refine (sig_Put _ _ 1 _ ao0 cap0 l0 _ hoA hbA (by omega) j0 (by omega) HB.out hfA).mono ?_); rw [HPR.out]; rintro e w21 ⟨v21, rfl, ho21, hg21⟩; obtain ⟨a9, k9, rfl, hc9, -⟩ := own_cells ho21
          have hy_21 : Ext wr w21 := Ext.push hy_20 hoA hbw hg21
          replace j0 := q0.ext hy_21
          replace j1 := q1.ext hy_21
          have hcB' := hcB.grow hg21 (fun ad e => by cases e; simp [Value.ownBlock]; omega)
          replace hcB := hcB'
          refine hK.out _ _ ⟨hy_21, hcB⟩ (fun hS => ?_)
          clear hK K hS
          (try simp only [Act.put, List.setIfInBounds_toArray, List.set_cons_zero, List.set_cons_succ])
          have hcv9 : ∀ W, Cells W a9 (.int .u8 7 :: PR.map byteC) → (convert 49 9 (.slice a9 (1 + PR.length) k9)).run Try.prog W = .ok (.string ⟨(7 :: PR).toArray⟩) W := fun W h => run_bytes_string _ (by simp [Nat.add_comm]) Try.underlying49 Try.underlying5 Try.underlying9 h; replace hc9 : Cells w21 a9 (.int .u8 7 :: PR.map byteC) := hc9
          refine wpAnyH_weaken (S' := fun W => Ext w21 W) (fun W h => ⟨Ext.tr hy_21 h, Cells.ext hcB h⟩) _ _ _ _ ?_
          have hS_21 : Ext w21 w21 := Ext.rf _
          refine take_op 27 (v := ?_) rfl (by kernel_rfl) (by kernel_rfl) (by kernel_rfl) (Or.inl ⟨by rfl, ?_⟩) (by assumption) ?_
          rotate_left 1
          · (intro W hS; have hcB := Cells.ext hcB hS; have hc9 := Cells.ext hc9 hS; go_simp; try with_reducible rfl)
          (try simp only [Act.put, List.setIfInBounds_toArray, List.set_cons_zero, List.set_cons_succ])
          refine do_op 31 rfl (by kernel_rfl) (fun K hK => ?_)
          go_simp; (with_reducible refine (sigref_Put ao0 cap0 l0 _ j0 (by omega)).mono ?_); rw [HPR.out]; rintro e w22 ⟨a10, k10, rfl, hc10, hz22, -⟩
          have hx_22 : Ext w21 w22 := hz22
          have hy_22 : Ext wr w22 := Ext.tr hy_21 hx_22
          replace j0 := q0.ext hy_22
          replace j1 := q1.ext hy_22
          have hcB' := Cells.ext hcB hx_22
          replace hcB := hcB'
          have hc9' := Cells.ext hc9 hx_22
          replace hc9 := hc9'
          refine hK.out _ _ hx_22 (fun hS => ?_)
          clear hK K hS
          (try simp only [Act.put, List.setIfInBounds_toArray, List.set_cons_zero, List.set_cons_succ])
          have hcv10 : ∀ W, Cells W a10 (PR.map byteC) → (convert 49 9 (.slice a10 PR.length k10)).run Try.prog W = .ok (.string ⟨PR.toArray⟩) W := fun W h => run_bytes_string _ rfl Try.underlying49 Try.underlying5 Try.underlying9 h
          refine wpAnyH_weaken (S' := fun W => Ext w22 W) (fun W h => Ext.tr hx_22 h) _ _ _ _ ?_
          have hS_22 : Ext w22 w22 := Ext.rf _
          refine take_op 32 (v := ?_) rfl (by kernel_rfl) (by kernel_rfl) (by kernel_rfl) (Or.inl ⟨by rfl, ?_⟩) (by assumption) ?_
          rotate_left 1
          · (intro W hS; have hcB := Cells.ext hcB hS; have hc9 := Cells.ext hc9 hS; have hc10 := Cells.ext hc10 hS; go_simp; try with_reducible rfl)
          (try simp only [Act.put, List.setIfInBounds_toArray, List.set_cons_zero, List.set_cons_succ])
          refine take_op 33 (v := ?_) rfl (by kernel_rfl) (by kernel_rfl) (by kernel_rfl) (Or.inl ⟨by rfl, ?_⟩) (by assumption) ?_
          rotate_left 1
          · (intro W hS; go_simp; try with_reducible rfl)
          (try simp only [Act.put, List.setIfInBounds_toArray, List.set_cons_zero, List.set_cons_succ])
          refine take_op 34 (v := ?_) rfl (by kernel_rfl) (by kernel_rfl) (by kernel_rfl) (Or.inl ⟨by rfl, ?_⟩) (by assumption) ?_
          rotate_left 1
          · (intro W hS; go_simp; try with_reducible rfl)
          (try simp only [Act.put, List.setIfInBounds_toArray, List.set_cons_zero, List.set_cons_succ])
          refine take_op 35 (v := ?_) rfl (by kernel_rfl) (by kernel_rfl) (by kernel_rfl) (Or.inl ⟨by rfl, ?_⟩) (by assumption) ?_
          rotate_left 1
          · (intro W hS; go_simp; try with_reducible rfl)
          (try simp only [Act.put, List.setIfInBounds_toArray, List.set_cons_zero, List.set_cons_succ])
          refine take_op 36 (v := ?_) rfl (by kernel_rfl) (by kernel_rfl) (by kernel_rfl) (Or.inl ⟨by rfl, ?_⟩) (by assumption) ?_
          rotate_left 1
          · (intro W hS; go_simp; try with_reducible rfl)
          (try simp only [Act.put, List.setIfInBounds_toArray, List.set_cons_zero, List.set_cons_succ])
          refine do_op 37 rfl (by kernel_rfl) (fun K hK => ?_)
          go_simp; (with_reducible refine (sig_lives _).mono ?_); rintro e w23 ⟨rfl, hz23⟩
          have hx_23 : Ext w22 w23 := hz23
          have hy_23 : Ext wr w23 := Ext.tr hy_22 hx_23
          replace j0 := q0.ext hy_23
          replace j1 := q1.ext hy_23
          have hcB' := Cells.ext hcB hx_23
          replace hcB := hcB'
          have hc9' := Cells.ext hc9 hx_23
          replace hc9 := hc9'
          have hc10' := Cells.ext hc10 hx_23
          replace hc10 := hc10'
          refine hK.out _ _ hx_23 (fun hS => ?_)
          clear hK K hS
          (try simp only [Act.put, List.setIfInBounds_toArray, List.set_cons_zero, List.set_cons_succ])
          refine wpAnyH_weaken (S' := fun W => Ext w23 W) (fun W h => Ext.tr hx_23 h) _ _ _ _ ?_
          have hS_23 : Ext w23 w23 := Ext.rf _
          refine take_op 38 (v := ?_) rfl (by kernel_rfl) (by kernel_rfl) (by kernel_rfl) (Or.inl ⟨by rfl, ?_⟩) (by assumption) ?_
          rotate_left 1
          · (intro W hS; go_simp; try with_reducible rfl)
          (try simp only [Act.put, List.setIfInBounds_toArray, List.set_cons_zero, List.set_cons_succ])
          refine take_op 39 (v := ?_) rfl (by kernel_rfl) (by kernel_rfl) (by kernel_rfl) (Or.inl ⟨by rfl, ?_⟩) (by assumption) ?_
          rotate_left 1
          · (intro W hS; go_simp; try with_reducible rfl)
          (try simp only [Act.put, List.setIfInBounds_toArray, List.set_cons_zero, List.set_cons_succ])
          refine wpAnyH_done (by kernel_rfl) ?_ _
          refine NoPanic.normal ?_
          go_wp2_with fail
          go_ret
          exact ⟨rfl, hext.tr hy_23⟩
end Go.Proofs.Ytfeddkfpkdjbeaa
