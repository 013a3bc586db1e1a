/- TreeRight: the law's walk. -/
import Derived.Test.YtofdkhilapmccaaTreeS
import Derived.Test.YtofdkhilapmccaaTreeQ
import Derived.Test.YtofdkhilapmccaaTreeL
import Derived.Test.YtofdkhilapmccaaOpenF
namespace Go.Proofs.Ytofdkhilapmccaa
open Go.RowKit

set_option maxHeartbeats 4000000 in
set_option maxRecDepth 20000 in
theorem TreeRight_walk (ao0 : Option Addr) (cap0 : Nat) (l0 : List NodeT) (w : World) (hl0 : (l0.length ≤ 2513169434916) ∧ Cells w ao0 (l0.flatMap nodeC) ∧ ∀ n ∈ l0, Node64 n) :
    Calls Try.prog 5 #[.slice ao0 l0.length cap0] w fun e w' => e = .returned (.bool true) ∧ Ext w w' := by
  obtain ⟨hlen, hc, hv⟩ := hl0
  have HV := Lib.hid hv
  clear hv
  by_cases h3 : 200 < l0.length
  · have t1 : decide ((200 : Int) < l0.length) = true := decide_eq_true (by omega)
    go_enter Try.func5, Try.ntmps5
    go_wp2_with fail
    refine (tree_lives _).mono ?_
    rintro e w1 ⟨rfl, hb⟩
    go_wp2_with fail
    go_ret
    exact ⟨rfl, hb⟩
  · have t1 : decide ((200 : Int) < l0.length) = false := decide_eq_false (by omega)
    have j0 := hc
    have q0 := hc
    have hpl := putTree_le l0
    generalize hPR : putTree l0 = PR at *
    have HPR := Lib.hid hPR
    clear hPR hc
    have tR : (rightTree l0 == rightTree l0) = true := by simp
    have heq : (ByteArray.mk [1].toArray ++ ByteArray.mk PR.toArray).toList = 1 :: PR := by rw [ByteArray.toList_eq]; simp [ByteArray.data_append]
    have hnb : ¬ 9223372036854775807 < 1 + PR.length := by omega
    obtain ⟨wr, hwr⟩ : ∃ wr : World, wr = w := ⟨_, rfl⟩
    subst hwr
    go_enter Try.func5, Try.ntmps5
    go_wp2_with fail
    refine wp_region_ext (fun W => Ext wr W) (by kernel_rfl) ((Ext.rf _).dr) (fun hS_0 => ?_)
    have hy_0 : Ext wr wr.drew := (Ext.rf _).dr
    replace j0 := q0.ext hy_0
    refine take_op 0 (v := ?_) rfl (by kernel_rfl) (by kernel_rfl) (by kernel_rfl) (Or.inl ⟨by rfl, ?_⟩) (by assumption) ?_
    rotate_left 1
    · (intro W hS; go_simp; try with_reducible rfl)
    (try simp only [Act.put, List.setIfInBounds_toArray, List.set_cons_zero, List.set_cons_succ])
    refine take_op 2 (v := ?_) rfl (by kernel_rfl) (by kernel_rfl) (by kernel_rfl) (Or.inl ⟨by rfl, ?_⟩) (by assumption) ?_
    rotate_left 1
    · (intro W hS; go_simp; try with_reducible rfl)
    (try simp only [Act.put, List.setIfInBounds_toArray, List.set_cons_zero, List.set_cons_succ])
    refine do_op 1 rfl (by kernel_rfl) (fun K hK => ?_)
    go_simp; (with_reducible refine (tree_Right ao0 cap0 l0 _ j0 (by omega)).mono ?_); rintro e w1 ⟨rfl, hz1⟩
    have hx_1 : Ext wr.drew w1 := hz1
    have hy_1 : Ext wr w1 := Ext.tr hy_0 hx_1
    replace j0 := q0.ext hy_1
    refine hK.out _ _ hy_1 (fun hS => ?_)
    clear hK K hS
    (try simp only [Act.put, List.setIfInBounds_toArray, List.set_cons_zero, List.set_cons_succ])
    have hS_1 : (fun W => Ext wr W) w1 := hy_1
    refine do_op 3 rfl (by kernel_rfl) (fun K hK => ?_)
    go_simp; (with_reducible refine (treeref_Right ao0 cap0 l0 _ j0 (by omega)).mono ?_); rintro e w2 ⟨rfl, hz2⟩
    have hx_2 : Ext w1 w2 := hz2
    have hy_2 : Ext wr w2 := Ext.tr hy_1 hx_2
    replace j0 := q0.ext hy_2
    refine hK.out _ _ hy_2 (fun hS => ?_)
    clear hK K hS
    (try simp only [Act.put, List.setIfInBounds_toArray, List.set_cons_zero, List.set_cons_succ])
    have hS_2 : (fun W => Ext wr W) w2 := hy_2
    refine take_op 4 (v := ?_) rfl (by kernel_rfl) (by kernel_rfl) (by kernel_rfl) (Or.inl ⟨by rfl, ?_⟩) (by assumption) ?_
    rotate_left 1
    · (intro W hS; go_simp; try with_reducible rfl)
    (try simp only [Act.put, List.setIfInBounds_toArray, List.set_cons_zero, List.set_cons_succ])
    refine take_op 5 (v := ?_) rfl (by kernel_rfl) (by kernel_rfl) (by kernel_rfl) (Or.inl ⟨by rfl, ?_⟩) (by assumption) ?_
    rotate_left 1
    · (intro W hS; go_simp; try with_reducible rfl)
    (try simp only [Act.put, List.setIfInBounds_toArray, List.set_cons_zero, List.set_cons_succ])
    refine take_op 7 (v := ?_) rfl (by kernel_rfl) (by kernel_rfl) (by kernel_rfl) (Or.inl ⟨by rfl, ?_⟩) (by assumption) ?_
    rotate_left 1
    · (intro W hS; go_simp; try with_reducible rfl)
    (try simp only [Act.put, List.setIfInBounds_toArray, List.set_cons_zero, List.set_cons_succ])
    refine take_op 12 (v := ?_) rfl (by kernel_rfl) (by kernel_rfl) (by kernel_rfl) (Or.inl ⟨by rfl, ?_⟩) (by assumption) ?_
    rotate_left 1
    · (intro W hS; go_simp; try with_reducible rfl)
    (try simp only [Act.put, List.setIfInBounds_toArray, List.set_cons_zero, List.set_cons_succ])
    refine do_op2 6 10 rfl rfl (by kernel_rfl) (fun K hK => ?_) (fun K hK => ?_)
    · skip
      go_simp; obtain ⟨w3, hw3⟩ : ∃ x, x = w2.alloc (.cells #[.int .u8 1] 5) := ⟨_, rfl⟩; rw [← hw3]; have hz3 : Ext w2 w3 := (by rw [hw3]; exact (Ext.rf _).al _); have hs3 : (w2).heap.size < (w3).heap.size := (by rw [hw3]; simp); have hoA : (w3).ownsRow (w2).heap.size 5 1 (.slice (some ⟨(w2).heap.size, 0, none⟩) 1 1) 1 [.int .u8 1] := (by rw [hw3]; exact World.ownsRow_lit (base := (w2).heap.size) (e := 5) (size := 1) w2 #[.int .u8 1] 1 (Nat.le_refl _) (by decide) rfl); clear hw3
      have hx_3 : Ext w2 w3 := hz3
      have hy_3 : Ext wr w3 := Ext.tr hy_2 hx_3
      replace j0 := q0.ext hy_3
      refine hK.out _ _ hy_3 (fun hS => ?_)
      clear hK K hS
      (try simp only [Act.put, List.setIfInBounds_toArray, List.set_cons_zero, List.set_cons_succ])
      have hbA : (w2).heap.size ≤ (w3).heap.size := (by omega); have hbw : wr.heap.size ≤ (w2).heap.size := Ext.size hy_2; have hfA : ∀ b off, l0 ≠ [] → ao0 = some ⟨b, off, none⟩ → b < (w2).heap.size := fun b off hne e => (by subst e; refine Nat.lt_of_lt_of_le (q0.lt ?_) hbw; intro e2; cases l0 with | nil => exact hne rfl | cons x r => simp [nodeC] at e2)
      have hS_3 : (fun W => Ext wr W) w3 := hy_3
      refine do_op2 8 10 rfl rfl (by kernel_rfl) (fun K hK => ?_) (fun K hK => ?_)
      · skip
        go_simp; (with_reducible refine (tree_Put _ _ 1 _ ao0 cap0 l0 _ hoA hbA (by omega) j0 (by omega) HV.out hfA).mono ?_); rw [HPR.out]; rintro e w4 ⟨v4, rfl, ho4, hg4⟩; obtain ⟨a9, k9, rfl, hc9, -⟩ := own_cells ho4
        have hy_4 : Ext wr w4 := Ext.push hy_3 hoA hbw hg4
        replace j0 := q0.ext hy_4
        refine hK.out _ _ hy_4 (fun hS => ?_)
        clear hK K hS
        (try simp only [Act.put, List.setIfInBounds_toArray, List.set_cons_zero, List.set_cons_succ])
        have hcv9 : ∀ W, Cells W a9 (.int .u8 1 :: PR.map byteC) → (convert 38 9 (.slice a9 (1 + PR.length) k9)).run Try.prog W = .ok (.string ⟨(1 :: PR).toArray⟩) W := fun W h => run_bytes_string _ (by simp [Nat.add_comm]) Try.underlying38 Try.underlying5 Try.underlying9 h; replace hc9 : Cells w4 a9 (.int .u8 1 :: PR.map byteC) := hc9
        refine wpAnyH_weaken (S' := fun W => Ext w4 W) (fun W h => Ext.tr hy_4 h) _ _ _ _ ?_
        have hS_4 : Ext w4 w4 := Ext.rf _
        refine take_op 9 (v := ?_) rfl (by kernel_rfl) (by kernel_rfl) (by kernel_rfl) (Or.inl ⟨by rfl, ?_⟩) (by assumption) ?_
        rotate_left 1
        · (intro W hS; have hc9 := Cells.ext hc9 hS; go_simp; try with_reducible rfl)
        (try simp only [Act.put, List.setIfInBounds_toArray, List.set_cons_zero, List.set_cons_succ])
        refine do_op2 10 13 rfl rfl (by kernel_rfl) (fun K hK => ?_) (fun K hK => ?_)
        · skip
          go_simp; obtain ⟨w5, hw5⟩ : ∃ x, x = w4.alloc (.cells #[.int .u8 1] 5) := ⟨_, rfl⟩; rw [← hw5]; have hz5 : Ext w4 w5 := (by rw [hw5]; exact (Ext.rf _).al _); have hs5 : (w4).heap.size < (w5).heap.size := (by rw [hw5]; simp); have hcB : Cells w5 (some ⟨(w4).heap.size, 0, none⟩) [.int .u8 1] := (by rw [hw5]; exact cells_new w4 [.int .u8 1] 5 _ rfl); clear hw5
          have hx_5 : Ext w4 w5 := hz5
          have hy_5 : Ext wr w5 := Ext.tr hy_4 hx_5
          replace j0 := q0.ext hy_5
          have hc9' := Cells.ext hc9 hx_5
          replace hc9 := hc9'
          refine hK.out _ _ hx_5 (fun hS => ?_)
          clear hK K hS
          (try simp only [Act.put, List.setIfInBounds_toArray, List.set_cons_zero, List.set_cons_succ])
          have hcvB : ∀ W, Cells W (some ⟨(w4).heap.size, 0, none⟩) [.int .u8 1] → (convert 38 9 (.slice (some ⟨(w4).heap.size, 0, none⟩) 1 1)).run Try.prog W = .ok (.string ⟨[1].toArray⟩) W := fun W h => run_bytes_string 1 rfl Try.underlying38 Try.underlying5 Try.underlying9 h
          refine wpAnyH_weaken (S' := fun W => Ext w5 W) (fun W h => Ext.tr hx_5 h) _ _ _ _ ?_
          have hS_5 : Ext w5 w5 := Ext.rf _
          refine take_op 11 (v := ?_) rfl (by kernel_rfl) (by kernel_rfl) (by kernel_rfl) (Or.inl ⟨by rfl, ?_⟩) (by assumption) ?_
          rotate_left 1
          · (intro W hS; have hc9 := Cells.ext hc9 hS; have hcB := Cells.ext hcB hS; go_simp; try with_reducible rfl)
          (try simp only [Act.put, List.setIfInBounds_toArray, List.set_cons_zero, List.set_cons_succ])
          refine do_op 13 rfl (by kernel_rfl) (fun K hK => ?_)
          go_simp; (with_reducible refine (treeref_Put ao0 cap0 l0 _ j0 (by omega) HV.out).mono ?_); rw [HPR.out]; rintro e w6 ⟨a10, k10, rfl, hc10, hz6, -⟩
          have hx_6 : Ext w5 w6 := hz6
          have hy_6 : Ext wr w6 := Ext.tr hy_5 hx_6
          replace j0 := q0.ext hy_6
          have hc9' := Cells.ext hc9 hx_6
          replace hc9 := hc9'
          have hcB' := Cells.ext hcB hx_6
          replace hcB := hcB'
          refine hK.out _ _ hx_6 (fun hS => ?_)
          clear hK K hS
          (try simp only [Act.put, List.setIfInBounds_toArray, List.set_cons_zero, List.set_cons_succ])
          have hcv10 : ∀ W, Cells W a10 (PR.map byteC) → (convert 38 9 (.slice a10 PR.length k10)).run Try.prog W = .ok (.string ⟨PR.toArray⟩) W := fun W h => run_bytes_string _ rfl Try.underlying38 Try.underlying5 Try.underlying9 h
          refine wpAnyH_weaken (S' := fun W => Ext w6 W) (fun W h => Ext.tr hx_6 h) _ _ _ _ ?_
          have hS_6 : Ext w6 w6 := Ext.rf _
          refine take_op 14 (v := ?_) rfl (by kernel_rfl) (by kernel_rfl) (by kernel_rfl) (Or.inl ⟨by rfl, ?_⟩) (by assumption) ?_
          rotate_left 1
          · (intro W hS; have hc9 := Cells.ext hc9 hS; have hcB := Cells.ext hcB hS; have hc10 := Cells.ext hc10 hS; go_simp; try with_reducible rfl)
          (try simp only [Act.put, List.setIfInBounds_toArray, List.set_cons_zero, List.set_cons_succ])
          refine take_op 15 (v := ?_) rfl (by kernel_rfl) (by kernel_rfl) (by kernel_rfl) (Or.inl ⟨by rfl, ?_⟩) (by assumption) ?_
          rotate_left 1
          · (intro W hS; go_simp; try with_reducible rfl)
          (try simp only [Act.put, List.setIfInBounds_toArray, List.set_cons_zero, List.set_cons_succ])
          refine take_op 16 (v := ?_) rfl (by kernel_rfl) (by kernel_rfl) (by kernel_rfl) (Or.inl ⟨by rfl, ?_⟩) (by assumption) ?_
          rotate_left 1
          · (intro W hS; go_simp; try with_reducible rfl)
          (try simp only [Act.put, List.setIfInBounds_toArray, List.set_cons_zero, List.set_cons_succ])
          refine take_op 17 (v := ?_) rfl (by kernel_rfl) (by kernel_rfl) (by kernel_rfl) (Or.inl ⟨by rfl, ?_⟩) (by assumption) ?_
          rotate_left 1
          · (intro W hS; go_simp; try with_reducible rfl)
          (try simp only [Act.put, List.setIfInBounds_toArray, List.set_cons_zero, List.set_cons_succ])
          refine take_op 18 (v := ?_) rfl (by kernel_rfl) (by kernel_rfl) (by kernel_rfl) (Or.inl ⟨by rfl, ?_⟩) (by assumption) ?_
          rotate_left 1
          · (intro W hS; go_simp; try with_reducible rfl)
          (try simp only [Act.put, List.setIfInBounds_toArray, List.set_cons_zero, List.set_cons_succ])
          refine do_op 19 rfl (by kernel_rfl) (fun K hK => ?_)
          go_simp; (with_reducible refine (tree_lives _).mono ?_); rintro e w7 ⟨rfl, hz7⟩
          have hx_7 : Ext w6 w7 := hz7
          have hy_7 : Ext wr w7 := Ext.tr hy_6 hx_7
          replace j0 := q0.ext hy_7
          have hc9' := Cells.ext hc9 hx_7
          replace hc9 := hc9'
          have hcB' := Cells.ext hcB hx_7
          replace hcB := hcB'
          have hc10' := Cells.ext hc10 hx_7
          replace hc10 := hc10'
          refine hK.out _ _ hx_7 (fun hS => ?_)
          clear hK K hS
          (try simp only [Act.put, List.setIfInBounds_toArray, List.set_cons_zero, List.set_cons_succ])
          refine wpAnyH_weaken (S' := fun W => Ext w7 W) (fun W h => Ext.tr hx_7 h) _ _ _ _ ?_
          have hS_7 : Ext w7 w7 := Ext.rf _
          refine take_op 20 (v := ?_) rfl (by kernel_rfl) (by kernel_rfl) (by kernel_rfl) (Or.inl ⟨by rfl, ?_⟩) (by assumption) ?_
          rotate_left 1
          · (intro W hS; go_simp; try with_reducible rfl)
          (try simp only [Act.put, List.setIfInBounds_toArray, List.set_cons_zero, List.set_cons_succ])
          refine take_op 21 (v := ?_) rfl (by kernel_rfl) (by kernel_rfl) (by kernel_rfl) (Or.inl ⟨by rfl, ?_⟩) (by assumption) ?_
          rotate_left 1
          · (intro W hS; go_simp; try with_reducible rfl)
          (try simp only [Act.put, List.setIfInBounds_toArray, List.set_cons_zero, List.set_cons_succ])
          refine wpAnyH_done (by kernel_rfl) ?_ _
          refine NoPanic.normal ?_
          go_wp2_with fail
          go_ret
          exact ⟨rfl, hy_7⟩
        · skip
          go_simp; (with_reducible refine (treeref_Put ao0 cap0 l0 _ j0 (by omega) HV.out).mono ?_); rw [HPR.out]; rintro e w8 ⟨a10, k10, rfl, hc10, hz8, -⟩
          have hx_8 : Ext w4 w8 := hz8
          have hy_8 : Ext wr w8 := Ext.tr hy_4 hx_8
          replace j0 := q0.ext hy_8
          have hc9' := Cells.ext hc9 hx_8
          replace hc9 := hc9'
          refine hK.out _ _ hx_8 (fun hS => ?_)
          clear hK K hS
          (try simp only [Act.put, List.setIfInBounds_toArray, List.set_cons_zero, List.set_cons_succ])
          have hcv10 : ∀ W, Cells W a10 (PR.map byteC) → (convert 38 9 (.slice a10 PR.length k10)).run Try.prog W = .ok (.string ⟨PR.toArray⟩) W := fun W h => run_bytes_string _ rfl Try.underlying38 Try.underlying5 Try.underlying9 h
          refine wpAnyH_weaken (S' := fun W => Ext w8 W) (fun W h => Ext.tr hx_8 h) _ _ _ _ ?_
          have hS_8 : Ext w8 w8 := Ext.rf _
          refine take_op 14 (v := ?_) rfl (by kernel_rfl) (by kernel_rfl) (by kernel_rfl) (Or.inl ⟨by rfl, ?_⟩) (by assumption) ?_
          rotate_left 1
          · (intro W hS; have hc9 := Cells.ext hc9 hS; have hc10 := Cells.ext hc10 hS; go_simp; try with_reducible rfl)
          (try simp only [Act.put, List.setIfInBounds_toArray, List.set_cons_zero, List.set_cons_succ])
          refine do_op 10 rfl (by kernel_rfl) (fun K hK => ?_)
          go_simp; obtain ⟨w9, hw9⟩ : ∃ x, x = w8.alloc (.cells #[.int .u8 1] 5) := ⟨_, rfl⟩; rw [← hw9]; have hz9 : Ext w8 w9 := (by rw [hw9]; exact (Ext.rf _).al _); have hs9 : (w8).heap.size < (w9).heap.size := (by rw [hw9]; simp); have hcB : Cells w9 (some ⟨(w8).heap.size, 0, none⟩) [.int .u8 1] := (by rw [hw9]; exact cells_new w8 [.int .u8 1] 5 _ rfl); clear hw9
          have hx_9 : Ext w8 w9 := hz9
          have hy_9 : Ext wr w9 := Ext.tr hy_8 hx_9
          replace j0 := q0.ext hy_9
          have hc9' := Cells.ext hc9 hx_9
          replace hc9 := hc9'
          have hc10' := Cells.ext hc10 hx_9
          replace hc10 := hc10'
          refine hK.out _ _ hx_9 (fun hS => ?_)
          clear hK K hS
          (try simp only [Act.put, List.setIfInBounds_toArray, List.set_cons_zero, List.set_cons_succ])
          have hcvB : ∀ W, Cells W (some ⟨(w8).heap.size, 0, none⟩) [.int .u8 1] → (convert 38 9 (.slice (some ⟨(w8).heap.size, 0, none⟩) 1 1)).run Try.prog W = .ok (.string ⟨[1].toArray⟩) W := fun W h => run_bytes_string 1 rfl Try.underlying38 Try.underlying5 Try.underlying9 h
          refine wpAnyH_weaken (S' := fun W => Ext w9 W) (fun W h => Ext.tr hx_9 h) _ _ _ _ ?_
          have hS_9 : Ext w9 w9 := Ext.rf _
          refine take_op 11 (v := ?_) rfl (by kernel_rfl) (by kernel_rfl) (by kernel_rfl) (Or.inl ⟨by rfl, ?_⟩) (by assumption) ?_
          rotate_left 1
          · (intro W hS; have hc9 := Cells.ext hc9 hS; have hc10 := Cells.ext hc10 hS; have hcB := Cells.ext hcB hS; go_simp; try with_reducible rfl)
          (try simp only [Act.put, List.setIfInBounds_toArray, List.set_cons_zero, List.set_cons_succ])
          refine take_op 15 (v := ?_) rfl (by kernel_rfl) (by kernel_rfl) (by kernel_rfl) (Or.inl ⟨by rfl, ?_⟩) (by assumption) ?_
          rotate_left 1
          · (intro W hS; go_simp; try with_reducible rfl)
          (try simp only [Act.put, List.setIfInBounds_toArray, List.set_cons_zero, List.set_cons_succ])
          refine take_op 16 (v := ?_) rfl (by kernel_rfl) (by kernel_rfl) (by kernel_rfl) (Or.inl ⟨by rfl, ?_⟩) (by assumption) ?_
          rotate_left 1
          · (intro W hS; go_simp; try with_reducible rfl)
          (try simp only [Act.put, List.setIfInBounds_toArray, List.set_cons_zero, List.set_cons_succ])
          refine take_op 17 (v := ?_) rfl (by kernel_rfl) (by kernel_rfl) (by kernel_rfl) (Or.inl ⟨by rfl, ?_⟩) (by assumption) ?_
          rotate_left 1
          · (intro W hS; go_simp; try with_reducible rfl)
          (try simp only [Act.put, List.setIfInBounds_toArray, List.set_cons_zero, List.set_cons_succ])
          refine take_op 18 (v := ?_) rfl (by kernel_rfl) (by kernel_rfl) (by kernel_rfl) (Or.inl ⟨by rfl, ?_⟩) (by assumption) ?_
          rotate_left 1
          · (intro W hS; go_simp; try with_reducible rfl)
          (try simp only [Act.put, List.setIfInBounds_toArray, List.set_cons_zero, List.set_cons_succ])
          refine do_op 19 rfl (by kernel_rfl) (fun K hK => ?_)
          go_simp; (with_reducible refine (tree_lives _).mono ?_); rintro e w10 ⟨rfl, hz10⟩
          have hx_10 : Ext w9 w10 := hz10
          have hy_10 : Ext wr w10 := Ext.tr hy_9 hx_10
          replace j0 := q0.ext hy_10
          have hc9' := Cells.ext hc9 hx_10
          replace hc9 := hc9'
          have hc10' := Cells.ext hc10 hx_10
          replace hc10 := hc10'
          have hcB' := Cells.ext hcB hx_10
          replace hcB := hcB'
          refine hK.out _ _ hx_10 (fun hS => ?_)
          clear hK K hS
          (try simp only [Act.put, List.setIfInBounds_toArray, List.set_cons_zero, List.set_cons_succ])
          refine wpAnyH_weaken (S' := fun W => Ext w10 W) (fun W h => Ext.tr hx_10 h) _ _ _ _ ?_
          have hS_10 : Ext w10 w10 := Ext.rf _
          refine take_op 20 (v := ?_) rfl (by kernel_rfl) (by kernel_rfl) (by kernel_rfl) (Or.inl ⟨by rfl, ?_⟩) (by assumption) ?_
          rotate_left 1
          · (intro W hS; go_simp; try with_reducible rfl)
          (try simp only [Act.put, List.setIfInBounds_toArray, List.set_cons_zero, List.set_cons_succ])
          refine take_op 21 (v := ?_) rfl (by kernel_rfl) (by kernel_rfl) (by kernel_rfl) (Or.inl ⟨by rfl, ?_⟩) (by assumption) ?_
          rotate_left 1
          · (intro W hS; go_simp; try with_reducible rfl)
          (try simp only [Act.put, List.setIfInBounds_toArray, List.set_cons_zero, List.set_cons_succ])
          refine wpAnyH_done (by kernel_rfl) ?_ _
          refine NoPanic.normal ?_
          go_wp2_with fail
          go_ret
          exact ⟨rfl, hy_10⟩
      · skip
        go_simp; obtain ⟨w11, hw11⟩ : ∃ x, x = w3.alloc (.cells #[.int .u8 1] 5) := ⟨_, rfl⟩; rw [← hw11]; have hz11 : Ext w3 w11 := (by rw [hw11]; exact (Ext.rf _).al _); have hs11 : (w3).heap.size < (w11).heap.size := (by rw [hw11]; simp); have hcB : Cells w11 (some ⟨(w3).heap.size, 0, none⟩) [.int .u8 1] := (by rw [hw11]; exact cells_new w3 [.int .u8 1] 5 _ rfl); clear hw11
        have hx_11 : Ext w3 w11 := hz11
        have hy_11 : Ext wr w11 := Ext.tr hy_3 hx_11
        replace j0 := q0.ext hy_11
        replace hoA := own_ext hoA hx_11
        replace hbA := Nat.le_trans hbA (Ext.size hx_11)
        refine hK.out _ _ hy_11 (fun hS => ?_)
        clear hK K hS
        (try simp only [Act.put, List.setIfInBounds_toArray, List.set_cons_zero, List.set_cons_succ])
        have hcvB : ∀ W, Cells W (some ⟨(w3).heap.size, 0, none⟩) [.int .u8 1] → (convert 38 9 (.slice (some ⟨(w3).heap.size, 0, none⟩) 1 1)).run Try.prog W = .ok (.string ⟨[1].toArray⟩) W := fun W h => run_bytes_string 1 rfl Try.underlying38 Try.underlying5 Try.underlying9 h
        refine wpAnyH_weaken (S' := fun W => Ext wr W ∧ Cells W (some ⟨(w3).heap.size, 0, none⟩) [.int .u8 1]) (fun W h => h.1) _ _ _ _ ?_
        have hS_11 : (fun W => Ext wr W ∧ Cells W (some ⟨(w3).heap.size, 0, none⟩) [.int .u8 1]) w11 := ⟨hy_11, hcB⟩
        refine take_op 11 (v := ?_) rfl (by kernel_rfl) (by kernel_rfl) (by kernel_rfl) (Or.inl ⟨by rfl, ?_⟩) (by assumption) ?_
        rotate_left 1
        · (intro W hS; obtain ⟨hS0, hcB⟩ := hS; go_simp; try with_reducible rfl)
        (try simp only [Act.put, List.setIfInBounds_toArray, List.set_cons_zero, List.set_cons_succ])
        refine do_op 8 rfl (by kernel_rfl) (fun K hK => ?_)
        go_simp; (with_reducible refine (tree_Put _ _ 1 _ ao0 cap0 l0 _ hoA hbA (by omega) j0 (by omega) HV.out hfA).mono ?_); rw [HPR.out]; rintro e w12 ⟨v12, rfl, ho12, hg12⟩; obtain ⟨a9, k9, rfl, hc9, -⟩ := own_cells ho12
        have hy_12 : Ext wr w12 := Ext.push hy_11 hoA hbw hg12
        replace j0 := q0.ext hy_12
        have hcB' := hcB.grow hg12 (fun ad e => by cases e; simp [Value.ownBlock]; omega)
        replace hcB := hcB'
        refine hK.out _ _ ⟨hy_12, hcB⟩ (fun hS => ?_)
        clear hK K hS
        (try simp only [Act.put, List.setIfInBounds_toArray, List.set_cons_zero, List.set_cons_succ])
        have hcv9 : ∀ W, Cells W a9 (.int .u8 1 :: PR.map byteC) → (convert 38 9 (.slice a9 (1 + PR.length) k9)).run Try.prog W = .ok (.string ⟨(1 :: PR).toArray⟩) W := fun W h => run_bytes_string _ (by simp [Nat.add_comm]) Try.underlying38 Try.underlying5 Try.underlying9 h; replace hc9 : Cells w12 a9 (.int .u8 1 :: PR.map byteC) := hc9
        refine wpAnyH_weaken (S' := fun W => Ext w12 W) (fun W h => ⟨Ext.tr hy_12 h, Cells.ext hcB h⟩) _ _ _ _ ?_
        have hS_12 : Ext w12 w12 := Ext.rf _
        refine take_op 9 (v := ?_) rfl (by kernel_rfl) (by kernel_rfl) (by kernel_rfl) (Or.inl ⟨by rfl, ?_⟩) (by assumption) ?_
        rotate_left 1
        · (intro W hS; have hcB := Cells.ext hcB hS; have hc9 := Cells.ext hc9 hS; go_simp; try with_reducible rfl)
        (try simp only [Act.put, List.setIfInBounds_toArray, List.set_cons_zero, List.set_cons_succ])
        refine do_op 13 rfl (by kernel_rfl) (fun K hK => ?_)
        go_simp; (with_reducible refine (treeref_Put ao0 cap0 l0 _ j0 (by omega) HV.out).mono ?_); rw [HPR.out]; rintro e w13 ⟨a10, k10, rfl, hc10, hz13, -⟩
        have hx_13 : Ext w12 w13 := hz13
        have hy_13 : Ext wr w13 := Ext.tr hy_12 hx_13
        replace j0 := q0.ext hy_13
        have hcB' := Cells.ext hcB hx_13
        replace hcB := hcB'
        have hc9' := Cells.ext hc9 hx_13
        replace hc9 := hc9'
        refine hK.out _ _ hx_13 (fun hS => ?_)
        clear hK K hS
        (try simp only [Act.put, List.setIfInBounds_toArray, List.set_cons_zero, List.set_cons_succ])
        have hcv10 : ∀ W, Cells W a10 (PR.map byteC) → (convert 38 9 (.slice a10 PR.length k10)).run Try.prog W = .ok (.string ⟨PR.toArray⟩) W := fun W h => run_bytes_string _ rfl Try.underlying38 Try.underlying5 Try.underlying9 h
        refine wpAnyH_weaken (S' := fun W => Ext w13 W) (fun W h => Ext.tr hx_13 h) _ _ _ _ ?_
        have hS_13 : Ext w13 w13 := Ext.rf _
        refine take_op 14 (v := ?_) rfl (by kernel_rfl) (by kernel_rfl) (by kernel_rfl) (Or.inl ⟨by rfl, ?_⟩) (by assumption) ?_
        rotate_left 1
        · (intro W hS; have hcB := Cells.ext hcB hS; have hc9 := Cells.ext hc9 hS; have hc10 := Cells.ext hc10 hS; go_simp; try with_reducible rfl)
        (try simp only [Act.put, List.setIfInBounds_toArray, List.set_cons_zero, List.set_cons_succ])
        refine take_op 15 (v := ?_) rfl (by kernel_rfl) (by kernel_rfl) (by kernel_rfl) (Or.inl ⟨by rfl, ?_⟩) (by assumption) ?_
        rotate_left 1
        · (intro W hS; go_simp; try with_reducible rfl)
        (try simp only [Act.put, List.setIfInBounds_toArray, List.set_cons_zero, List.set_cons_succ])
        refine take_op 16 (v := ?_) rfl (by kernel_rfl) (by kernel_rfl) (by kernel_rfl) (Or.inl ⟨by rfl, ?_⟩) (by assumption) ?_
        rotate_left 1
        · (intro W hS; go_simp; try with_reducible rfl)
        (try simp only [Act.put, List.setIfInBounds_toArray, List.set_cons_zero, List.set_cons_succ])
        refine take_op 17 (v := ?_) rfl (by kernel_rfl) (by kernel_rfl) (by kernel_rfl) (Or.inl ⟨by rfl, ?_⟩) (by assumption) ?_
        rotate_left 1
        · (intro W hS; go_simp; try with_reducible rfl)
        (try simp only [Act.put, List.setIfInBounds_toArray, List.set_cons_zero, List.set_cons_succ])
        refine take_op 18 (v := ?_) rfl (by kernel_rfl) (by kernel_rfl) (by kernel_rfl) (Or.inl ⟨by rfl, ?_⟩) (by assumption) ?_
        rotate_left 1
        · (intro W hS; go_simp; try with_reducible rfl)
        (try simp only [Act.put, List.setIfInBounds_toArray, List.set_cons_zero, List.set_cons_succ])
        refine do_op 19 rfl (by kernel_rfl) (fun K hK => ?_)
        go_simp; (with_reducible refine (tree_lives _).mono ?_); rintro e w14 ⟨rfl, hz14⟩
        have hx_14 : Ext w13 w14 := hz14
        have hy_14 : Ext wr w14 := Ext.tr hy_13 hx_14
        replace j0 := q0.ext hy_14
        have hcB' := Cells.ext hcB hx_14
        replace hcB := hcB'
        have hc9' := Cells.ext hc9 hx_14
        replace hc9 := hc9'
        have hc10' := Cells.ext hc10 hx_14
        replace hc10 := hc10'
        refine hK.out _ _ hx_14 (fun hS => ?_)
        clear hK K hS
        (try simp only [Act.put, List.setIfInBounds_toArray, List.set_cons_zero, List.set_cons_succ])
        refine wpAnyH_weaken (S' := fun W => Ext w14 W) (fun W h => Ext.tr hx_14 h) _ _ _ _ ?_
        have hS_14 : Ext w14 w14 := Ext.rf _
        refine take_op 20 (v := ?_) rfl (by kernel_rfl) (by kernel_rfl) (by kernel_rfl) (Or.inl ⟨by rfl, ?_⟩) (by assumption) ?_
        rotate_left 1
        · (intro W hS; go_simp; try with_reducible rfl)
        (try simp only [Act.put, List.setIfInBounds_toArray, List.set_cons_zero, List.set_cons_succ])
        refine take_op 21 (v := ?_) rfl (by kernel_rfl) (by kernel_rfl) (by kernel_rfl) (Or.inl ⟨by rfl, ?_⟩) (by assumption) ?_
        rotate_left 1
        · (intro W hS; go_simp; try with_reducible rfl)
        (try simp only [Act.put, List.setIfInBounds_toArray, List.set_cons_zero, List.set_cons_succ])
        refine wpAnyH_done (by kernel_rfl) ?_ _
        refine NoPanic.normal ?_
        go_wp2_with fail
        go_ret
        exact ⟨rfl, hy_14⟩
    · skip
      go_simp; obtain ⟨w15, hw15⟩ : ∃ x, x = w2.alloc (.cells #[.int .u8 1] 5) := ⟨_, rfl⟩; rw [← hw15]; have hz15 : Ext w2 w15 := (by rw [hw15]; exact (Ext.rf _).al _); have hs15 : (w2).heap.size < (w15).heap.size := (by rw [hw15]; simp); have hcB : Cells w15 (some ⟨(w2).heap.size, 0, none⟩) [.int .u8 1] := (by rw [hw15]; exact cells_new w2 [.int .u8 1] 5 _ rfl); clear hw15
      have hx_15 : Ext w2 w15 := hz15
      have hy_15 : Ext wr w15 := Ext.tr hy_2 hx_15
      replace j0 := q0.ext hy_15
      refine hK.out _ _ hy_15 (fun hS => ?_)
      clear hK K hS
      (try simp only [Act.put, List.setIfInBounds_toArray, List.set_cons_zero, List.set_cons_succ])
      have hcvB : ∀ W, Cells W (some ⟨(w2).heap.size, 0, none⟩) [.int .u8 1] → (convert 38 9 (.slice (some ⟨(w2).heap.size, 0, none⟩) 1 1)).run Try.prog W = .ok (.string ⟨[1].toArray⟩) W := fun W h => run_bytes_string 1 rfl Try.underlying38 Try.underlying5 Try.underlying9 h
      refine wpAnyH_weaken (S' := fun W => Ext wr W ∧ Cells W (some ⟨(w2).heap.size, 0, none⟩) [.int .u8 1]) (fun W h => h.1) _ _ _ _ ?_
      have hS_15 : (fun W => Ext wr W ∧ Cells W (some ⟨(w2).heap.size, 0, none⟩) [.int .u8 1]) w15 := ⟨hy_15, hcB⟩
      refine take_op 11 (v := ?_) rfl (by kernel_rfl) (by kernel_rfl) (by kernel_rfl) (Or.inl ⟨by rfl, ?_⟩) (by assumption) ?_
      rotate_left 1
      · (intro W hS; obtain ⟨hS0, hcB⟩ := hS; go_simp; try with_reducible rfl)
      (try simp only [Act.put, List.setIfInBounds_toArray, List.set_cons_zero, List.set_cons_succ])
      refine do_op 6 rfl (by kernel_rfl) (fun K hK => ?_)
      go_simp; obtain ⟨w16, hw16⟩ : ∃ x, x = w15.alloc (.cells #[.int .u8 1] 5) := ⟨_, rfl⟩; rw [← hw16]; have hz16 : Ext w15 w16 := (by rw [hw16]; exact (Ext.rf _).al _); have hs16 : (w15).heap.size < (w16).heap.size := (by rw [hw16]; simp); have hoA : (w16).ownsRow (w15).heap.size 5 1 (.slice (some ⟨(w15).heap.size, 0, none⟩) 1 1) 1 [.int .u8 1] := (by rw [hw16]; exact World.ownsRow_lit (base := (w15).heap.size) (e := 5) (size := 1) w15 #[.int .u8 1] 1 (Nat.le_refl _) (by decide) rfl); clear hw16
      have hx_16 : Ext w15 w16 := hz16
      have hy_16 : Ext wr w16 := Ext.tr hy_15 hx_16
      replace j0 := q0.ext hy_16
      have hcB' := Cells.ext hcB hx_16
      replace hcB := hcB'
      refine hK.out _ _ ⟨hy_16, hcB⟩ (fun hS => ?_)
      clear hK K hS
      (try simp only [Act.put, List.setIfInBounds_toArray, List.set_cons_zero, List.set_cons_succ])
      have hbA : (w15).heap.size ≤ (w16).heap.size := (by omega); have hbw : wr.heap.size ≤ (w15).heap.size := Ext.size hy_15; have hfA : ∀ b off, l0 ≠ [] → ao0 = some ⟨b, off, none⟩ → b < (w15).heap.size := fun b off hne e => (by subst e; refine Nat.lt_of_lt_of_le (q0.lt ?_) hbw; intro e2; cases l0 with | nil => exact hne rfl | cons x r => simp [nodeC] at e2)
      have hS_16 : (fun W => Ext wr W ∧ Cells W (some ⟨(w2).heap.size, 0, none⟩) [.int .u8 1]) w16 := ⟨hy_16, hcB⟩
      refine do_op 8 rfl (by kernel_rfl) (fun K hK => ?_)
      go_simp; (with_reducible refine (tree_Put _ _ 1 _ ao0 cap0 l0 _ hoA hbA (by omega) j0 (by omega) HV.out hfA).mono ?_); rw [HPR.out]; rintro e w17 ⟨v17, rfl, ho17, hg17⟩; obtain ⟨a9, k9, rfl, hc9, -⟩ := own_cells ho17
      have hy_17 : Ext wr w17 := Ext.push hy_16 hoA hbw hg17
      replace j0 := q0.ext hy_17
      have hcB' := hcB.grow hg17 (fun ad e => by cases e; simp [Value.ownBlock]; omega)
      replace hcB := hcB'
      refine hK.out _ _ ⟨hy_17, hcB⟩ (fun hS => ?_)
      clear hK K hS
      (try simp only [Act.put, List.setIfInBounds_toArray, List.set_cons_zero, List.set_cons_succ])
      have hcv9 : ∀ W, Cells W a9 (.int .u8 1 :: PR.map byteC) → (convert 38 9 (.slice a9 (1 + PR.length) k9)).run Try.prog W = .ok (.string ⟨(1 :: PR).toArray⟩) W := fun W h => run_bytes_string _ (by simp [Nat.add_comm]) Try.underlying38 Try.underlying5 Try.underlying9 h; replace hc9 : Cells w17 a9 (.int .u8 1 :: PR.map byteC) := hc9
      refine wpAnyH_weaken (S' := fun W => Ext w17 W) (fun W h => ⟨Ext.tr hy_17 h, Cells.ext hcB h⟩) _ _ _ _ ?_
      have hS_17 : Ext w17 w17 := Ext.rf _
      refine take_op 9 (v := ?_) rfl (by kernel_rfl) (by kernel_rfl) (by kernel_rfl) (Or.inl ⟨by rfl, ?_⟩) (by assumption) ?_
      rotate_left 1
      · (intro W hS; have hcB := Cells.ext hcB hS; have hc9 := Cells.ext hc9 hS; go_simp; try with_reducible rfl)
      (try simp only [Act.put, List.setIfInBounds_toArray, List.set_cons_zero, List.set_cons_succ])
      refine do_op 13 rfl (by kernel_rfl) (fun K hK => ?_)
      go_simp; (with_reducible refine (treeref_Put ao0 cap0 l0 _ j0 (by omega) HV.out).mono ?_); rw [HPR.out]; rintro e w18 ⟨a10, k10, rfl, hc10, hz18, -⟩
      have hx_18 : Ext w17 w18 := hz18
      have hy_18 : Ext wr w18 := Ext.tr hy_17 hx_18
      replace j0 := q0.ext hy_18
      have hcB' := Cells.ext hcB hx_18
      replace hcB := hcB'
      have hc9' := Cells.ext hc9 hx_18
      replace hc9 := hc9'
      refine hK.out _ _ hx_18 (fun hS => ?_)
      clear hK K hS
      (try simp only [Act.put, List.setIfInBounds_toArray, List.set_cons_zero, List.set_cons_succ])
      have hcv10 : ∀ W, Cells W a10 (PR.map byteC) → (convert 38 9 (.slice a10 PR.length k10)).run Try.prog W = .ok (.string ⟨PR.toArray⟩) W := fun W h => run_bytes_string _ rfl Try.underlying38 Try.underlying5 Try.underlying9 h
      refine wpAnyH_weaken (S' := fun W => Ext w18 W) (fun W h => Ext.tr hx_18 h) _ _ _ _ ?_
      have hS_18 : Ext w18 w18 := Ext.rf _
      refine take_op 14 (v := ?_) rfl (by kernel_rfl) (by kernel_rfl) (by kernel_rfl) (Or.inl ⟨by rfl, ?_⟩) (by assumption) ?_
      rotate_left 1
      · (intro W hS; have hcB := Cells.ext hcB hS; have hc9 := Cells.ext hc9 hS; have hc10 := Cells.ext hc10 hS; go_simp; try with_reducible rfl)
      (try simp only [Act.put, List.setIfInBounds_toArray, List.set_cons_zero, List.set_cons_succ])
      refine take_op 15 (v := ?_) rfl (by kernel_rfl) (by kernel_rfl) (by kernel_rfl) (Or.inl ⟨by rfl, ?_⟩) (by assumption) ?_
      rotate_left 1
      · (intro W hS; go_simp; try with_reducible rfl)
      (try simp only [Act.put, List.setIfInBounds_toArray, List.set_cons_zero, List.set_cons_succ])
      refine take_op 16 (v := ?_) rfl (by kernel_rfl) (by kernel_rfl) (by kernel_rfl) (Or.inl ⟨by rfl, ?_⟩) (by assumption) ?_
      rotate_left 1
      · (intro W hS; go_simp; try with_reducible rfl)
      (try simp only [Act.put, List.setIfInBounds_toArray, List.set_cons_zero, List.set_cons_succ])
      refine take_op 17 (v := ?_) rfl (by kernel_rfl) (by kernel_rfl) (by kernel_rfl) (Or.inl ⟨by rfl, ?_⟩) (by assumption) ?_
      rotate_left 1
      · (intro W hS; go_simp; try with_reducible rfl)
      (try simp only [Act.put, List.setIfInBounds_toArray, List.set_cons_zero, List.set_cons_succ])
      refine take_op 18 (v := ?_) rfl (by kernel_rfl) (by kernel_rfl) (by kernel_rfl) (Or.inl ⟨by rfl, ?_⟩) (by assumption) ?_
      rotate_left 1
      · (intro W hS; go_simp; try with_reducible rfl)
      (try simp only [Act.put, List.setIfInBounds_toArray, List.set_cons_zero, List.set_cons_succ])
      refine do_op 19 rfl (by kernel_rfl) (fun K hK => ?_)
      go_simp; (with_reducible refine (tree_lives _).mono ?_); rintro e w19 ⟨rfl, hz19⟩
      have hx_19 : Ext w18 w19 := hz19
      have hy_19 : Ext wr w19 := Ext.tr hy_18 hx_19
      replace j0 := q0.ext hy_19
      have hcB' := Cells.ext hcB hx_19
      replace hcB := hcB'
      have hc9' := Cells.ext hc9 hx_19
      replace hc9 := hc9'
      have hc10' := Cells.ext hc10 hx_19
      replace hc10 := hc10'
      refine hK.out _ _ hx_19 (fun hS => ?_)
      clear hK K hS
      (try simp only [Act.put, List.setIfInBounds_toArray, List.set_cons_zero, List.set_cons_succ])
      refine wpAnyH_weaken (S' := fun W => Ext w19 W) (fun W h => Ext.tr hx_19 h) _ _ _ _ ?_
      have hS_19 : Ext w19 w19 := Ext.rf _
      refine take_op 20 (v := ?_) rfl (by kernel_rfl) (by kernel_rfl) (by kernel_rfl) (Or.inl ⟨by rfl, ?_⟩) (by assumption) ?_
      rotate_left 1
      · (intro W hS; go_simp; try with_reducible rfl)
      (try simp only [Act.put, List.setIfInBounds_toArray, List.set_cons_zero, List.set_cons_succ])
      refine take_op 21 (v := ?_) rfl (by kernel_rfl) (by kernel_rfl) (by kernel_rfl) (Or.inl ⟨by rfl, ?_⟩) (by assumption) ?_
      rotate_left 1
      · (intro W hS; go_simp; try with_reducible rfl)
      (try simp only [Act.put, List.setIfInBounds_toArray, List.set_cons_zero, List.set_cons_succ])
      refine wpAnyH_done (by kernel_rfl) ?_ _
      refine NoPanic.normal ?_
      go_wp2_with fail
      go_ret
      exact ⟨rfl, hy_19⟩
end Go.Proofs.Ytofdkhilapmccaa
