/- FncCan: the law's walk. -/
import Derived.Test.YtofdkhilapmccaaFncY
import Derived.Test.YtofdkhilapmccaaFncSmall
import Derived.Test.YtofdkhilapmccaaFncL
import Derived.Test.YtofdkhilapmccaaOpenF
namespace Go.Proofs.Ytofdkhilapmccaa
open Go.RowKit

set_option maxHeartbeats 16000000 in
set_option maxRecDepth 20000 in
theorem FncCan_walk (x0 : FuncA × FuncT) (w : World) (hx0 : FuncIn w x0.1 x0.2 ∧ FuncB x0.2) :
    Calls Try.prog 9 #[.agg #[.string x0.2.name, .bool x0.2.inner, .slice x0.1.o1 x0.2.outer.length x0.1.c1, .slice x0.1.o2 x0.2.params.length x0.1.c2, .slice x0.1.o3 x0.2.results.length x0.1.c3, .slice x0.1.o4 x0.2.locs.length x0.1.c4, .slice x0.1.o5 x0.2.code.length x0.1.c5, .slice x0.1.o6 x0.2.lines.length x0.1.c6, .slice x0.1.o7 x0.2.nodes.length x0.1.c7, .slice x0.1.o8 x0.2.ats.length x0.1.c8, .slice x0.1.o9 x0.2.live.length x0.1.c9]] w fun e w' => e = .returned (.bool true) ∧ Ext w w' := by
  obtain ⟨A, f⟩ := x0
  obtain ⟨hf, bf⟩ := hx0
  simp only at hf bf ⊢
  have HFB := Lib.hid bf
  have HFI := Lib.hid hf
  clear bf hf
  go_enter Try.func9, Try.ntmps9
  go_upto_region 1 with fail
  obtain ⟨hx0, hz0, hcA⟩ := one_box w [.string f.name, .bool f.inner, .slice A.o1 f.outer.length A.c1, .slice A.o2 f.params.length A.c2, .slice A.o3 f.results.length A.c3, .slice A.o4 f.locs.length A.c4, .slice A.o5 f.code.length A.c5, .slice A.o6 f.lines.length A.c6, .slice A.o7 f.nodes.length A.c7, .slice A.o8 f.ats.length A.c8, .slice A.o9 f.live.length A.c9] 28
  generalize hW1 : w.alloc (.cells ([.string f.name, .bool f.inner, .slice A.o1 f.outer.length A.c1, .slice A.o2 f.params.length A.c2, .slice A.o3 f.results.length A.c3, .slice A.o4 f.locs.length A.c4, .slice A.o5 f.code.length A.c5, .slice A.o6 f.lines.length A.c6, .slice A.o7 f.nodes.length A.c7, .slice A.o8 f.ats.length A.c8, .slice A.o9 f.live.length A.c9] : List Value).toArray 28) = W1 at *
  clear hW1
  have c0 : W1.cell? ⟨w.heap.size, 0, none⟩ = some (.string f.name) := by have := hcA.cell _ _ rfl 0 _ rfl; rwa [Nat.zero_add] at this
  have c1 : W1.cell? ⟨w.heap.size, 1, none⟩ = some (.bool f.inner) := by have := hcA.cell _ _ rfl 1 _ rfl; rwa [Nat.zero_add] at this
  have c2 : W1.cell? ⟨w.heap.size, 2, none⟩ = some (.slice A.o1 f.outer.length A.c1) := by have := hcA.cell _ _ rfl 2 _ rfl; rwa [Nat.zero_add] at this
  have c3 : W1.cell? ⟨w.heap.size, 3, none⟩ = some (.slice A.o2 f.params.length A.c2) := by have := hcA.cell _ _ rfl 3 _ rfl; rwa [Nat.zero_add] at this
  have c4 : W1.cell? ⟨w.heap.size, 4, none⟩ = some (.slice A.o3 f.results.length A.c3) := by have := hcA.cell _ _ rfl 4 _ rfl; rwa [Nat.zero_add] at this
  have c5 : W1.cell? ⟨w.heap.size, 5, none⟩ = some (.slice A.o4 f.locs.length A.c4) := by have := hcA.cell _ _ rfl 5 _ rfl; rwa [Nat.zero_add] at this
  have c6 : W1.cell? ⟨w.heap.size, 6, none⟩ = some (.slice A.o5 f.code.length A.c5) := by have := hcA.cell _ _ rfl 6 _ rfl; rwa [Nat.zero_add] at this
  have c7 : W1.cell? ⟨w.heap.size, 7, none⟩ = some (.slice A.o6 f.lines.length A.c6) := by have := hcA.cell _ _ rfl 7 _ rfl; rwa [Nat.zero_add] at this
  have c8 : W1.cell? ⟨w.heap.size, 8, none⟩ = some (.slice A.o7 f.nodes.length A.c7) := by have := hcA.cell _ _ rfl 8 _ rfl; rwa [Nat.zero_add] at this
  have c9 : W1.cell? ⟨w.heap.size, 9, none⟩ = some (.slice A.o8 f.ats.length A.c8) := by have := hcA.cell _ _ rfl 9 _ rfl; rwa [Nat.zero_add] at this
  have c10 : W1.cell? ⟨w.heap.size, 10, none⟩ = some (.slice A.o9 f.live.length A.c9) := by have := hcA.cell _ _ rfl 10 _ rfl; rwa [Nat.zero_add] at this
  clear hcA
  go_wp2_with fail
  refine (fnc_Small A f _ HFB.out).mono ?_
  rintro e wr ⟨rfl, hx2⟩
  have HX2 := Lib.hid (hx0.tr hx2)
  have q0 := HFI.out.ext (hx0.tr hx2)
  have j0 := q0
  cases hs : smallF f with
  | false =>
    clear hs q0 j0
    go_wp2_with fail
    refine (fnc_lives _).mono ?_
    rintro e w9 ⟨rfl, hy9⟩
    go_wp2_with fail
    go_ret
    exact ⟨rfl, HX2.out.tr hy9⟩
  | true =>
    clear hs
    have e0 := hx2.has c0
    have e1 := hx2.has c1
    have e2 := hx2.has c2
    have e3 := hx2.has c3
    have e4 := hx2.has c4
    have e5 := hx2.has c5
    have e6 := hx2.has c6
    have e7 := hx2.has c7
    have e8 := hx2.has c8
    have e9 := hx2.has c9
    have e10 := hx2.has c10
    have hpl := putFY_le f
    generalize hPR : putF' f = PR at *
    have HPR := Lib.hid hPR
    clear hPR hx0 hx2 c0 c1 c2 c3 c4 c5 c6 c7 c8 c9 c10
    have tC : (canF f == canF f) = true := by simp
    have tB : (bareF f == bareF f) = true := by simp
    have heq : (ByteArray.mk [1].toArray ++ ByteArray.mk PR.toArray).toList = 1 :: PR := by rw [ByteArray.toList_eq]; simp [ByteArray.data_append]
    have hnb : ¬ 9223372036854775807 < 1 + PR.length := by omega
    go_upto_region 3 with fail
    refine wp_region_ext (fun W => Ext wr W) (by kernel_rfl) ((Ext.rf _).dr) (fun hS_0 => ?_)
    have hy_0 : Ext wr wr.drew := (Ext.rf _).dr
    replace j0 := q0.ext hy_0
    refine take_op 0 (v := ?_) rfl (by kernel_rfl) (by kernel_rfl) (by kernel_rfl) (Or.inl ⟨by rfl, ?_⟩) (by assumption) ?_
    rotate_left 1
    · (intro W hS; have hS0 := hS; have e0 := Ext.has hS0 e0; have e1 := Ext.has hS0 e1; have e2 := Ext.has hS0 e2; have e3 := Ext.has hS0 e3; have e4 := Ext.has hS0 e4; have e5 := Ext.has hS0 e5; have e6 := Ext.has hS0 e6; have e7 := Ext.has hS0 e7; have e8 := Ext.has hS0 e8; have e9 := Ext.has hS0 e9; have e10 := Ext.has hS0 e10; go_simp; try with_reducible rfl)
    (try simp only [Act.put, List.setIfInBounds_toArray, List.set_cons_zero, List.set_cons_succ])
    refine take_op 2 (v := ?_) rfl (by kernel_rfl) (by kernel_rfl) (by kernel_rfl) (Or.inl ⟨by rfl, ?_⟩) (by assumption) ?_
    rotate_left 1
    · (intro W hS; have hS0 := hS; have e0 := Ext.has hS0 e0; have e1 := Ext.has hS0 e1; have e2 := Ext.has hS0 e2; have e3 := Ext.has hS0 e3; have e4 := Ext.has hS0 e4; have e5 := Ext.has hS0 e5; have e6 := Ext.has hS0 e6; have e7 := Ext.has hS0 e7; have e8 := Ext.has hS0 e8; have e9 := Ext.has hS0 e9; have e10 := Ext.has hS0 e10; go_simp; try with_reducible rfl)
    (try simp only [Act.put, List.setIfInBounds_toArray, List.set_cons_zero, List.set_cons_succ])
    refine do_op 1 rfl (by kernel_rfl) (fun K hK => ?_)
    go_simp; (with_reducible refine (fnc_Can A f _ j0 HFB.out).mono ?_); rintro e w1 ⟨rfl, hz1⟩
    have hx_1 : Ext wr.drew w1 := hz1
    have hy_1 : Ext wr w1 := Ext.tr hy_0 hx_1
    replace j0 := q0.ext hy_1
    refine hK.out _ _ hy_1 (fun hS => ?_)
    clear hK K hS
    (try simp only [Act.put, List.setIfInBounds_toArray, List.set_cons_zero, List.set_cons_succ])
    have hS_1 : (fun W => Ext wr W) w1 := hy_1
    refine do_op 3 rfl (by kernel_rfl) (fun K hK => ?_)
    go_simp; (with_reducible refine (fncref_Can A f _ j0 HFB.out).mono ?_); rintro e w2 ⟨rfl, hz2⟩
    have hx_2 : Ext w1 w2 := hz2
    have hy_2 : Ext wr w2 := Ext.tr hy_1 hx_2
    replace j0 := q0.ext hy_2
    refine hK.out _ _ hy_2 (fun hS => ?_)
    clear hK K hS
    (try simp only [Act.put, List.setIfInBounds_toArray, List.set_cons_zero, List.set_cons_succ])
    have hS_2 : (fun W => Ext wr W) w2 := hy_2
    refine take_op 4 (v := ?_) rfl (by kernel_rfl) (by kernel_rfl) (by kernel_rfl) (Or.inl ⟨by rfl, ?_⟩) (by assumption) ?_
    rotate_left 1
    · (intro W hS; go_simp; try with_reducible rfl)
    (try simp only [Act.put, List.setIfInBounds_toArray, List.set_cons_zero, List.set_cons_succ])
    refine take_op 5 (v := ?_) rfl (by kernel_rfl) (by kernel_rfl) (by kernel_rfl) (Or.inl ⟨by rfl, ?_⟩) (by assumption) ?_
    rotate_left 1
    · (intro W hS; go_simp; try with_reducible rfl)
    (try simp only [Act.put, List.setIfInBounds_toArray, List.set_cons_zero, List.set_cons_succ])
    refine take_op 6 (v := ?_) rfl (by kernel_rfl) (by kernel_rfl) (by kernel_rfl) (Or.inl ⟨by rfl, ?_⟩) (by assumption) ?_
    rotate_left 1
    · (intro W hS; have hS0 := hS; have e0 := Ext.has hS0 e0; have e1 := Ext.has hS0 e1; have e2 := Ext.has hS0 e2; have e3 := Ext.has hS0 e3; have e4 := Ext.has hS0 e4; have e5 := Ext.has hS0 e5; have e6 := Ext.has hS0 e6; have e7 := Ext.has hS0 e7; have e8 := Ext.has hS0 e8; have e9 := Ext.has hS0 e9; have e10 := Ext.has hS0 e10; go_simp; try with_reducible rfl)
    (try simp only [Act.put, List.setIfInBounds_toArray, List.set_cons_zero, List.set_cons_succ])
    refine take_op 8 (v := ?_) rfl (by kernel_rfl) (by kernel_rfl) (by kernel_rfl) (Or.inl ⟨by rfl, ?_⟩) (by assumption) ?_
    rotate_left 1
    · (intro W hS; have hS0 := hS; have e0 := Ext.has hS0 e0; have e1 := Ext.has hS0 e1; have e2 := Ext.has hS0 e2; have e3 := Ext.has hS0 e3; have e4 := Ext.has hS0 e4; have e5 := Ext.has hS0 e5; have e6 := Ext.has hS0 e6; have e7 := Ext.has hS0 e7; have e8 := Ext.has hS0 e8; have e9 := Ext.has hS0 e9; have e10 := Ext.has hS0 e10; go_simp; try with_reducible rfl)
    (try simp only [Act.put, List.setIfInBounds_toArray, List.set_cons_zero, List.set_cons_succ])
    refine do_op 7 rfl (by kernel_rfl) (fun K hK => ?_)
    go_simp; (with_reducible refine (fnc_Bare A f _ HFB.out).mono ?_); rintro e w3 ⟨rfl, hz3⟩
    have hx_3 : Ext w2 w3 := hz3
    have hy_3 : Ext wr w3 := Ext.tr hy_2 hx_3
    replace j0 := q0.ext hy_3
    refine hK.out _ _ hy_3 (fun hS => ?_)
    clear hK K hS
    (try simp only [Act.put, List.setIfInBounds_toArray, List.set_cons_zero, List.set_cons_succ])
    have hS_3 : (fun W => Ext wr W) w3 := hy_3
    refine do_op 9 rfl (by kernel_rfl) (fun K hK => ?_)
    go_simp; (with_reducible refine (fncref_Bare A f _ HFB.out).mono ?_); rintro e w4 ⟨rfl, hz4⟩
    have hx_4 : Ext w3 w4 := hz4
    have hy_4 : Ext wr w4 := Ext.tr hy_3 hx_4
    replace j0 := q0.ext hy_4
    refine hK.out _ _ hy_4 (fun hS => ?_)
    clear hK K hS
    (try simp only [Act.put, List.setIfInBounds_toArray, List.set_cons_zero, List.set_cons_succ])
    have hS_4 : (fun W => Ext wr W) w4 := hy_4
    refine take_op 10 (v := ?_) rfl (by kernel_rfl) (by kernel_rfl) (by kernel_rfl) (Or.inl ⟨by rfl, ?_⟩) (by assumption) ?_
    rotate_left 1
    · (intro W hS; go_simp; try with_reducible rfl)
    (try simp only [Act.put, List.setIfInBounds_toArray, List.set_cons_zero, List.set_cons_succ])
    refine take_op 11 (v := ?_) rfl (by kernel_rfl) (by kernel_rfl) (by kernel_rfl) (Or.inl ⟨by rfl, ?_⟩) (by assumption) ?_
    rotate_left 1
    · (intro W hS; go_simp; try with_reducible rfl)
    (try simp only [Act.put, List.setIfInBounds_toArray, List.set_cons_zero, List.set_cons_succ])
    refine take_op 12 (v := ?_) rfl (by kernel_rfl) (by kernel_rfl) (by kernel_rfl) (Or.inl ⟨by rfl, ?_⟩) (by assumption) ?_
    rotate_left 1
    · (intro W hS; go_simp; try with_reducible rfl)
    (try simp only [Act.put, List.setIfInBounds_toArray, List.set_cons_zero, List.set_cons_succ])
    refine take_op 14 (v := ?_) rfl (by kernel_rfl) (by kernel_rfl) (by kernel_rfl) (Or.inl ⟨by rfl, ?_⟩) (by assumption) ?_
    rotate_left 1
    · (intro W hS; have hS0 := hS; have e0 := Ext.has hS0 e0; have e1 := Ext.has hS0 e1; have e2 := Ext.has hS0 e2; have e3 := Ext.has hS0 e3; have e4 := Ext.has hS0 e4; have e5 := Ext.has hS0 e5; have e6 := Ext.has hS0 e6; have e7 := Ext.has hS0 e7; have e8 := Ext.has hS0 e8; have e9 := Ext.has hS0 e9; have e10 := Ext.has hS0 e10; go_simp; try with_reducible rfl)
    (try simp only [Act.put, List.setIfInBounds_toArray, List.set_cons_zero, List.set_cons_succ])
    refine take_op 19 (v := ?_) rfl (by kernel_rfl) (by kernel_rfl) (by kernel_rfl) (Or.inl ⟨by rfl, ?_⟩) (by assumption) ?_
    rotate_left 1
    · (intro W hS; have hS0 := hS; have e0 := Ext.has hS0 e0; have e1 := Ext.has hS0 e1; have e2 := Ext.has hS0 e2; have e3 := Ext.has hS0 e3; have e4 := Ext.has hS0 e4; have e5 := Ext.has hS0 e5; have e6 := Ext.has hS0 e6; have e7 := Ext.has hS0 e7; have e8 := Ext.has hS0 e8; have e9 := Ext.has hS0 e9; have e10 := Ext.has hS0 e10; go_simp; try with_reducible rfl)
    (try simp only [Act.put, List.setIfInBounds_toArray, List.set_cons_zero, List.set_cons_succ])
    refine do_op2 13 17 rfl rfl (by kernel_rfl) (fun K hK => ?_) (fun K hK => ?_)
    · skip
      go_simp; obtain ⟨w5, hw5⟩ : ∃ x, x = w4.alloc (.cells #[.int .u8 1] 5) := ⟨_, rfl⟩; rw [← hw5]; have hz5 : Ext w4 w5 := (by rw [hw5]; exact (Ext.rf _).al _); have hs5 : (w4).heap.size < (w5).heap.size := (by rw [hw5]; simp); have hoA : (w5).ownsRow (w4).heap.size 5 1 (.slice (some ⟨(w4).heap.size, 0, none⟩) 1 1) 1 [.int .u8 1] := (by rw [hw5]; exact World.ownsRow_lit (base := (w4).heap.size) (e := 5) (size := 1) w4 #[.int .u8 1] 1 (Nat.le_refl _) (by decide) rfl); clear hw5
      have hx_5 : Ext w4 w5 := hz5
      have hy_5 : Ext wr w5 := Ext.tr hy_4 hx_5
      replace j0 := q0.ext hy_5
      refine hK.out _ _ hy_5 (fun hS => ?_)
      clear hK K hS
      (try simp only [Act.put, List.setIfInBounds_toArray, List.set_cons_zero, List.set_cons_succ])
      have hbA : (w4).heap.size ≤ (w5).heap.size := (by omega); have hbw : wr.heap.size ≤ (w4).heap.size := Ext.size hy_4; 
      have hS_5 : (fun W => Ext wr W) w5 := hy_5
      refine do_op2 15 17 rfl rfl (by kernel_rfl) (fun K hK => ?_) (fun K hK => ?_)
      · skip
        go_simp; (with_reducible refine (fnc_Put _ _ 1 _ A f wr _ hoA hbA (by omega) q0 hy_5 hbw HFB.out).mono ?_); rw [HPR.out]; rintro e w6 ⟨v6, rfl, ho6, hg6⟩; obtain ⟨a9, k9, rfl, hc9, -⟩ := own_cells ho6
        have hy_6 : Ext wr w6 := Ext.push hy_5 hoA hbw hg6
        replace j0 := q0.ext hy_6
        refine hK.out _ _ hy_6 (fun hS => ?_)
        clear hK K hS
        (try simp only [Act.put, List.setIfInBounds_toArray, List.set_cons_zero, List.set_cons_succ])
        have hcv9 : ∀ W, Cells W a9 (.int .u8 1 :: PR.map byteC) → (convert 38 9 (.slice a9 (1 + PR.length) k9)).run Try.prog W = .ok (.string ⟨(1 :: PR).toArray⟩) W := fun W h => run_bytes_string _ (by simp [Nat.add_comm]) Try.underlying38 Try.underlying5 Try.underlying9 h; replace hc9 : Cells w6 a9 (.int .u8 1 :: PR.map byteC) := hc9
        refine wpAnyH_weaken (S' := fun W => Ext w6 W) (fun W h => Ext.tr hy_6 h) _ _ _ _ ?_
        have hS_6 : Ext w6 w6 := Ext.rf _
        refine take_op 16 (v := ?_) rfl (by kernel_rfl) (by kernel_rfl) (by kernel_rfl) (Or.inl ⟨by rfl, ?_⟩) (by assumption) ?_
        rotate_left 1
        · (intro W hS; have hc9 := Cells.ext hc9 hS; have e0 := Ext.has (Ext.tr hy_6 hS) e0; have e1 := Ext.has (Ext.tr hy_6 hS) e1; have e2 := Ext.has (Ext.tr hy_6 hS) e2; have e3 := Ext.has (Ext.tr hy_6 hS) e3; have e4 := Ext.has (Ext.tr hy_6 hS) e4; have e5 := Ext.has (Ext.tr hy_6 hS) e5; have e6 := Ext.has (Ext.tr hy_6 hS) e6; have e7 := Ext.has (Ext.tr hy_6 hS) e7; have e8 := Ext.has (Ext.tr hy_6 hS) e8; have e9 := Ext.has (Ext.tr hy_6 hS) e9; have e10 := Ext.has (Ext.tr hy_6 hS) e10; go_simp; try with_reducible rfl)
        (try simp only [Act.put, List.setIfInBounds_toArray, List.set_cons_zero, List.set_cons_succ])
        refine do_op2 17 20 rfl rfl (by kernel_rfl) (fun K hK => ?_) (fun K hK => ?_)
        · skip
          go_simp; obtain ⟨w7, hw7⟩ : ∃ x, x = w6.alloc (.cells #[.int .u8 1] 5) := ⟨_, rfl⟩; rw [← hw7]; have hz7 : Ext w6 w7 := (by rw [hw7]; exact (Ext.rf _).al _); have hs7 : (w6).heap.size < (w7).heap.size := (by rw [hw7]; simp); have hcB : Cells w7 (some ⟨(w6).heap.size, 0, none⟩) [.int .u8 1] := (by rw [hw7]; exact cells_new w6 [.int .u8 1] 5 _ rfl); clear hw7
          have hx_7 : Ext w6 w7 := hz7
          have hy_7 : Ext wr w7 := Ext.tr hy_6 hx_7
          replace j0 := q0.ext hy_7
          have hc9' := Cells.ext hc9 hx_7
          replace hc9 := hc9'
          refine hK.out _ _ hx_7 (fun hS => ?_)
          clear hK K hS
          (try simp only [Act.put, List.setIfInBounds_toArray, List.set_cons_zero, List.set_cons_succ])
          have hcvB : ∀ W, Cells W (some ⟨(w6).heap.size, 0, none⟩) [.int .u8 1] → (convert 38 9 (.slice (some ⟨(w6).heap.size, 0, none⟩) 1 1)).run Try.prog W = .ok (.string ⟨[1].toArray⟩) W := fun W h => run_bytes_string 1 rfl Try.underlying38 Try.underlying5 Try.underlying9 h
          refine wpAnyH_weaken (S' := fun W => Ext w7 W) (fun W h => Ext.tr hx_7 h) _ _ _ _ ?_
          have hS_7 : Ext w7 w7 := Ext.rf _
          refine take_op 18 (v := ?_) rfl (by kernel_rfl) (by kernel_rfl) (by kernel_rfl) (Or.inl ⟨by rfl, ?_⟩) (by assumption) ?_
          rotate_left 1
          · (intro W hS; have hc9 := Cells.ext hc9 hS; have hcB := Cells.ext hcB hS; have e0 := Ext.has (Ext.tr hy_7 hS) e0; have e1 := Ext.has (Ext.tr hy_7 hS) e1; have e2 := Ext.has (Ext.tr hy_7 hS) e2; have e3 := Ext.has (Ext.tr hy_7 hS) e3; have e4 := Ext.has (Ext.tr hy_7 hS) e4; have e5 := Ext.has (Ext.tr hy_7 hS) e5; have e6 := Ext.has (Ext.tr hy_7 hS) e6; have e7 := Ext.has (Ext.tr hy_7 hS) e7; have e8 := Ext.has (Ext.tr hy_7 hS) e8; have e9 := Ext.has (Ext.tr hy_7 hS) e9; have e10 := Ext.has (Ext.tr hy_7 hS) e10; go_simp; try with_reducible rfl)
          (try simp only [Act.put, List.setIfInBounds_toArray, List.set_cons_zero, List.set_cons_succ])
          refine do_op 20 rfl (by kernel_rfl) (fun K hK => ?_)
          go_simp; (with_reducible refine (fncref_Put A f _ j0 HFB.out).mono ?_); rw [HPR.out]; rintro e w8 ⟨a10, k10, rfl, hc10, hz8, -⟩
          have hx_8 : Ext w7 w8 := hz8
          have hy_8 : Ext wr w8 := Ext.tr hy_7 hx_8
          replace j0 := q0.ext hy_8
          have hc9' := Cells.ext hc9 hx_8
          replace hc9 := hc9'
          have hcB' := Cells.ext hcB hx_8
          replace hcB := hcB'
          refine hK.out _ _ hx_8 (fun hS => ?_)
          clear hK K hS
          (try simp only [Act.put, List.setIfInBounds_toArray, List.set_cons_zero, List.set_cons_succ])
          have hcv10 : ∀ W, Cells W a10 (PR.map byteC) → (convert 38 9 (.slice a10 PR.length k10)).run Try.prog W = .ok (.string ⟨PR.toArray⟩) W := fun W h => run_bytes_string _ rfl Try.underlying38 Try.underlying5 Try.underlying9 h
          refine wpAnyH_weaken (S' := fun W => Ext w8 W) (fun W h => Ext.tr hx_8 h) _ _ _ _ ?_
          have hS_8 : Ext w8 w8 := Ext.rf _
          refine take_op 21 (v := ?_) rfl (by kernel_rfl) (by kernel_rfl) (by kernel_rfl) (Or.inl ⟨by rfl, ?_⟩) (by assumption) ?_
          rotate_left 1
          · (intro W hS; have hc9 := Cells.ext hc9 hS; have hcB := Cells.ext hcB hS; have hc10 := Cells.ext hc10 hS; have e0 := Ext.has (Ext.tr hy_8 hS) e0; have e1 := Ext.has (Ext.tr hy_8 hS) e1; have e2 := Ext.has (Ext.tr hy_8 hS) e2; have e3 := Ext.has (Ext.tr hy_8 hS) e3; have e4 := Ext.has (Ext.tr hy_8 hS) e4; have e5 := Ext.has (Ext.tr hy_8 hS) e5; have e6 := Ext.has (Ext.tr hy_8 hS) e6; have e7 := Ext.has (Ext.tr hy_8 hS) e7; have e8 := Ext.has (Ext.tr hy_8 hS) e8; have e9 := Ext.has (Ext.tr hy_8 hS) e9; have e10 := Ext.has (Ext.tr hy_8 hS) e10; go_simp; try with_reducible rfl)
          (try simp only [Act.put, List.setIfInBounds_toArray, List.set_cons_zero, List.set_cons_succ])
          refine take_op 22 (v := ?_) rfl (by kernel_rfl) (by kernel_rfl) (by kernel_rfl) (Or.inl ⟨by rfl, ?_⟩) (by assumption) ?_
          rotate_left 1
          · (intro W hS; go_simp; try with_reducible rfl)
          (try simp only [Act.put, List.setIfInBounds_toArray, List.set_cons_zero, List.set_cons_succ])
          refine take_op 23 (v := ?_) rfl (by kernel_rfl) (by kernel_rfl) (by kernel_rfl) (Or.inl ⟨by rfl, ?_⟩) (by assumption) ?_
          rotate_left 1
          · (intro W hS; go_simp; try with_reducible rfl)
          (try simp only [Act.put, List.setIfInBounds_toArray, List.set_cons_zero, List.set_cons_succ])
          refine take_op 24 (v := ?_) rfl (by kernel_rfl) (by kernel_rfl) (by kernel_rfl) (Or.inl ⟨by rfl, ?_⟩) (by assumption) ?_
          rotate_left 1
          · (intro W hS; go_simp; try with_reducible rfl)
          (try simp only [Act.put, List.setIfInBounds_toArray, List.set_cons_zero, List.set_cons_succ])
          refine take_op 25 (v := ?_) rfl (by kernel_rfl) (by kernel_rfl) (by kernel_rfl) (Or.inl ⟨by rfl, ?_⟩) (by assumption) ?_
          rotate_left 1
          · (intro W hS; go_simp; try with_reducible rfl)
          (try simp only [Act.put, List.setIfInBounds_toArray, List.set_cons_zero, List.set_cons_succ])
          refine do_op 26 rfl (by kernel_rfl) (fun K hK => ?_)
          go_simp; (with_reducible refine (fnc_lives _).mono ?_); rintro e w9 ⟨rfl, hz9⟩
          have hx_9 : Ext w8 w9 := hz9
          have hy_9 : Ext wr w9 := Ext.tr hy_8 hx_9
          replace j0 := q0.ext hy_9
          have hc9' := Cells.ext hc9 hx_9
          replace hc9 := hc9'
          have hcB' := Cells.ext hcB hx_9
          replace hcB := hcB'
          have hc10' := Cells.ext hc10 hx_9
          replace hc10 := hc10'
          refine hK.out _ _ hx_9 (fun hS => ?_)
          clear hK K hS
          (try simp only [Act.put, List.setIfInBounds_toArray, List.set_cons_zero, List.set_cons_succ])
          refine wpAnyH_weaken (S' := fun W => Ext w9 W) (fun W h => Ext.tr hx_9 h) _ _ _ _ ?_
          have hS_9 : Ext w9 w9 := Ext.rf _
          refine take_op 27 (v := ?_) rfl (by kernel_rfl) (by kernel_rfl) (by kernel_rfl) (Or.inl ⟨by rfl, ?_⟩) (by assumption) ?_
          rotate_left 1
          · (intro W hS; go_simp; try with_reducible rfl)
          (try simp only [Act.put, List.setIfInBounds_toArray, List.set_cons_zero, List.set_cons_succ])
          refine take_op 28 (v := ?_) rfl (by kernel_rfl) (by kernel_rfl) (by kernel_rfl) (Or.inl ⟨by rfl, ?_⟩) (by assumption) ?_
          rotate_left 1
          · (intro W hS; go_simp; try with_reducible rfl)
          (try simp only [Act.put, List.setIfInBounds_toArray, List.set_cons_zero, List.set_cons_succ])
          refine wpAnyH_done (by kernel_rfl) ?_ _
          refine NoPanic.normal ?_
          go_wp2_with fail
          go_ret
          exact ⟨rfl, HX2.out.tr hy_9⟩
        · skip
          go_simp; (with_reducible refine (fncref_Put A f _ j0 HFB.out).mono ?_); rw [HPR.out]; rintro e w10 ⟨a10, k10, rfl, hc10, hz10, -⟩
          have hx_10 : Ext w6 w10 := hz10
          have hy_10 : Ext wr w10 := Ext.tr hy_6 hx_10
          replace j0 := q0.ext hy_10
          have hc9' := Cells.ext hc9 hx_10
          replace hc9 := hc9'
          refine hK.out _ _ hx_10 (fun hS => ?_)
          clear hK K hS
          (try simp only [Act.put, List.setIfInBounds_toArray, List.set_cons_zero, List.set_cons_succ])
          have hcv10 : ∀ W, Cells W a10 (PR.map byteC) → (convert 38 9 (.slice a10 PR.length k10)).run Try.prog W = .ok (.string ⟨PR.toArray⟩) W := fun W h => run_bytes_string _ rfl Try.underlying38 Try.underlying5 Try.underlying9 h
          refine wpAnyH_weaken (S' := fun W => Ext w10 W) (fun W h => Ext.tr hx_10 h) _ _ _ _ ?_
          have hS_10 : Ext w10 w10 := Ext.rf _
          refine take_op 21 (v := ?_) rfl (by kernel_rfl) (by kernel_rfl) (by kernel_rfl) (Or.inl ⟨by rfl, ?_⟩) (by assumption) ?_
          rotate_left 1
          · (intro W hS; have hc9 := Cells.ext hc9 hS; have hc10 := Cells.ext hc10 hS; have e0 := Ext.has (Ext.tr hy_10 hS) e0; have e1 := Ext.has (Ext.tr hy_10 hS) e1; have e2 := Ext.has (Ext.tr hy_10 hS) e2; have e3 := Ext.has (Ext.tr hy_10 hS) e3; have e4 := Ext.has (Ext.tr hy_10 hS) e4; have e5 := Ext.has (Ext.tr hy_10 hS) e5; have e6 := Ext.has (Ext.tr hy_10 hS) e6; have e7 := Ext.has (Ext.tr hy_10 hS) e7; have e8 := Ext.has (Ext.tr hy_10 hS) e8; have e9 := Ext.has (Ext.tr hy_10 hS) e9; have e10 := Ext.has (Ext.tr hy_10 hS) e10; go_simp; try with_reducible rfl)
          (try simp only [Act.put, List.setIfInBounds_toArray, List.set_cons_zero, List.set_cons_succ])
          refine do_op 17 rfl (by kernel_rfl) (fun K hK => ?_)
          go_simp; obtain ⟨w11, hw11⟩ : ∃ x, x = w10.alloc (.cells #[.int .u8 1] 5) := ⟨_, rfl⟩; rw [← hw11]; have hz11 : Ext w10 w11 := (by rw [hw11]; exact (Ext.rf _).al _); have hs11 : (w10).heap.size < (w11).heap.size := (by rw [hw11]; simp); have hcB : Cells w11 (some ⟨(w10).heap.size, 0, none⟩) [.int .u8 1] := (by rw [hw11]; exact cells_new w10 [.int .u8 1] 5 _ rfl); clear hw11
          have hx_11 : Ext w10 w11 := hz11
          have hy_11 : Ext wr w11 := Ext.tr hy_10 hx_11
          replace j0 := q0.ext hy_11
          have hc9' := Cells.ext hc9 hx_11
          replace hc9 := hc9'
          have hc10' := Cells.ext hc10 hx_11
          replace hc10 := hc10'
          refine hK.out _ _ hx_11 (fun hS => ?_)
          clear hK K hS
          (try simp only [Act.put, List.setIfInBounds_toArray, List.set_cons_zero, List.set_cons_succ])
          have hcvB : ∀ W, Cells W (some ⟨(w10).heap.size, 0, none⟩) [.int .u8 1] → (convert 38 9 (.slice (some ⟨(w10).heap.size, 0, none⟩) 1 1)).run Try.prog W = .ok (.string ⟨[1].toArray⟩) W := fun W h => run_bytes_string 1 rfl Try.underlying38 Try.underlying5 Try.underlying9 h
          refine wpAnyH_weaken (S' := fun W => Ext w11 W) (fun W h => Ext.tr hx_11 h) _ _ _ _ ?_
          have hS_11 : Ext w11 w11 := Ext.rf _
          refine take_op 18 (v := ?_) rfl (by kernel_rfl) (by kernel_rfl) (by kernel_rfl) (Or.inl ⟨by rfl, ?_⟩) (by assumption) ?_
          rotate_left 1
          · (intro W hS; have hc9 := Cells.ext hc9 hS; have hc10 := Cells.ext hc10 hS; have hcB := Cells.ext hcB hS; have e0 := Ext.has (Ext.tr hy_11 hS) e0; have e1 := Ext.has (Ext.tr hy_11 hS) e1; have e2 := Ext.has (Ext.tr hy_11 hS) e2; have e3 := Ext.has (Ext.tr hy_11 hS) e3; have e4 := Ext.has (Ext.tr hy_11 hS) e4; have e5 := Ext.has (Ext.tr hy_11 hS) e5; have e6 := Ext.has (Ext.tr hy_11 hS) e6; have e7 := Ext.has (Ext.tr hy_11 hS) e7; have e8 := Ext.has (Ext.tr hy_11 hS) e8; have e9 := Ext.has (Ext.tr hy_11 hS) e9; have e10 := Ext.has (Ext.tr hy_11 hS) e10; go_simp; try with_reducible rfl)
          (try simp only [Act.put, List.setIfInBounds_toArray, List.set_cons_zero, List.set_cons_succ])
          refine take_op 22 (v := ?_) rfl (by kernel_rfl) (by kernel_rfl) (by kernel_rfl) (Or.inl ⟨by rfl, ?_⟩) (by assumption) ?_
          rotate_left 1
          · (intro W hS; go_simp; try with_reducible rfl)
          (try simp only [Act.put, List.setIfInBounds_toArray, List.set_cons_zero, List.set_cons_succ])
          refine take_op 23 (v := ?_) rfl (by kernel_rfl) (by kernel_rfl) (by kernel_rfl) (Or.inl ⟨by rfl, ?_⟩) (by assumption) ?_
          rotate_left 1
          · (intro W hS; go_simp; try with_reducible rfl)
          (try simp only [Act.put, List.setIfInBounds_toArray, List.set_cons_zero, List.set_cons_succ])
          refine take_op 24 (v := ?_) rfl (by kernel_rfl) (by kernel_rfl) (by kernel_rfl) (Or.inl ⟨by rfl, ?_⟩) (by assumption) ?_
          rotate_left 1
          · (intro W hS; go_simp; try with_reducible rfl)
          (try simp only [Act.put, List.setIfInBounds_toArray, List.set_cons_zero, List.set_cons_succ])
          refine take_op 25 (v := ?_) rfl (by kernel_rfl) (by kernel_rfl) (by kernel_rfl) (Or.inl ⟨by rfl, ?_⟩) (by assumption) ?_
          rotate_left 1
          · (intro W hS; go_simp; try with_reducible rfl)
          (try simp only [Act.put, List.setIfInBounds_toArray, List.set_cons_zero, List.set_cons_succ])
          refine do_op 26 rfl (by kernel_rfl) (fun K hK => ?_)
          go_simp; (with_reducible refine (fnc_lives _).mono ?_); rintro e w12 ⟨rfl, hz12⟩
          have hx_12 : Ext w11 w12 := hz12
          have hy_12 : Ext wr w12 := Ext.tr hy_11 hx_12
          replace j0 := q0.ext hy_12
          have hc9' := Cells.ext hc9 hx_12
          replace hc9 := hc9'
          have hc10' := Cells.ext hc10 hx_12
          replace hc10 := hc10'
          have hcB' := Cells.ext hcB hx_12
          replace hcB := hcB'
          refine hK.out _ _ hx_12 (fun hS => ?_)
          clear hK K hS
          (try simp only [Act.put, List.setIfInBounds_toArray, List.set_cons_zero, List.set_cons_succ])
          refine wpAnyH_weaken (S' := fun W => Ext w12 W) (fun W h => Ext.tr hx_12 h) _ _ _ _ ?_
          have hS_12 : Ext w12 w12 := Ext.rf _
          refine take_op 27 (v := ?_) rfl (by kernel_rfl) (by kernel_rfl) (by kernel_rfl) (Or.inl ⟨by rfl, ?_⟩) (by assumption) ?_
          rotate_left 1
          · (intro W hS; go_simp; try with_reducible rfl)
          (try simp only [Act.put, List.setIfInBounds_toArray, List.set_cons_zero, List.set_cons_succ])
          refine take_op 28 (v := ?_) rfl (by kernel_rfl) (by kernel_rfl) (by kernel_rfl) (Or.inl ⟨by rfl, ?_⟩) (by assumption) ?_
          rotate_left 1
          · (intro W hS; go_simp; try with_reducible rfl)
          (try simp only [Act.put, List.setIfInBounds_toArray, List.set_cons_zero, List.set_cons_succ])
          refine wpAnyH_done (by kernel_rfl) ?_ _
          refine NoPanic.normal ?_
          go_wp2_with fail
          go_ret
          exact ⟨rfl, HX2.out.tr hy_12⟩
      · skip
        go_simp; obtain ⟨w13, hw13⟩ : ∃ x, x = w5.alloc (.cells #[.int .u8 1] 5) := ⟨_, rfl⟩; rw [← hw13]; have hz13 : Ext w5 w13 := (by rw [hw13]; exact (Ext.rf _).al _); have hs13 : (w5).heap.size < (w13).heap.size := (by rw [hw13]; simp); have hcB : Cells w13 (some ⟨(w5).heap.size, 0, none⟩) [.int .u8 1] := (by rw [hw13]; exact cells_new w5 [.int .u8 1] 5 _ rfl); clear hw13
        have hx_13 : Ext w5 w13 := hz13
        have hy_13 : Ext wr w13 := Ext.tr hy_5 hx_13
        replace j0 := q0.ext hy_13
        replace hoA := own_ext hoA hx_13
        replace hbA := Nat.le_trans hbA (Ext.size hx_13)
        refine hK.out _ _ hy_13 (fun hS => ?_)
        clear hK K hS
        (try simp only [Act.put, List.setIfInBounds_toArray, List.set_cons_zero, List.set_cons_succ])
        have hcvB : ∀ W, Cells W (some ⟨(w5).heap.size, 0, none⟩) [.int .u8 1] → (convert 38 9 (.slice (some ⟨(w5).heap.size, 0, none⟩) 1 1)).run Try.prog W = .ok (.string ⟨[1].toArray⟩) W := fun W h => run_bytes_string 1 rfl Try.underlying38 Try.underlying5 Try.underlying9 h
        refine wpAnyH_weaken (S' := fun W => Ext wr W ∧ Cells W (some ⟨(w5).heap.size, 0, none⟩) [.int .u8 1]) (fun W h => h.1) _ _ _ _ ?_
        have hS_13 : (fun W => Ext wr W ∧ Cells W (some ⟨(w5).heap.size, 0, none⟩) [.int .u8 1]) w13 := ⟨hy_13, hcB⟩
        refine take_op 18 (v := ?_) rfl (by kernel_rfl) (by kernel_rfl) (by kernel_rfl) (Or.inl ⟨by rfl, ?_⟩) (by assumption) ?_
        rotate_left 1
        · (intro W hS; obtain ⟨hS0, hcB⟩ := hS; have e0 := Ext.has hS0 e0; have e1 := Ext.has hS0 e1; have e2 := Ext.has hS0 e2; have e3 := Ext.has hS0 e3; have e4 := Ext.has hS0 e4; have e5 := Ext.has hS0 e5; have e6 := Ext.has hS0 e6; have e7 := Ext.has hS0 e7; have e8 := Ext.has hS0 e8; have e9 := Ext.has hS0 e9; have e10 := Ext.has hS0 e10; go_simp; try with_reducible rfl)
        (try simp only [Act.put, List.setIfInBounds_toArray, List.set_cons_zero, List.set_cons_succ])
        refine do_op 15 rfl (by kernel_rfl) (fun K hK => ?_)
        go_simp; (with_reducible refine (fnc_Put _ _ 1 _ A f wr _ hoA hbA (by omega) q0 hy_13 hbw HFB.out).mono ?_); rw [HPR.out]; rintro e w14 ⟨v14, rfl, ho14, hg14⟩; obtain ⟨a9, k9, rfl, hc9, -⟩ := own_cells ho14
        have hy_14 : Ext wr w14 := Ext.push hy_13 hoA hbw hg14
        replace j0 := q0.ext hy_14
        have hcB' := hcB.grow hg14 (fun ad e => by cases e; simp [Value.ownBlock]; omega)
        replace hcB := hcB'
        refine hK.out _ _ ⟨hy_14, hcB⟩ (fun hS => ?_)
        clear hK K hS
        (try simp only [Act.put, List.setIfInBounds_toArray, List.set_cons_zero, List.set_cons_succ])
        have hcv9 : ∀ W, Cells W a9 (.int .u8 1 :: PR.map byteC) → (convert 38 9 (.slice a9 (1 + PR.length) k9)).run Try.prog W = .ok (.string ⟨(1 :: PR).toArray⟩) W := fun W h => run_bytes_string _ (by simp [Nat.add_comm]) Try.underlying38 Try.underlying5 Try.underlying9 h; replace hc9 : Cells w14 a9 (.int .u8 1 :: PR.map byteC) := hc9
        refine wpAnyH_weaken (S' := fun W => Ext w14 W) (fun W h => ⟨Ext.tr hy_14 h, Cells.ext hcB h⟩) _ _ _ _ ?_
        have hS_14 : Ext w14 w14 := Ext.rf _
        refine take_op 16 (v := ?_) rfl (by kernel_rfl) (by kernel_rfl) (by kernel_rfl) (Or.inl ⟨by rfl, ?_⟩) (by assumption) ?_
        rotate_left 1
        · (intro W hS; have hcB := Cells.ext hcB hS; have hc9 := Cells.ext hc9 hS; have e0 := Ext.has (Ext.tr hy_14 hS) e0; have e1 := Ext.has (Ext.tr hy_14 hS) e1; have e2 := Ext.has (Ext.tr hy_14 hS) e2; have e3 := Ext.has (Ext.tr hy_14 hS) e3; have e4 := Ext.has (Ext.tr hy_14 hS) e4; have e5 := Ext.has (Ext.tr hy_14 hS) e5; have e6 := Ext.has (Ext.tr hy_14 hS) e6; have e7 := Ext.has (Ext.tr hy_14 hS) e7; have e8 := Ext.has (Ext.tr hy_14 hS) e8; have e9 := Ext.has (Ext.tr hy_14 hS) e9; have e10 := Ext.has (Ext.tr hy_14 hS) e10; go_simp; try with_reducible rfl)
        (try simp only [Act.put, List.setIfInBounds_toArray, List.set_cons_zero, List.set_cons_succ])
        refine do_op 20 rfl (by kernel_rfl) (fun K hK => ?_)
        go_simp; (with_reducible refine (fncref_Put A f _ j0 HFB.out).mono ?_); rw [HPR.out]; rintro e w15 ⟨a10, k10, rfl, hc10, hz15, -⟩
        have hx_15 : Ext w14 w15 := hz15
        have hy_15 : Ext wr w15 := Ext.tr hy_14 hx_15
        replace j0 := q0.ext hy_15
        have hcB' := Cells.ext hcB hx_15
        replace hcB := hcB'
        have hc9' := Cells.ext hc9 hx_15
        replace hc9 := hc9'
        refine hK.out _ _ hx_15 (fun hS => ?_)
        clear hK K hS
        (try simp only [Act.put, List.setIfInBounds_toArray, List.set_cons_zero, List.set_cons_succ])
        have hcv10 : ∀ W, Cells W a10 (PR.map byteC) → (convert 38 9 (.slice a10 PR.length k10)).run Try.prog W = .ok (.string ⟨PR.toArray⟩) W := fun W h => run_bytes_string _ rfl Try.underlying38 Try.underlying5 Try.underlying9 h
        refine wpAnyH_weaken (S' := fun W => Ext w15 W) (fun W h => Ext.tr hx_15 h) _ _ _ _ ?_
        have hS_15 : Ext w15 w15 := Ext.rf _
        refine take_op 21 (v := ?_) rfl (by kernel_rfl) (by kernel_rfl) (by kernel_rfl) (Or.inl ⟨by rfl, ?_⟩) (by assumption) ?_
        rotate_left 1
        · (intro W hS; have hcB := Cells.ext hcB hS; have hc9 := Cells.ext hc9 hS; have hc10 := Cells.ext hc10 hS; have e0 := Ext.has (Ext.tr hy_15 hS) e0; have e1 := Ext.has (Ext.tr hy_15 hS) e1; have e2 := Ext.has (Ext.tr hy_15 hS) e2; have e3 := Ext.has (Ext.tr hy_15 hS) e3; have e4 := Ext.has (Ext.tr hy_15 hS) e4; have e5 := Ext.has (Ext.tr hy_15 hS) e5; have e6 := Ext.has (Ext.tr hy_15 hS) e6; have e7 := Ext.has (Ext.tr hy_15 hS) e7; have e8 := Ext.has (Ext.tr hy_15 hS) e8; have e9 := Ext.has (Ext.tr hy_15 hS) e9; have e10 := Ext.has (Ext.tr hy_15 hS) e10; go_simp; try with_reducible rfl)
        (try simp only [Act.put, List.setIfInBounds_toArray, List.set_cons_zero, List.set_cons_succ])
        refine take_op 22 (v := ?_) rfl (by kernel_rfl) (by kernel_rfl) (by kernel_rfl) (Or.inl ⟨by rfl, ?_⟩) (by assumption) ?_
        rotate_left 1
        · (intro W hS; go_simp; try with_reducible rfl)
        (try simp only [Act.put, List.setIfInBounds_toArray, List.set_cons_zero, List.set_cons_succ])
        refine take_op 23 (v := ?_) rfl (by kernel_rfl) (by kernel_rfl) (by kernel_rfl) (Or.inl ⟨by rfl, ?_⟩) (by assumption) ?_
        rotate_left 1
        · (intro W hS; go_simp; try with_reducible rfl)
        (try simp only [Act.put, List.setIfInBounds_toArray, List.set_cons_zero, List.set_cons_succ])
        refine take_op 24 (v := ?_) rfl (by kernel_rfl) (by kernel_rfl) (by kernel_rfl) (Or.inl ⟨by rfl, ?_⟩) (by assumption) ?_
        rotate_left 1
        · (intro W hS; go_simp; try with_reducible rfl)
        (try simp only [Act.put, List.setIfInBounds_toArray, List.set_cons_zero, List.set_cons_succ])
        refine take_op 25 (v := ?_) rfl (by kernel_rfl) (by kernel_rfl) (by kernel_rfl) (Or.inl ⟨by rfl, ?_⟩) (by assumption) ?_
        rotate_left 1
        · (intro W hS; go_simp; try with_reducible rfl)
        (try simp only [Act.put, List.setIfInBounds_toArray, List.set_cons_zero, List.set_cons_succ])
        refine do_op 26 rfl (by kernel_rfl) (fun K hK => ?_)
        go_simp; (with_reducible refine (fnc_lives _).mono ?_); rintro e w16 ⟨rfl, hz16⟩
        have hx_16 : Ext w15 w16 := hz16
        have hy_16 : Ext wr w16 := Ext.tr hy_15 hx_16
        replace j0 := q0.ext hy_16
        have hcB' := Cells.ext hcB hx_16
        replace hcB := hcB'
        have hc9' := Cells.ext hc9 hx_16
        replace hc9 := hc9'
        have hc10' := Cells.ext hc10 hx_16
        replace hc10 := hc10'
        refine hK.out _ _ hx_16 (fun hS => ?_)
        clear hK K hS
        (try simp only [Act.put, List.setIfInBounds_toArray, List.set_cons_zero, List.set_cons_succ])
        refine wpAnyH_weaken (S' := fun W => Ext w16 W) (fun W h => Ext.tr hx_16 h) _ _ _ _ ?_
        have hS_16 : Ext w16 w16 := Ext.rf _
        refine take_op 27 (v := ?_) rfl (by kernel_rfl) (by kernel_rfl) (by kernel_rfl) (Or.inl ⟨by rfl, ?_⟩) (by assumption) ?_
        rotate_left 1
        · (intro W hS; go_simp; try with_reducible rfl)
        (try simp only [Act.put, List.setIfInBounds_toArray, List.set_cons_zero, List.set_cons_succ])
        refine take_op 28 (v := ?_) rfl (by kernel_rfl) (by kernel_rfl) (by kernel_rfl) (Or.inl ⟨by rfl, ?_⟩) (by assumption) ?_
        rotate_left 1
        · (intro W hS; go_simp; try with_reducible rfl)
        (try simp only [Act.put, List.setIfInBounds_toArray, List.set_cons_zero, List.set_cons_succ])
        refine wpAnyH_done (by kernel_rfl) ?_ _
        refine NoPanic.normal ?_
        go_wp2_with fail
        go_ret
        exact ⟨rfl, HX2.out.tr hy_16⟩
    · skip
      go_simp; obtain ⟨w17, hw17⟩ : ∃ x, x = w4.alloc (.cells #[.int .u8 1] 5) := ⟨_, rfl⟩; rw [← hw17]; have hz17 : Ext w4 w17 := (by rw [hw17]; exact (Ext.rf _).al _); have hs17 : (w4).heap.size < (w17).heap.size := (by rw [hw17]; simp); have hcB : Cells w17 (some ⟨(w4).heap.size, 0, none⟩) [.int .u8 1] := (by rw [hw17]; exact cells_new w4 [.int .u8 1] 5 _ rfl); clear hw17
      have hx_17 : Ext w4 w17 := hz17
      have hy_17 : Ext wr w17 := Ext.tr hy_4 hx_17
      replace j0 := q0.ext hy_17
      refine hK.out _ _ hy_17 (fun hS => ?_)
      clear hK K hS
      (try simp only [Act.put, List.setIfInBounds_toArray, List.set_cons_zero, List.set_cons_succ])
      have hcvB : ∀ W, Cells W (some ⟨(w4).heap.size, 0, none⟩) [.int .u8 1] → (convert 38 9 (.slice (some ⟨(w4).heap.size, 0, none⟩) 1 1)).run Try.prog W = .ok (.string ⟨[1].toArray⟩) W := fun W h => run_bytes_string 1 rfl Try.underlying38 Try.underlying5 Try.underlying9 h
      refine wpAnyH_weaken (S' := fun W => Ext wr W ∧ Cells W (some ⟨(w4).heap.size, 0, none⟩) [.int .u8 1]) (fun W h => h.1) _ _ _ _ ?_
      have hS_17 : (fun W => Ext wr W ∧ Cells W (some ⟨(w4).heap.size, 0, none⟩) [.int .u8 1]) w17 := ⟨hy_17, hcB⟩
      refine take_op 18 (v := ?_) rfl (by kernel_rfl) (by kernel_rfl) (by kernel_rfl) (Or.inl ⟨by rfl, ?_⟩) (by assumption) ?_
      rotate_left 1
      · (intro W hS; obtain ⟨hS0, hcB⟩ := hS; have e0 := Ext.has hS0 e0; have e1 := Ext.has hS0 e1; have e2 := Ext.has hS0 e2; have e3 := Ext.has hS0 e3; have e4 := Ext.has hS0 e4; have e5 := Ext.has hS0 e5; have e6 := Ext.has hS0 e6; have e7 := Ext.has hS0 e7; have e8 := Ext.has hS0 e8; have e9 := Ext.has hS0 e9; have e10 := Ext.has hS0 e10; go_simp; try with_reducible rfl)
      (try simp only [Act.put, List.setIfInBounds_toArray, List.set_cons_zero, List.set_cons_succ])
      refine do_op 13 rfl (by kernel_rfl) (fun K hK => ?_)
      go_simp; obtain ⟨w18, hw18⟩ : ∃ x, x = w17.alloc (.cells #[.int .u8 1] 5) := ⟨_, rfl⟩; rw [← hw18]; have hz18 : Ext w17 w18 := (by rw [hw18]; exact (Ext.rf _).al _); have hs18 : (w17).heap.size < (w18).heap.size := (by rw [hw18]; simp); have hoA : (w18).ownsRow (w17).heap.size 5 1 (.slice (some ⟨(w17).heap.size, 0, none⟩) 1 1) 1 [.int .u8 1] := (by rw [hw18]; exact World.ownsRow_lit (base := (w17).heap.size) (e := 5) (size := 1) w17 #[.int .u8 1] 1 (Nat.le_refl _) (by decide) rfl); clear hw18
      have hx_18 : Ext w17 w18 := hz18
      have hy_18 : Ext wr w18 := Ext.tr hy_17 hx_18
      replace j0 := q0.ext hy_18
      have hcB' := Cells.ext hcB hx_18
      replace hcB := hcB'
      refine hK.out _ _ ⟨hy_18, hcB⟩ (fun hS => ?_)
      clear hK K hS
      (try simp only [Act.put, List.setIfInBounds_toArray, List.set_cons_zero, List.set_cons_succ])
      have hbA : (w17).heap.size ≤ (w18).heap.size := (by omega); have hbw : wr.heap.size ≤ (w17).heap.size := Ext.size hy_17; 
      have hS_18 : (fun W => Ext wr W ∧ Cells W (some ⟨(w4).heap.size, 0, none⟩) [.int .u8 1]) w18 := ⟨hy_18, hcB⟩
      refine do_op 15 rfl (by kernel_rfl) (fun K hK => ?_)
      go_simp; (with_reducible refine (fnc_Put _ _ 1 _ A f wr _ hoA hbA (by omega) q0 hy_18 hbw HFB.out).mono ?_); rw [HPR.out]; rintro e w19 ⟨v19, rfl, ho19, hg19⟩; obtain ⟨a9, k9, rfl, hc9, -⟩ := own_cells ho19
      have hy_19 : Ext wr w19 := Ext.push hy_18 hoA hbw hg19
      replace j0 := q0.ext hy_19
      have hcB' := hcB.grow hg19 (fun ad e => by cases e; simp [Value.ownBlock]; omega)
      replace hcB := hcB'
      refine hK.out _ _ ⟨hy_19, hcB⟩ (fun hS => ?_)
      clear hK K hS
      (try simp only [Act.put, List.setIfInBounds_toArray, List.set_cons_zero, List.set_cons_succ])
      have hcv9 : ∀ W, Cells W a9 (.int .u8 1 :: PR.map byteC) → (convert 38 9 (.slice a9 (1 + PR.length) k9)).run Try.prog W = .ok (.string ⟨(1 :: PR).toArray⟩) W := fun W h => run_bytes_string _ (by simp [Nat.add_comm]) Try.underlying38 Try.underlying5 Try.underlying9 h; replace hc9 : Cells w19 a9 (.int .u8 1 :: PR.map byteC) := hc9
      refine wpAnyH_weaken (S' := fun W => Ext w19 W) (fun W h => ⟨Ext.tr hy_19 h, Cells.ext hcB h⟩) _ _ _ _ ?_
      have hS_19 : Ext w19 w19 := Ext.rf _
      refine take_op 16 (v := ?_) rfl (by kernel_rfl) (by kernel_rfl) (by kernel_rfl) (Or.inl ⟨by rfl, ?_⟩) (by assumption) ?_
      rotate_left 1
      · (intro W hS; have hcB := Cells.ext hcB hS; have hc9 := Cells.ext hc9 hS; have e0 := Ext.has (Ext.tr hy_19 hS) e0; have e1 := Ext.has (Ext.tr hy_19 hS) e1; have e2 := Ext.has (Ext.tr hy_19 hS) e2; have e3 := Ext.has (Ext.tr hy_19 hS) e3; have e4 := Ext.has (Ext.tr hy_19 hS) e4; have e5 := Ext.has (Ext.tr hy_19 hS) e5; have e6 := Ext.has (Ext.tr hy_19 hS) e6; have e7 := Ext.has (Ext.tr hy_19 hS) e7; have e8 := Ext.has (Ext.tr hy_19 hS) e8; have e9 := Ext.has (Ext.tr hy_19 hS) e9; have e10 := Ext.has (Ext.tr hy_19 hS) e10; go_simp; try with_reducible rfl)
      (try simp only [Act.put, List.setIfInBounds_toArray, List.set_cons_zero, List.set_cons_succ])
      refine do_op 20 rfl (by kernel_rfl) (fun K hK => ?_)
      go_simp; (with_reducible refine (fncref_Put A f _ j0 HFB.out).mono ?_); rw [HPR.out]; rintro e w20 ⟨a10, k10, rfl, hc10, hz20, -⟩
      have hx_20 : Ext w19 w20 := hz20
      have hy_20 : Ext wr w20 := Ext.tr hy_19 hx_20
      replace j0 := q0.ext hy_20
      have hcB' := Cells.ext hcB hx_20
      replace hcB := hcB'
      have hc9' := Cells.ext hc9 hx_20
      replace hc9 := hc9'
      refine hK.out _ _ hx_20 (fun hS => ?_)
      clear hK K hS
      (try simp only [Act.put, List.setIfInBounds_toArray, List.set_cons_zero, List.set_cons_succ])
      have hcv10 : ∀ W, Cells W a10 (PR.map byteC) → (convert 38 9 (.slice a10 PR.length k10)).run Try.prog W = .ok (.string ⟨PR.toArray⟩) W := fun W h => run_bytes_string _ rfl Try.underlying38 Try.underlying5 Try.underlying9 h
      refine wpAnyH_weaken (S' := fun W => Ext w20 W) (fun W h => Ext.tr hx_20 h) _ _ _ _ ?_
      have hS_20 : Ext w20 w20 := Ext.rf _
      refine take_op 21 (v := ?_) rfl (by kernel_rfl) (by kernel_rfl) (by kernel_rfl) (Or.inl ⟨by rfl, ?_⟩) (by assumption) ?_
      rotate_left 1
      · (intro W hS; have hcB := Cells.ext hcB hS; have hc9 := Cells.ext hc9 hS; have hc10 := Cells.ext hc10 hS; have e0 := Ext.has (Ext.tr hy_20 hS) e0; have e1 := Ext.has (Ext.tr hy_20 hS) e1; have e2 := Ext.has (Ext.tr hy_20 hS) e2; have e3 := Ext.has (Ext.tr hy_20 hS) e3; have e4 := Ext.has (Ext.tr hy_20 hS) e4; have e5 := Ext.has (Ext.tr hy_20 hS) e5; have e6 := Ext.has (Ext.tr hy_20 hS) e6; have e7 := Ext.has (Ext.tr hy_20 hS) e7; have e8 := Ext.has (Ext.tr hy_20 hS) e8; have e9 := Ext.has (Ext.tr hy_20 hS) e9; have e10 := Ext.has (Ext.tr hy_20 hS) e10; go_simp; try with_reducible rfl)
      (try simp only [Act.put, List.setIfInBounds_toArray, List.set_cons_zero, List.set_cons_succ])
      refine take_op 22 (v := ?_) rfl (by kernel_rfl) (by kernel_rfl) (by kernel_rfl) (Or.inl ⟨by rfl, ?_⟩) (by assumption) ?_
      rotate_left 1
      · (intro W hS; go_simp; try with_reducible rfl)
      (try simp only [Act.put, List.setIfInBounds_toArray, List.set_cons_zero, List.set_cons_succ])
      refine take_op 23 (v := ?_) rfl (by kernel_rfl) (by kernel_rfl) (by kernel_rfl) (Or.inl ⟨by rfl, ?_⟩) (by assumption) ?_
      rotate_left 1
      · (intro W hS; go_simp; try with_reducible rfl)
      (try simp only [Act.put, List.setIfInBounds_toArray, List.set_cons_zero, List.set_cons_succ])
      refine take_op 24 (v := ?_) rfl (by kernel_rfl) (by kernel_rfl) (by kernel_rfl) (Or.inl ⟨by rfl, ?_⟩) (by assumption) ?_
      rotate_left 1
      · (intro W hS; go_simp; try with_reducible rfl)
      (try simp only [Act.put, List.setIfInBounds_toArray, List.set_cons_zero, List.set_cons_succ])
      refine take_op 25 (v := ?_) rfl (by kernel_rfl) (by kernel_rfl) (by kernel_rfl) (Or.inl ⟨by rfl, ?_⟩) (by assumption) ?_
      rotate_left 1
      · (intro W hS; go_simp; try with_reducible rfl)
      (try simp only [Act.put, List.setIfInBounds_toArray, List.set_cons_zero, List.set_cons_succ])
      refine do_op 26 rfl (by kernel_rfl) (fun K hK => ?_)
      go_simp; (with_reducible refine (fnc_lives _).mono ?_); rintro e w21 ⟨rfl, hz21⟩
      have hx_21 : Ext w20 w21 := hz21
      have hy_21 : Ext wr w21 := Ext.tr hy_20 hx_21
      replace j0 := q0.ext hy_21
      have hcB' := Cells.ext hcB hx_21
      replace hcB := hcB'
      have hc9' := Cells.ext hc9 hx_21
      replace hc9 := hc9'
      have hc10' := Cells.ext hc10 hx_21
      replace hc10 := hc10'
      refine hK.out _ _ hx_21 (fun hS => ?_)
      clear hK K hS
      (try simp only [Act.put, List.setIfInBounds_toArray, List.set_cons_zero, List.set_cons_succ])
      refine wpAnyH_weaken (S' := fun W => Ext w21 W) (fun W h => Ext.tr hx_21 h) _ _ _ _ ?_
      have hS_21 : Ext w21 w21 := Ext.rf _
      refine take_op 27 (v := ?_) rfl (by kernel_rfl) (by kernel_rfl) (by kernel_rfl) (Or.inl ⟨by rfl, ?_⟩) (by assumption) ?_
      rotate_left 1
      · (intro W hS; go_simp; try with_reducible rfl)
      (try simp only [Act.put, List.setIfInBounds_toArray, List.set_cons_zero, List.set_cons_succ])
      refine take_op 28 (v := ?_) rfl (by kernel_rfl) (by kernel_rfl) (by kernel_rfl) (Or.inl ⟨by rfl, ?_⟩) (by assumption) ?_
      rotate_left 1
      · (intro W hS; go_simp; try with_reducible rfl)
      (try simp only [Act.put, List.setIfInBounds_toArray, List.set_cons_zero, List.set_cons_succ])
      refine wpAnyH_done (by kernel_rfl) ?_ _
      refine NoPanic.normal ?_
      go_wp2_with fail
      go_ret
      exact ⟨rfl, HX2.out.tr hy_21⟩
end Go.Proofs.Ytofdkhilapmccaa
