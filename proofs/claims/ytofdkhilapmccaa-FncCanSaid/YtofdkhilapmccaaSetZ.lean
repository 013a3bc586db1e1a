/- Sets of slots: slots.Range, slots.Below, the reference's Range. -/
import Derived.Test.YtofdkhilapmccaaSetY
namespace Go.Proofs.Ytofdkhilapmccaa
open Go.RowKit

theorem range_end {lo k : Nat} {H : Int} (h1 : k = lo ∨ (k : Int) ≤ H) (h2 : ¬ (k : Int) < H) (h3 : lo ≤ k) : rangeN lo k = rangeN lo H.toNat := by
  rcases h1 with rfl | h1
  · rw [rangeN_low _ (Nat.le_refl _), rangeN_low _ (by omega)]
  · congr 1; omega
theorem range_step {lo k : Nat} (h : lo ≤ k) : rangeN lo (k + 1) = withS (rangeN lo k) k := by rw [rangeN, if_pos h]
theorem range_free {lo k : Nat} (hk : k < 256) : hasS (rangeN lo k) k = false := by rw [hasS_range _ _ (by omega)]; simp

set_option maxHeartbeats 1000000 in
set_option maxRecDepth 20000 in
theorem slots_Range (a b : Int) (w : World) (ha : a ≤ 9223372036854775807) (hb : -9223372036854775808 ≤ b) :
    Calls Try.prog 88 #[.int .i64 a, .int .i64 b] w fun e w' => e = .returned (.agg #[.int .u64 (rangeS a b).a, .int .u64 (rangeS a b).b, .int .u64 (rangeS a b).c, .int .u64 (rangeS a b).d]) ∧ Ext w w' := by
  obtain ⟨lo, hlo⟩ : ∃ lo : Nat, max a 0 = lo := ⟨(max a 0).toNat, by omega⟩
  obtain ⟨H, hH⟩ : ∃ H : Int, min b 256 = H := ⟨_, rfl⟩
  have HR : Hid (rangeS a b = rangeN lo H.toNat) := by rw [Hid, rangeS, hlo, hH]; rfl
  have hH256 : H ≤ 256 := by omega
  have hHl : -9223372036854775808 ≤ H := by omega
  have hlob : lo ≤ 9223372036854775807 := by omega
  clear ha hb
  go_enter Try.func88, Try.ntmps88
  go_upto_region 2 with fail
  obtain ⟨W, hW, hx0, hz, hb1, hb2⟩ := two_blocks w ([.int .u64 0, .int .u64 0, .int .u64 0, .int .u64 0] : List Value) ([.int .u64 0, .int .u64 0, .int .u64 0, .int .u64 0] : List Value) 43 43
  rw [← hW]
  clear hW
  have HLO := Lib.hid hlo
  have HHH := Lib.hid hH
  clear hlo hH
  go_cut [6] (fun s6 wx => s6 = .int .i64 lo ∧ W = wx)
  case first =>
    go_wp2_with fail
    all_goals
      go_meet
      have := HLO.out
      exact ⟨by congr 1; omega, rfl⟩
  case rest =>
  obtain ⟨rfl, rfl⟩ := hcut
  go_wp2_with fail
  go_loopw [6] (fun i wr => ∃ k : Nat, i = .int .i64 k ∧ lo ≤ k ∧ (k = lo ∨ (k : Int) ≤ H) ∧ Ext w wr ∧ Hid (wr.heap[w.heap.size]? = some (.cells (setC zeroS).toArray 43 (0, 0))) ∧ Hid (wr.heap[w.heap.size + 1]? = some (.cells (setC (rangeN lo k)).toArray 43 (0, 0))))
    (fun i _ => H.toNat - (intOf i).toNat)
  case atStart => exact ⟨lo, rfl, Nat.le_refl _, .inl rfl, hx0, Lib.hid hb1, Lib.hid (by rw [rangeN_low _ (Nat.le_refl _)]; exact hb2)⟩
  case round =>
    clear hb1 hb2 hx0 hz
    obtain ⟨k, rfl, hk1, hk2, hext, hb1, hb2⟩ := hrel
    go_upto_region 3 with fail
    go_cut [12] (fun s12 wx => s12 = .bool (decide ((k : Int) < H)) ∧ wr = wx)
    case first =>
      go_wp2_with fail
      all_goals
        go_meet
        have := HHH.out
        exact ⟨by congr 2; rw [eq_iff_iff]; omega, rfl⟩
    case rest =>
    obtain ⟨rfl, rfl⟩ := hcut
    by_cases hlt : (k : Int) < H
    · have HS := Lib.hid (range_step hk1)
      have H64 := Lib.hid (rangeN_64 lo k)
      generalize rangeN lo k = R at *
      have c0 : wr.cell? ⟨(w.heap.size + 1), 0, none⟩ = some (.int .u64 R.a) := blk hb2.out 0 rfl
      have c1 : wr.cell? ⟨(w.heap.size + 1), 1, none⟩ = some (.int .u64 R.b) := blk hb2.out 1 rfl
      have c2 : wr.cell? ⟨(w.heap.size + 1), 2, none⟩ = some (.int .u64 R.c) := blk hb2.out 2 rfl
      have c3 : wr.cell? ⟨(w.heap.size + 1), 3, none⟩ = some (.int .u64 R.d) := blk hb2.out 3 rfl
      have f0 : wr.frozen? ⟨w.heap.size + 1, 0, none⟩ = false := frozen_of_row wr _ 0 _ _ hb2.out
      go_wp2_with fail
      refine (slots_With R k _ H64.out (by omega)).mono ?_
      rintro e w1 ⟨rfl, hx1⟩
      have hext1 := hext.tr hx1
      have hb3 := hx1.blk hb1.out
      have hb4 := hx1.blk hb2.out
      have HB3 := Lib.hid hb3
      have HB4 := Lib.hid hb4
      generalize withS R k = Q at *
      have d0 : w1.cell? ⟨w.heap.size + 1, 0, none⟩ = some (.int .u64 R.a) := blk hb4 0 rfl
      have d1 : w1.cell? ⟨w.heap.size + 1, 1, none⟩ = some (.int .u64 R.b) := blk hb4 1 rfl
      have d2 : w1.cell? ⟨w.heap.size + 1, 2, none⟩ = some (.int .u64 R.c) := blk hb4 2 rfl
      have d3 : w1.cell? ⟨w.heap.size + 1, 3, none⟩ = some (.int .u64 R.d) := blk hb4 3 rfl
      have g0 : w1.frozen? ⟨w.heap.size + 1, 0, none⟩ = false := frozen_of_row w1 _ 0 _ _ hb4
      have g1 : w1.frozen? ⟨w.heap.size + 1, 1, none⟩ = false := frozen_of_row w1 _ 1 _ _ hb4
      have g2 : w1.frozen? ⟨w.heap.size + 1, 2, none⟩ = false := frozen_of_row w1 _ 2 _ _ hb4
      have g3 : w1.frozen? ⟨w.heap.size + 1, 3, none⟩ = false := frozen_of_row w1 _ 3 _ _ hb4
      clear hx1 hext hb3 hb4 f0 c0 c1 c2 c3
      go_wp2_with fail
      go_roundw
      case rel =>
        refine ⟨k + 1, by go_num, by omega, .inr (by omega), ext4 hext1 (by omega) _ _ _ _, ?_, ?_⟩
        · exact blk_other (blk_other (blk_other (blk_other HB3.out 0 _ (by omega)) 1 _ (by omega)) 2 _ (by omega)) 3 _ (by omega)
        · rw [Hid, HS.out]; exact set4 HB4.out Q
      case measure => simp [intOf]; omega
    · have HE := Lib.hid (range_end hk2 hlt hk1)
      generalize hr : rangeN lo k = R at *
      have HRr := Lib.hid hr
      clear hr
      have c0 : wr.cell? ⟨(w.heap.size + 1), 0, none⟩ = some (.int .u64 R.a) := blk hb2.out 0 rfl
      have c1 : wr.cell? ⟨(w.heap.size + 1), 1, none⟩ = some (.int .u64 R.b) := blk hb2.out 1 rfl
      have c2 : wr.cell? ⟨(w.heap.size + 1), 2, none⟩ = some (.int .u64 R.c) := blk hb2.out 2 rfl
      have c3 : wr.cell? ⟨(w.heap.size + 1), 3, none⟩ = some (.int .u64 R.d) := blk hb2.out 3 rfl
      have d0 : wr.cell? ⟨w.heap.size, 0, none⟩ = some (.int .u64 0) := blk hb1.out 0 rfl
      have d1 : wr.cell? ⟨w.heap.size, 1, none⟩ = some (.int .u64 0) := blk hb1.out 1 rfl
      have d2 : wr.cell? ⟨w.heap.size, 2, none⟩ = some (.int .u64 0) := blk hb1.out 2 rfl
      have d3 : wr.cell? ⟨w.heap.size, 3, none⟩ = some (.int .u64 0) := blk hb1.out 3 rfl
      have f0 : wr.frozen? ⟨w.heap.size, 0, none⟩ = false := frozen_of_row wr _ 0 _ _ hb1.out
      have f1 : wr.frozen? ⟨w.heap.size, 1, none⟩ = false := frozen_of_row wr _ 1 _ _ hb1.out
      have f2 : wr.frozen? ⟨w.heap.size, 2, none⟩ = false := frozen_of_row wr _ 2 _ _ hb1.out
      have f3 : wr.frozen? ⟨w.heap.size, 3, none⟩ = false := frozen_of_row wr _ 3 _ _ hb1.out
      go_wp2_with fail
      exact bodyPost_ret (ret_cell1 rfl rfl (load_set (set4 hb1.out R))) rfl ⟨by rw [HR.out, ← HE.out], ext4 hext (by omega) _ _ _ _⟩

set_option maxHeartbeats 1000000 in
set_option maxRecDepth 20000 in
theorem setref_Range (a b : Int) (w : World) (ha : a ≤ 9223372036854775807) (hb : -9223372036854775808 ≤ b) :
    Calls Try.prog 98 #[.int .i64 a, .int .i64 b] w fun e w' => e = .returned (.agg #[.int .u64 (rangeS a b).a, .int .u64 (rangeS a b).b, .int .u64 (rangeS a b).c, .int .u64 (rangeS a b).d]) ∧ Ext w w' := by
  obtain ⟨lo, hlo⟩ : ∃ lo : Nat, max a 0 = lo := ⟨(max a 0).toNat, by omega⟩
  obtain ⟨H, hH⟩ : ∃ H : Int, min b 256 = H := ⟨_, rfl⟩
  have HR : Hid (rangeS a b = rangeN lo H.toNat) := by rw [Hid, rangeS, hlo, hH]; rfl
  have hH256 : H ≤ 256 := by omega
  have hHl : -9223372036854775808 ≤ H := by omega
  have hlob : lo ≤ 9223372036854775807 := by omega
  clear ha hb
  go_enter Try.func98, Try.ntmps98
  go_upto_region 2 with fail
  obtain ⟨W, hW, hx0, hz, hb1, hb2⟩ := two_blocks w ([.int .u64 0, .int .u64 0, .int .u64 0, .int .u64 0] : List Value) ([.int .u64 0, .int .u64 0, .int .u64 0, .int .u64 0] : List Value) 43 43
  rw [← hW]
  clear hW
  have HLO := Lib.hid hlo
  have HHH := Lib.hid hH
  clear hlo hH
  go_cut [6] (fun s6 wx => s6 = .int .i64 lo ∧ W = wx)
  case first =>
    go_wp2_with fail
    all_goals
      go_meet
      have := HLO.out
      exact ⟨by congr 1; omega, rfl⟩
  case rest =>
  obtain ⟨rfl, rfl⟩ := hcut
  go_wp2_with fail
  go_loopw [6] (fun i wr => ∃ k : Nat, i = .int .i64 k ∧ lo ≤ k ∧ (k = lo ∨ (k : Int) ≤ H) ∧ Ext w wr ∧ Hid (wr.heap[w.heap.size]? = some (.cells (setC zeroS).toArray 43 (0, 0))) ∧ Hid (wr.heap[w.heap.size + 1]? = some (.cells (setC (rangeN lo k)).toArray 43 (0, 0))))
    (fun i _ => H.toNat - (intOf i).toNat)
  case atStart => exact ⟨lo, rfl, Nat.le_refl _, .inl rfl, hx0, Lib.hid hb1, Lib.hid (by rw [rangeN_low _ (Nat.le_refl _)]; exact hb2)⟩
  case round =>
    clear hb1 hb2 hx0 hz
    obtain ⟨k, rfl, hk1, hk2, hext, hb1, hb2⟩ := hrel
    go_upto_region 3 with fail
    go_cut [12] (fun s12 wx => s12 = .bool (decide ((k : Int) < H)) ∧ wr = wx)
    case first =>
      go_wp2_with fail
      all_goals
        go_meet
        have := HHH.out
        exact ⟨by congr 2; rw [eq_iff_iff]; omega, rfl⟩
    case rest =>
    obtain ⟨rfl, rfl⟩ := hcut
    by_cases hlt : (k : Int) < H
    · have HS := Lib.hid (range_step hk1)
      have H64 := Lib.hid (rangeN_64 lo k)
      have hk256 : k < 256 := by omega
      have hfree := range_free (lo := lo) hk256
      have hadd0 := add_with H64.out hk256 hfree
      generalize rangeN lo k = R at *
      clear hfree
      have hq4 : k / 64 < 4 := by omega
      have hr64 : k % 64 < 64 := Nat.mod_lt _ (by decide)
      have hq : (k : Int) / 64 = ((k / 64 : Nat) : Int) := by omega
      have hr : (k : Int) % 64 = ((k % 64 : Nat) : Int) := by omega
      have HWD : Hid (withS R k = setW R (k / 64) (word R (k / 64) ||| 2 ^ (k % 64))) := rfl
      generalize k / 64 = q at *
      generalize k % 64 = r at *
      obtain ⟨P, hP⟩ : ∃ P : Nat, P = 2 ^ r := ⟨_, rfl⟩
      have hPi : (2 : Int) ^ r = (P : Int) := by rw [hP]; simp
      have hy := pow_64 hr64
      rw [← hP] at hy HWD hadd0
      have hsh : IntKind.u64.wrap (P : Int) = (P : Int) := by rw [IntKind.wrap_u64]; omega
      have hx := word_64 H64.out q
      have hor := or_64 hx hy
      have hwa : IntKind.u64.wrap ((word R q : Int) + (P : Int)) = ((word R q ||| P : Nat) : Int) := by
        rw [IntKind.wrap_u64, ← hadd0]; omega
      clear hP hadd0
      have c1 : wr.cell? ⟨w.heap.size + 1, q, none⟩ = some (.int .u64 (word R q)) := blk hb2.out q (by simpa using setC_get R hq4)
      have f1 : wr.frozen? ⟨w.heap.size + 1, q, none⟩ = false := frozen_of_row wr _ q _ _ hb2.out
      have i1 : (0 : Int) ≤ q := by omega
      have i2 : (q : Int) < 4 := by omega
      have i3 : (0 : Int) ≤ r := by omega
      have i4 : (r : Int) < 64 := by omega
      have hwr : IntKind.u64.wrap (r : Int) = r := by rw [IntKind.wrap_u64]; omega
      go_wp2_with fail
      go_roundw
      case rel =>
        refine ⟨k + 1, by go_num, by omega, .inr (by omega), hext.set (by omega) _ _, ?_, ?_⟩
        · exact blk_other hb1.out q _ (by omega)
        · rw [Hid, HS.out, HWD.out, ← setC_set R hq4]; exact blk_set hb2.out q _
      case measure => simp [intOf]; omega
    · have HE := Lib.hid (range_end hk2 hlt hk1)
      generalize hr : rangeN lo k = R at *
      have HRr := Lib.hid hr
      clear hr
      have c0 : wr.cell? ⟨(w.heap.size + 1), 0, none⟩ = some (.int .u64 R.a) := blk hb2.out 0 rfl
      have c1 : wr.cell? ⟨(w.heap.size + 1), 1, none⟩ = some (.int .u64 R.b) := blk hb2.out 1 rfl
      have c2 : wr.cell? ⟨(w.heap.size + 1), 2, none⟩ = some (.int .u64 R.c) := blk hb2.out 2 rfl
      have c3 : wr.cell? ⟨(w.heap.size + 1), 3, none⟩ = some (.int .u64 R.d) := blk hb2.out 3 rfl
      have d0 : wr.cell? ⟨w.heap.size, 0, none⟩ = some (.int .u64 0) := blk hb1.out 0 rfl
      have d1 : wr.cell? ⟨w.heap.size, 1, none⟩ = some (.int .u64 0) := blk hb1.out 1 rfl
      have d2 : wr.cell? ⟨w.heap.size, 2, none⟩ = some (.int .u64 0) := blk hb1.out 2 rfl
      have d3 : wr.cell? ⟨w.heap.size, 3, none⟩ = some (.int .u64 0) := blk hb1.out 3 rfl
      have f0 : wr.frozen? ⟨w.heap.size, 0, none⟩ = false := frozen_of_row wr _ 0 _ _ hb1.out
      have f1 : wr.frozen? ⟨w.heap.size, 1, none⟩ = false := frozen_of_row wr _ 1 _ _ hb1.out
      have f2 : wr.frozen? ⟨w.heap.size, 2, none⟩ = false := frozen_of_row wr _ 2 _ _ hb1.out
      have f3 : wr.frozen? ⟨w.heap.size, 3, none⟩ = false := frozen_of_row wr _ 3 _ _ hb1.out
      go_wp2_with fail
      exact bodyPost_ret (ret_cell1 rfl rfl (load_set (set4 hb1.out R))) rfl ⟨by rw [HR.out, ← HE.out], ext4 hext (by omega) _ _ _ _⟩
end Go.Proofs.Ytofdkhilapmccaa
