/- CursorBack: numbers and texts that were laid one behind the other are taken one behind the other. -/
import Derived.Test.YtfeddkfpkdjbeaaUvarQ
import Derived.Test.YtfeddkfpkdjbeaaStrB
import Derived.Test.YtfeddkfpkdjbeaaCurL
import Derived.Test.YtfeddkfpkdjbeaaBulk
namespace Go.Proofs.Ytfeddkfpkdjbeaa
open Go.RowKit

theorem curT_str {t : ByteArray} (hm : t.size < 2 ^ 64) (rest : List UInt8) : curT (putB t.size ++ (t.data.toList ++ rest)) 0 t.size = (t.data.toList, rest, 0) := by
  have e : t.size = t.data.toList.length := by rw [Array.length_toList]; rfl
  rw [e] at *
  exact curT_put hm rest
theorem str_back (t : ByteArray) : (⟨t.data.toList.toArray⟩ : ByteArray) = t := by simp

set_option maxHeartbeats 4000000 in
set_option maxRecDepth 20000 in
theorem CursorBack_walk (ao0 : Option Addr) (cap0 : Nat) (l0 : List Int) (ao1 : Option Addr) (cap1 : Nat) (l1 : List ByteArray) (w : World) (hl0 : Cells w ao0 (l0.map (.int .i64))) (hb0 : ∀ n ∈ l0, (Lit.int .i64 n).wf = true)
    (hl1 : Cells w ao1 (l1.flatMap strC)) (hs1 : letters l1 ≤ 1048576) :
    Calls Try.prog 9 #[.slice ao0 l0.length cap0, .slice ao1 l1.length cap1] w fun e w' => e = .returned (.bool true) ∧ Ext w w' := by
  have HB := Lib.hid (ints_bounds hb0)
  have HC0 := Lib.hid hl0
  have HC1 := Lib.hid hl1
  clear hb0 hl0 hl1
  by_cases h0 : 40 < l0.length
  · have t1 : decide ((40 : Int) < l0.length) = true := decide_eq_true (by omega)
    have t2 : decide (40 < l0.length) = true := decide_eq_true h0
    go_enter Try.func9, Try.ntmps9
    go_wp2_with fail
    refine (cur_lives _).mono ?_
    rintro e w1 ⟨rfl, hb⟩
    go_wp2_with fail
    go_ret
    exact ⟨rfl, hb⟩
  by_cases h1 : 40 < l1.length
  · have t1 : decide ((40 : Int) < l0.length) = false := decide_eq_false (by omega)
    have t2 : decide (40 < l0.length) = false := decide_eq_false h0
    have t3 : decide ((40 : Int) < l1.length) = true := decide_eq_true (by omega)
    have t4 : decide (40 < l1.length) = true := decide_eq_true h1
    go_enter Try.func9, Try.ntmps9
    go_wp2_with fail
    refine (cur_lives _).mono ?_
    rintro e w1 ⟨rfl, hb⟩
    go_wp2_with fail
    go_ret
    exact ⟨rfl, hb⟩
  have t1 : decide ((40 : Int) < l0.length) = false := decide_eq_false (by omega)
  have t2 : decide (40 < l0.length) = false := decide_eq_false h0
  have t3 : decide ((40 : Int) < l1.length) = false := decide_eq_false (by omega)
  have t4 : decide (40 < l1.length) = false := decide_eq_false h1
  have hn0 : l0.length ≤ 40 := by omega
  have hn1 : l1.length ≤ 40 := by omega
  clear h0 h1
  go_enter Try.func9, Try.ntmps9
  go_wp2_with fail
  go_loopw [5, 6] (fun v i wr => ∃ k : Nat, k ≤ l0.length ∧ i = .int .i64 k ∧ wr.ownsRow w.heap.size 5 1 v (numsB (l0.take k)).length ((numsB (l0.take k)).map byteC) ∧ Ext w wr)
    (fun _ i _ => l0.length - (intOf i).toNat)
  case atStart => exact ⟨0, Nat.zero_le _, rfl, World.ownsRow_nil _ _ _ _, Ext.rf _⟩
  case round =>
    obtain ⟨k, hk, rfl, hown, hext⟩ := hrel
    by_cases hlt : k < l0.length
    · obtain ⟨b, off, rfl, c1⟩ := (HC0.out.ext hext).at (k := k) (by simpa using hlt)
      simp only [List.getElem_map] at c1
      have i1 : (0 : Int) ≤ k := by omega
      have i2 : (k : Int) < l0.length := by omega
      have hbd := HB.out _ (List.getElem_mem hlt)
      have HT := Lib.hid (numsB_take hlt)
      have hle := numsB_len (l0.take k)
      rw [List.length_take] at hle
      generalize numsB (l0.take k) = xs at *
      have HP := Lib.hid (uvar_PutInt w.heap.size _ _ _ l0[k] wr hown hext.size (by omega) hbd.1 hbd.2)
      generalize l0[k] = n at *
      clear hbd
      go_wp2_with fail
      refine HP.out.mono ?_
      rintro e w1 ⟨v', rfl, ho, hg⟩
      have hx1 := hext.push hown (Nat.le_refl _) hg
      clear hg hown
      go_wp2_with fail
      go_roundw
      case rel => exact ⟨k + 1, by omega, by go_num, by rw [HT.out, List.length_append, List.map_append]; exact ho, hx1⟩
      case measure => simp [intOf]; omega
    · obtain rfl : k = l0.length := by omega
      rw [List.take_length] at hown
      have HL := Lib.hid (numsB_len l0)
      generalize hN : numsB l0 = N at *
      have HN := Lib.hid hN
      clear hN
      have hnl := HL.out
      go_wp2_with fail
      clear hk hlt
      go_loopw [5, 7] (fun v i wr => ∃ k : Nat, k ≤ l1.length ∧ i = .int .i64 k ∧ wr.ownsRow w.heap.size 5 1 v (N ++ strsB (l1.take k)).length ((N ++ strsB (l1.take k)).map byteC) ∧ Ext w wr)
        (fun _ i _ => l1.length - (intOf i).toNat)
      case atStart => exact ⟨0, Nat.zero_le _, rfl, by simpa [strsB] using hown, hext⟩
      case round =>
        clear hown hext
        obtain ⟨k, hk, rfl, hown, hext⟩ := hrel
        by_cases hlt : k < l1.length
        · obtain ⟨b, off, rfl, c0⟩ := HC1.out.str (k := k) hlt
          have c1 := hext.has c0
          have i1 : (0 : Int) ≤ k := by omega
          have i2 : (k : Int) < l1.length := by omega
          have hle := strsB_len (l1.take k)
          have hle2 := letters_take l1 k
          rw [List.length_take] at hle
          have hts := letters_at (List.getElem_mem hlt)
          have HT := Lib.hid (strsB_take hlt)
          generalize l1[k] = t at *
          have hxl : (N ++ strsB (l1.take k)).length ≤ 2000000 := by rw [List.length_append]; omega
          have HT2 : Hid (N ++ strsB (l1.take (k + 1)) = (N ++ strsB (l1.take k)) ++ (putB t.size ++ t.data.toList)) := by rw [Hid, HT.out, List.append_assoc]
          generalize N ++ strsB (l1.take k) = xs at *
          have hbk : b < w.heap.size := by
            have hne : l1.flatMap strC ≠ [] := by intro e; rw [List.flatMap_eq_nil_iff] at e; exact absurd (e _ (List.getElem_mem hlt)) (by simp [strC])
            exact HC1.out.lt hne
          have hwz : IntKind.u64.wrap (t.size : Int) = t.size := by rw [IntKind.wrap_u64]; omega
          have hpl := putB_le t.size
          have htl : t.data.toList.length = t.size := by rw [Array.length_toList]; rfl
          clear hle hle2 HT
          go_wp2_with fail
          have ho := own_ext hown ((Ext.rf wr).dr)
          have hy := hext.dr
          have hz := hy.size
          have hv := hown.lt
          refine wp_region_ext (fun W => Ext w W) (by kernel_rfl) hy (fun hS => ?_)
          refine take_op 0 (v := ?_) rfl (by kernel_rfl) (by kernel_rfl) (by kernel_rfl) (Or.inl ⟨by rfl, ?_⟩) (by assumption) ?_
          rotate_left 1
          · (intro W hS; go_simp; try with_reducible rfl)
          (try simp only [Act.put, List.setIfInBounds_toArray, List.set_cons_zero, List.set_cons_succ])
          refine take_op 1 (v := ?_) rfl (by kernel_rfl) (by kernel_rfl) (by kernel_rfl) (Or.inl ⟨by rfl, ?_⟩) (by assumption) ?_
          rotate_left 1
          · (intro W hS; go_simp; try with_reducible rfl)
          (try simp only [Act.put, List.setIfInBounds_toArray, List.set_cons_zero, List.set_cons_succ])
          refine take_op 2 (v := ?_) rfl (by kernel_rfl) (by kernel_rfl) (by kernel_rfl) (Or.inl ⟨by rfl, ?_⟩) (by assumption) ?_
          rotate_left 1
          · (intro W hS; go_simp; try with_reducible rfl)
          (try simp only [Act.put, List.setIfInBounds_toArray, List.set_cons_zero, List.set_cons_succ])
          refine take_op 3 (v := ?_) rfl (by kernel_rfl) (by kernel_rfl) (by kernel_rfl) (Or.inl ⟨by rfl, ?_⟩) (by assumption) ?_
          rotate_left 1
          · (intro W hS; go_simp; try with_reducible rfl)
          (try simp only [Act.put, List.setIfInBounds_toArray, List.set_cons_zero, List.set_cons_succ])
          refine take_op 4 (v := ?_) rfl (by kernel_rfl) (by kernel_rfl) (by kernel_rfl) (Or.inl ⟨by rfl, ?_⟩) (by assumption) ?_
          rotate_left 1
          · (intro W hS; have c1 := hS.has c0; go_simp; try with_reducible rfl)
          (try simp only [Act.put, List.setIfInBounds_toArray, List.set_cons_zero, List.set_cons_succ])
          refine take_op 5 (v := ?_) rfl (by kernel_rfl) (by kernel_rfl) (by kernel_rfl) (Or.inl ⟨by rfl, ?_⟩) (by assumption) ?_
          rotate_left 1
          · (intro W hS; go_simp; try with_reducible rfl)
          (try simp only [Act.put, List.setIfInBounds_toArray, List.set_cons_zero, List.set_cons_succ])
          refine take_op 6 (v := ?_) rfl (by kernel_rfl) (by kernel_rfl) (by kernel_rfl) (Or.inl ⟨by rfl, ?_⟩) (by assumption) ?_
          rotate_left 1
          · (intro W hS; have c1 := hS.has c0; go_simp; try with_reducible rfl)
          (try simp only [Act.put, List.setIfInBounds_toArray, List.set_cons_zero, List.set_cons_succ])
          refine take_op 8 (v := ?_) rfl (by kernel_rfl) (by kernel_rfl) (by kernel_rfl) (Or.inl ⟨by rfl, ?_⟩) (by assumption) ?_
          rotate_left 1
          · (intro W hS; go_simp; try with_reducible rfl)
          (try simp only [Act.put, List.setIfInBounds_toArray, List.set_cons_zero, List.set_cons_succ])
          refine take_op 9 (v := ?_) rfl (by kernel_rfl) (by kernel_rfl) (by kernel_rfl) (Or.inl ⟨by rfl, ?_⟩) (by assumption) ?_
          rotate_left 1
          · (intro W hS; go_simp; try with_reducible rfl)
          (try simp only [Act.put, List.setIfInBounds_toArray, List.set_cons_zero, List.set_cons_succ])
          refine take_op 10 (v := ?_) rfl (by kernel_rfl) (by kernel_rfl) (by kernel_rfl) (Or.inl ⟨by rfl, ?_⟩) (by assumption) ?_
          rotate_left 1
          · (intro W hS; go_simp; try with_reducible rfl)
          (try simp only [Act.put, List.setIfInBounds_toArray, List.set_cons_zero, List.set_cons_succ])
          refine take_op 11 (v := ?_) rfl (by kernel_rfl) (by kernel_rfl) (by kernel_rfl) (Or.inl ⟨by rfl, ?_⟩) (by assumption) ?_
          rotate_left 1
          · (intro W hS; have c1 := hS.has c0; go_simp; try with_reducible rfl)
          (try simp only [Act.put, List.setIfInBounds_toArray, List.set_cons_zero, List.set_cons_succ])
          refine do_op2 7 12 rfl rfl (by kernel_rfl) (fun K hK => ?_) (fun K hK => ?_)
          · skip
            go_simp; (with_reducible refine (uvar_Put w.heap.size _ _ _ t.size _ ho hz (by omega) (by omega)).mono ?_); rintro e wA ⟨vA, rfl, hoA, hgA⟩
            refine hK.out _ _ (hy.push ho (Nat.le_refl _) hgA) (fun hS => ?_)
            clear hK K
            (try simp only [Act.put, List.setIfInBounds_toArray, List.set_cons_zero, List.set_cons_succ])
            replace hy := hy.push ho (Nat.le_refl _) hgA; replace ho := hoA; replace hz := hy.size; try replace hcB := hcB.grow hgA (fun ad e => by cases e; intro h; have := (hv _ h).2; simp at this)
            refine do_op 12 rfl (by kernel_rfl) (fun K hK => ?_)
            refine step_bytes rfl 9 49 5 (.tmp 49) rfl t rfl Try.underlying9 Try.underlying49 Try.underlying5 ?_; intro wB capB hxB hcB
            refine hK.out _ _ (hy.tr hxB) (fun hS => ?_)
            clear hK K
            (try simp only [Act.put, List.setIfInBounds_toArray, List.set_cons_zero, List.set_cons_succ])
            replace ho := own_ext ho hxB; replace hy := hy.tr hxB; replace hz := hy.size
            refine do_op 13 rfl (by kernel_rfl) (fun K hK => ?_)
            refine step_appendAll rfl (.tmp 45) (.tmp 50) 49 rfl w.heap.size 5 (.int .u8 0) 1 1 Try.underlying49 (by kernel_rfl) rfl (by decide) _ _ _ _ t.size _ (t.data.toList.map byteC) rfl ho rfl hcB (by simp) (by intro u hu; simp only [List.mem_map] at hu; obtain ⟨_, _, rfl⟩ := hu; rfl) (by unfold maxLen; omega) (by omega) hz ?_; intro vC wC hoC hgC
            refine hK.out _ _ (hy.push ho (Nat.le_refl _) hgC) (fun hS => ?_)
            clear hK K
            (try simp only [Act.put, List.setIfInBounds_toArray, List.set_cons_zero, List.set_cons_succ])
            replace hy := hy.push ho (Nat.le_refl _) hgC; replace ho := hoC
            refine take_op 14 (v := ?_) rfl (by kernel_rfl) (by kernel_rfl) (by kernel_rfl) (Or.inl ⟨by rfl, ?_⟩) (by assumption) ?_
            rotate_left 1
            · (intro W hS; go_simp; try with_reducible rfl)
            (try simp only [Act.put, List.setIfInBounds_toArray, List.set_cons_zero, List.set_cons_succ])
            refine wpAnyH_done (by kernel_rfl) ?_ _
            refine NoPanic.normal ?_
            go_wp2_with fail
            go_roundw
            case rel => exact ⟨k + 1, by omega, by go_num, by rw [HT2.out, ← List.append_assoc, List.length_append, List.length_append, List.map_append, List.map_append, htl]; exact ho, hy⟩
            case measure => simp [intOf]; omega
          · skip
            refine step_bytes rfl 9 49 5 (.tmp 49) rfl t rfl Try.underlying9 Try.underlying49 Try.underlying5 ?_; intro wB capB hxB hcB
            refine hK.out _ _ (hy.tr hxB) (fun hS => ?_)
            clear hK K
            (try simp only [Act.put, List.setIfInBounds_toArray, List.set_cons_zero, List.set_cons_succ])
            replace ho := own_ext ho hxB; replace hy := hy.tr hxB; replace hz := hy.size
            refine do_op 7 rfl (by kernel_rfl) (fun K hK => ?_)
            go_simp; (with_reducible refine (uvar_Put w.heap.size _ _ _ t.size _ ho hz (by omega) (by omega)).mono ?_); rintro e wA ⟨vA, rfl, hoA, hgA⟩
            refine hK.out _ _ (hy.push ho (Nat.le_refl _) hgA) (fun hS => ?_)
            clear hK K
            (try simp only [Act.put, List.setIfInBounds_toArray, List.set_cons_zero, List.set_cons_succ])
            replace hy := hy.push ho (Nat.le_refl _) hgA; replace ho := hoA; replace hz := hy.size; try replace hcB := hcB.grow hgA (fun ad e => by cases e; intro h; have := (hv _ h).2; simp at this)
            refine do_op 13 rfl (by kernel_rfl) (fun K hK => ?_)
            refine step_appendAll rfl (.tmp 45) (.tmp 50) 49 rfl w.heap.size 5 (.int .u8 0) 1 1 Try.underlying49 (by kernel_rfl) rfl (by decide) _ _ _ _ t.size _ (t.data.toList.map byteC) rfl ho rfl hcB (by simp) (by intro u hu; simp only [List.mem_map] at hu; obtain ⟨_, _, rfl⟩ := hu; rfl) (by unfold maxLen; omega) (by omega) hz ?_; intro vC wC hoC hgC
            refine hK.out _ _ (hy.push ho (Nat.le_refl _) hgC) (fun hS => ?_)
            clear hK K
            (try simp only [Act.put, List.setIfInBounds_toArray, List.set_cons_zero, List.set_cons_succ])
            replace hy := hy.push ho (Nat.le_refl _) hgC; replace ho := hoC
            refine take_op 14 (v := ?_) rfl (by kernel_rfl) (by kernel_rfl) (by kernel_rfl) (Or.inl ⟨by rfl, ?_⟩) (by assumption) ?_
            rotate_left 1
            · (intro W hS; go_simp; try with_reducible rfl)
            (try simp only [Act.put, List.setIfInBounds_toArray, List.set_cons_zero, List.set_cons_succ])
            refine wpAnyH_done (by kernel_rfl) ?_ _
            refine NoPanic.normal ?_
            go_wp2_with fail
            go_roundw
            case rel => exact ⟨k + 1, by omega, by go_num, by rw [HT2.out, ← List.append_assoc, List.length_append, List.length_append, List.map_append, List.map_append, htl]; exact ho, hy⟩
            case measure => simp [intOf]; omega
        · obtain rfl : k = l1.length := by omega
          rw [List.take_length] at hown
          have hsl := strsB_len l1
          have hbl : (N ++ strsB l1).length ≤ 140737488351232 := by rw [List.length_append]; omega
          generalize hB0 : N ++ strsB l1 = B0 at *
          have HB0 := Lib.hid hB0
          clear hB0
          obtain ⟨ao2, cap2, rfl, hc2, -⟩ := own_cells hown
          have HC2 := Lib.hid hc2
          have HSZ := Lib.hid hext.size
          have HBL := Lib.hid hbl
          clear hsl hnl hbl hc2 hown hk hlt
          go_wp2_with fail
          refine (cur_New _ _ _ _ HC2.out HBL.out).mono ?_
          rintro e w3 ⟨g, rfl, hg, hcu, hx3⟩
          have hgw := Nat.le_trans HSZ.out hg
          have hxw := hext.tr hx3
          have HL3 : Hid (B0.length ≤ 140737488351232) := HBL.out
          clear hx3 hg hext HC2 HSZ HBL
          go_wp2_with fail
          have HCU : Hid (CurAt w3 g (numsB (l0.drop 0) ++ strsB l1) 0) := by
            have hN := HN.out
            rw [Hid, List.drop_zero, hN, HB0.out]; exact hcu
          have HLL : Hid (∀ k, (numsB (l0.drop k) ++ strsB l1).length ≤ 140737488351232) := fun k => by
            have h1 := numsB_len (l0.drop k)
            have h2 := strsB_len l1
            rw [List.length_drop] at h1
            rw [List.length_append]; omega
          clear hcu HL3
          go_loopw [9] (fun i wr => ∃ k : Nat, k ≤ l0.length ∧ i = .int .i64 k ∧ Hid (CurAt wr g (numsB (l0.drop k) ++ strsB l1) 0) ∧ Ext w wr)
            (fun i _ => l0.length - (intOf i).toNat)
          case atStart => exact ⟨0, Nat.zero_le _, rfl, HCU, hxw⟩
          case round =>
            clear HCU hxw
            obtain ⟨k, hk, rfl, HC, hext⟩ := hrel
            by_cases hlt : k < l0.length
            · obtain ⟨b, off, rfl, c0⟩ := HC0.out.at (k := k) (by simpa using hlt)
              simp only [List.getElem_map] at c0
              have c1 := hext.has c0
              have i1 : (0 : Int) ≤ k := by omega
              have i2 : (k : Int) < l0.length := by omega
              have hbd := HB.out _ (List.getElem_mem hlt)
              have hbits : bitsS (numsB (l0.drop k) ++ strsB l1) 0 = (foldN l0[k], numsB (l0.drop (k + 1)) ++ strsB l1, 0) := by
                rw [numsB_drop hlt, List.append_assoc]
                exact bitsS_put (by have := foldN_lt hbd.1 hbd.2; omega) _
              have HI := Lib.hid (cur_Int g _ 0 wr.drew (HC.out.ext (Ext.rf _).dr) (HLL.out k))
              rw [hbits, unfold_fold] at HI
              have hbk : b < w.heap.size := HC0.out.lt (by intro e; simp at e; subst e; simp at hlt)
              generalize l0[k] = n at *
              have hq : (n != n) = false := by simp
              clear hbd hbits
              go_wp2_with fail
              go_region_held3 (fun w' => w'.cell? ⟨b, off + k, none⟩ = some (.int .i64 n)) (first | assumption | go_simp)
                (first | (go_at_call 54; (refine HI.out.mono ?_; rintro e w4 ⟨rfl, hc4, hg4⟩; have HC4 := Lib.hid hc4; have hy4 := ext_grown hext.dr hg4 hgw; have c1 := hy4.has c0; clear hc4 hg4)))
              go_wp2_with fail
              go_roundw
              case rel => exact ⟨k + 1, by omega, by go_num, HC4, hy4⟩
              case measure => simp [intOf]; omega
            · obtain rfl : k = l0.length := by omega
              rw [List.drop_length] at HC
              have HC' : Hid (CurAt wr g (strsB (l1.drop 0)) 0) := HC
              clear HC hlt hk
              go_wp2_with fail
              go_loopw [10] (fun i wr => ∃ k : Nat, k ≤ l1.length ∧ i = .int .i64 k ∧ Hid (CurAt wr g (strsB (l1.drop k)) 0) ∧ Ext w wr)
                (fun i _ => l1.length - (intOf i).toNat)
              case atStart => exact ⟨0, Nat.zero_le _, rfl, HC', hext⟩
              case round =>
                clear HC' hext
                obtain ⟨k, hk, rfl, HC, hext⟩ := hrel
                by_cases hlt : k < l1.length
                · obtain ⟨b, off, rfl, c0⟩ := HC1.out.str (k := k) hlt
                  have c1 := hext.has c0
                  have i1 : (0 : Int) ≤ k := by omega
                  have i2 : (k : Int) < l1.length := by omega
                  have hts := letters_at (List.getElem_mem hlt)
                  have hcu : curT (strsB (l1.drop k)) 0 l1[k].size = (l1[k].data.toList, strsB (l1.drop (k + 1)), 0) := by
                    rw [strsB_drop hlt]
                    exact curT_str (by omega) _
                  have hsl := strsB_len (l1.drop k)
                  have HT := Lib.hid (cur_Text g _ 0 l1[k].size wr.drew (HC.out.ext (Ext.rf _).dr) (by
                    have h2 := letters_drop l1 k
                    rw [List.length_drop] at hsl
                    omega) (by omega) (by omega))
                  rw [hcu, str_back] at HT
                  generalize l1[k] = t at *
                  clear hcu hsl
                  go_wp2_with fail
                  go_region_held3 (fun w' => w'.cell? ⟨b, off + k, none⟩ = some (.string t)) (first | assumption | go_simp)
                    (first | (go_at_call 55; (refine HT.out.mono ?_; rintro e w4 ⟨rfl, hc4, hg4⟩; have HC4 := Lib.hid hc4; have hy4 := ext_grown hext.dr hg4 hgw; have c1 := hy4.has c0; clear hc4 hg4)))
                  go_wp2_with fail
                  go_roundw
                  case rel => exact ⟨k + 1, by omega, by go_num, HC4, hy4⟩
                  case measure => simp [intOf]; omega
                · obtain rfl : k = l1.length := by omega
                  rw [List.drop_length] at HC
                  have HC' : Hid (CurAt wr g [] 0) := HC
                  clear HC hlt hk
                  go_wp2_with fail
                  refine (cur_End g [] 0 _ HC'.out).mono ?_
                  rintro e w4 ⟨rfl, rfl⟩
                  go_wp2_with fail
                  refine (cur_lives _).mono ?_
                  rintro e w5 ⟨rfl, hb⟩
                  go_wp2_with fail
                  go_ret
                  exact ⟨rfl, hext.tr hb⟩
end Go.Proofs.Ytfeddkfpkdjbeaa
