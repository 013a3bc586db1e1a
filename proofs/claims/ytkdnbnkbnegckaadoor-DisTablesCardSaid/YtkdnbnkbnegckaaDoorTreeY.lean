/- Inline trees: their text, the reference's. -/
import Derived.Test.YtkdnbnkbnegckaaDoorTreeX
namespace Go.Proofs.YtkdnbnkbnegckaaDoor
open Go.RowKit

theorem depth_pos {l : List NodeT} {k : Nat} (h : k < l.length) : 1 ≤ depthN l k := by
  have hi : isNode l k = true := by simp only [isNode, Bool.and_eq_true, decide_eq_true_eq]; omega
  obtain ⟨f, hf⟩ : ∃ f, l.length = f + 1 := ⟨l.length - 1, by omega⟩
  rw [depthN, hf, upF_yes hi]; simp

set_option maxHeartbeats 2000000 in
set_option maxRecDepth 20000 in
theorem treeref_Text (ao : Option Addr) (cap : Nat) (l : List NodeT) (w : World) (hc : Cells w ao (l.flatMap nodeC)) (hl : l.length ≤ 100000) (hv : ∀ n ∈ l, Node64 n) (hr : rightTree l = true) :
    Calls Tryd.prog 29 #[.slice ao l.length cap] w fun e w' => e = .returned (.string (strB (treeText l l.length))) ∧ Ext w w' := by
  have HV := Lib.hid hv
  have HTL := Lib.hid (treeText_len hv hl)
  have HR := Lib.hid hr
  clear hv hr
  go_enter Tryd.func29, Tryd.ntmps29
  go_wp2_with fail
  go_loopw [3, 4] (fun s i wr => ∃ k : Nat, k ≤ l.length ∧ i = .int .i64 k ∧ s = .string (strB (treeText l k)) ∧ Ext w wr)
    (fun _ i _ => l.length - (intOf i).toNat)
  case atStart => exact ⟨0, Nat.zero_le _, rfl, rfl, Ext.rf w⟩
  case round =>
    obtain ⟨k, hk, rfl, rfl, hext⟩ := hrel
    by_cases hlt : k < l.length
    · obtain ⟨b, off, rfl, hcl⟩ := hc.flat (enc := nodeC) (size := 7) (fun _ => rfl) hlt (by decide)
      have HS : Hid (treeText l (k + 1) = treeText l k ++ lineOf (depthN l k) k l[k]) := by rw [Hid, treeText_succ, treeLine_get (List.getElem?_eq_getElem hlt)]
      have hn := HV.out l[k] (List.getElem_mem hlt)
      have hdl : depthN l k ≤ l.length := upF_len l _ _
      have hdp := depth_pos hlt
      have HDN : Hid ((upF l (l.length + 1) k).length = depthN l k) := by rw [Hid, upF_len1 HR.out]; rfl
      have htl : (treeText l k).length ≤ 30000000000 := by have := HTL.out k (by omega); omega
      generalize l[k] = x at *
      have e1 := Lib.hid (show w.cell? ⟨b, off + k * 7 + 1, none⟩ = some (.int .i64 x.fn) from by rw [Nat.add_assoc]; exact hcl 1 _ rfl)
      have e2 := Lib.hid (show w.cell? ⟨b, off + k * 7 + 2, none⟩ = some (.int .i64 x.line) from by rw [Nat.add_assoc]; exact hcl 2 _ rfl)
      clear hcl
      have q1 := decB_len (n := (k : Int)) (by omega) (by omega)
      have q2 := decB_len hn.2.1.1 hn.2.1.2
      have q3 := decB_len hn.2.2.1.1 hn.2.2.1.2
      rw [← strB_size] at q1 q2 q3
      have K1 := Lib.hid (fun W => ref_Digits (k : Int) W (by omega) (by omega))
      have K2 := Lib.hid (fun W => ref_Digits x.fn W hn.2.1.1 hn.2.1.2)
      have K3 := Lib.hid (fun W => ref_Digits x.line W hn.2.2.1.1 hn.2.2.1.2)
      clear hn
      go_wp2_with fail
      refine (treeref_Up _ _ l k _ (hc.ext hext) (by omega)).mono ?_
      rw [HDN.out]
      rintro e w2 ⟨ua, uc, rfl, hcu, hx2, -⟩
      have HX2 := Lib.hid (hext.tr hx2)
      clear hx2 hcu hext HDN
      generalize depthN l k = d at *
      generalize treeText l k = A at *
      go_wp2_with fail
      go_loopw [3, 6] (fun s i wi => ∃ q : Nat, 1 ≤ q ∧ q ≤ d ∧ i = .int .i64 q ∧ s = .string (strB (A ++ List.replicate (2 * (q - 1)) 32)) ∧ Ext w wi)
        (fun _ i _ => d - (intOf i).toNat)
      case atStart => exact ⟨1, Nat.le_refl _, hdp, rfl, by simp, HX2.out⟩
      case round =>
        clear HX2
        obtain ⟨q, hq1, hq, rfl, rfl, hexq⟩ := hrel
        by_cases hql : q < d
        · have hz : ¬ 9223372036854775807 < (strB (A ++ List.replicate (2 * (q - 1)) 32)).size + 2 := by
            rw [strB_size, List.length_append, List.length_replicate]; omega
          have HQ : Hid (strB (A ++ List.replicate (2 * (q - 1)) 32) ++ (⟨#[32, 32]⟩ : ByteArray) = strB (A ++ List.replicate (2 * (q + 1 - 1)) 32)) := by
            rw [Hid, show (⟨#[32, 32]⟩ : ByteArray) = strB [32, 32] from rfl, strB_app, List.append_assoc, show 2 * (q + 1 - 1) = 2 * (q - 1) + 2 by omega, ← List.replicate_append_replicate]; rfl
          go_wp2_with fail
          go_roundw
          case rel => exact ⟨q + 1, by omega, by omega, by go_num, by rw [← HQ.out], hexq⟩
          case measure => simp [intOf]; omega
        · obtain rfl : q = d := by omega
          have htl2 : (strB (A ++ List.replicate (2 * (q - 1)) 32)).size ≤ 30000300000 := by rw [strB_size, List.length_append, List.length_replicate]; omega
          have HF : Hid (strB (treeText l (k + 1)) = strB (A ++ List.replicate (2 * (q - 1)) 32) ++ strB (decB k) ++ (⟨#[32]⟩ : ByteArray) ++ strB (decB x.fn) ++ ⟨#[32]⟩ ++ strB (decB x.line) ++ ⟨#[10]⟩) := by
            rw [Hid, HS.out, lineOf, show (⟨#[32]⟩ : ByteArray) = strB [32] from rfl, show (⟨#[10]⟩ : ByteArray) = strB [10] from rfl]
            simp only [strB_app, List.append_assoc, List.cons_append, List.nil_append]
          generalize strB (A ++ List.replicate (2 * (q - 1)) 32) = T at *
          generalize strB (decB k) = D1 at *
          generalize strB (decB x.fn) = D2 at *
          generalize strB (decB x.line) = D3 at *
          have f1 : ¬ 9223372036854775807 < T.size + D1.size := by omega
          have f2 : ¬ 9223372036854775807 < T.size + D1.size + 1 := by omega
          have f3 : ¬ 9223372036854775807 < T.size + D1.size + 1 + D2.size := by omega
          have f4 : ¬ 9223372036854775807 < T.size + D1.size + 1 + D2.size + 1 := by omega
          have f5 : ¬ 9223372036854775807 < T.size + D1.size + 1 + D2.size + 1 + D3.size := by omega
          have f6 : ¬ 9223372036854775807 < T.size + D1.size + 1 + D2.size + 1 + D3.size + 1 := by omega
          have k1 := hexq.has e1.out
          have k2 := hexq.has e2.out
          have j1 : (0 : Int) ≤ k := by omega
          have j2 : (k : Int) < l.length := by omega
          have HXQ := Lib.hid hexq
          clear hexq
          go_wp2_with fail
          refine wp_region_ext (fun W => Ext wr W) (by kernel_rfl) ((Ext.rf _).dr) (fun hS0 => ?_)
          refine take_op 0 (v := ?_) rfl (by kernel_rfl) (by kernel_rfl) (by kernel_rfl) (Or.inl ⟨by rfl, ?_⟩) (by assumption) ?_
          rotate_left 1
          · (intro W hS; go_simp; try with_reducible rfl)
          (try simp only [Act.put, List.setIfInBounds_toArray, List.set_cons_zero, List.set_cons_succ])
          refine take_op 1 (v := ?_) rfl (by kernel_rfl) (by kernel_rfl) (by kernel_rfl) (Or.inl ⟨by rfl, ?_⟩) (by assumption) ?_
          rotate_left 1
          · (intro W hS; go_simp; try with_reducible rfl)
          (try simp only [Act.put, List.setIfInBounds_toArray, List.set_cons_zero, List.set_cons_succ])
          refine take_op 5 (v := ?_) rfl (by kernel_rfl) (by kernel_rfl) (by kernel_rfl) (Or.inl ⟨by rfl, ?_⟩) (by assumption) ?_
          rotate_left 1
          · (intro W hS; go_simp; try with_reducible rfl)
          (try simp only [Act.put, List.setIfInBounds_toArray, List.set_cons_zero, List.set_cons_succ])
          refine take_op 6 (v := ?_) rfl (by kernel_rfl) (by kernel_rfl) (by kernel_rfl) (Or.inl ⟨by rfl, ?_⟩) (by assumption) ?_
          rotate_left 1
          · (intro W hS; go_simp; try with_reducible rfl)
          (try simp only [Act.put, List.setIfInBounds_toArray, List.set_cons_zero, List.set_cons_succ])
          refine take_op 7 (v := ?_) rfl (by kernel_rfl) (by kernel_rfl) (by kernel_rfl) (Or.inl ⟨by rfl, ?_⟩) (by assumption) ?_
          rotate_left 1
          · (intro W hS; go_simp; try with_reducible rfl)
          (try simp only [Act.put, List.setIfInBounds_toArray, List.set_cons_zero, List.set_cons_succ])
          refine take_op 8 (v := ?_) rfl (by kernel_rfl) (by kernel_rfl) (by kernel_rfl) (Or.inl ⟨by rfl, ?_⟩) (by assumption) ?_
          rotate_left 1
          · (intro W hS; go_simp; try with_reducible rfl)
          (try simp only [Act.put, List.setIfInBounds_toArray, List.set_cons_zero, List.set_cons_succ])
          refine take_op 9 (v := ?_) rfl (by kernel_rfl) (by kernel_rfl) (by kernel_rfl) (Or.inl ⟨by rfl, ?_⟩) (by assumption) ?_
          rotate_left 1
          · (intro W hS; have k1 := hS.has k1; have k2 := hS.has k2; go_simp; try with_reducible rfl)
          (try simp only [Act.put, List.setIfInBounds_toArray, List.set_cons_zero, List.set_cons_succ])
          refine take_op 13 (v := ?_) rfl (by kernel_rfl) (by kernel_rfl) (by kernel_rfl) (Or.inl ⟨by rfl, ?_⟩) (by assumption) ?_
          rotate_left 1
          · (intro W hS; go_simp; try with_reducible rfl)
          (try simp only [Act.put, List.setIfInBounds_toArray, List.set_cons_zero, List.set_cons_succ])
          refine take_op 14 (v := ?_) rfl (by kernel_rfl) (by kernel_rfl) (by kernel_rfl) (Or.inl ⟨by rfl, ?_⟩) (by assumption) ?_
          rotate_left 1
          · (intro W hS; go_simp; try with_reducible rfl)
          (try simp only [Act.put, List.setIfInBounds_toArray, List.set_cons_zero, List.set_cons_succ])
          refine take_op 15 (v := ?_) rfl (by kernel_rfl) (by kernel_rfl) (by kernel_rfl) (Or.inl ⟨by rfl, ?_⟩) (by assumption) ?_
          rotate_left 1
          · (intro W hS; go_simp; try with_reducible rfl)
          (try simp only [Act.put, List.setIfInBounds_toArray, List.set_cons_zero, List.set_cons_succ])
          refine take_op 16 (v := ?_) rfl (by kernel_rfl) (by kernel_rfl) (by kernel_rfl) (Or.inl ⟨by rfl, ?_⟩) (by assumption) ?_
          rotate_left 1
          · (intro W hS; go_simp; try with_reducible rfl)
          (try simp only [Act.put, List.setIfInBounds_toArray, List.set_cons_zero, List.set_cons_succ])
          refine take_op 17 (v := ?_) rfl (by kernel_rfl) (by kernel_rfl) (by kernel_rfl) (Or.inl ⟨by rfl, ?_⟩) (by assumption) ?_
          rotate_left 1
          · (intro W hS; have k1 := hS.has k1; have k2 := hS.has k2; go_simp; try with_reducible rfl)
          (try simp only [Act.put, List.setIfInBounds_toArray, List.set_cons_zero, List.set_cons_succ])
          refine do_op 2 rfl (by kernel_rfl) (fun K hK => ?_)
          go_simp; (with_reducible refine (K1.out _).mono ?_); rintro e w4 ⟨rfl, hx4⟩; have hy4 := (Ext.rf wr).dr.tr hx4
          refine hK.out _ _ hy4 (fun hS => ?_)
          clear hK K
          (try simp only [Act.put, List.setIfInBounds_toArray, List.set_cons_zero, List.set_cons_succ])
          refine take_op 3 (v := ?_) rfl (by kernel_rfl) (by kernel_rfl) (by kernel_rfl) (Or.inl ⟨by rfl, ?_⟩) (by assumption) ?_
          rotate_left 1
          · (intro W hS; go_simp; try with_reducible rfl)
          (try simp only [Act.put, List.setIfInBounds_toArray, List.set_cons_zero, List.set_cons_succ])
          refine take_op 4 (v := ?_) rfl (by kernel_rfl) (by kernel_rfl) (by kernel_rfl) (Or.inl ⟨by rfl, ?_⟩) (by assumption) ?_
          rotate_left 1
          · (intro W hS; go_simp; try with_reducible rfl)
          (try simp only [Act.put, List.setIfInBounds_toArray, List.set_cons_zero, List.set_cons_succ])
          refine do_op 10 rfl (by kernel_rfl) (fun K hK => ?_)
          go_simp; (with_reducible refine (K2.out _).mono ?_); rintro e w5 ⟨rfl, hx5⟩; have hy5 := hy4.tr hx5
          refine hK.out _ _ hy5 (fun hS => ?_)
          clear hK K
          (try simp only [Act.put, List.setIfInBounds_toArray, List.set_cons_zero, List.set_cons_succ])
          refine take_op 11 (v := ?_) rfl (by kernel_rfl) (by kernel_rfl) (by kernel_rfl) (Or.inl ⟨by rfl, ?_⟩) (by assumption) ?_
          rotate_left 1
          · (intro W hS; go_simp; try with_reducible rfl)
          (try simp only [Act.put, List.setIfInBounds_toArray, List.set_cons_zero, List.set_cons_succ])
          refine take_op 12 (v := ?_) rfl (by kernel_rfl) (by kernel_rfl) (by kernel_rfl) (Or.inl ⟨by rfl, ?_⟩) (by assumption) ?_
          rotate_left 1
          · (intro W hS; go_simp; try with_reducible rfl)
          (try simp only [Act.put, List.setIfInBounds_toArray, List.set_cons_zero, List.set_cons_succ])
          refine do_op 18 rfl (by kernel_rfl) (fun K hK => ?_)
          go_simp; (with_reducible refine (K3.out _).mono ?_); rintro e w6 ⟨rfl, hx6⟩; have hy6 := hy5.tr hx6
          refine hK.out _ _ hy6 (fun hS => ?_)
          clear hK K
          (try simp only [Act.put, List.setIfInBounds_toArray, List.set_cons_zero, List.set_cons_succ])
          refine take_op 19 (v := ?_) rfl (by kernel_rfl) (by kernel_rfl) (by kernel_rfl) (Or.inl ⟨by rfl, ?_⟩) (by assumption) ?_
          rotate_left 1
          · (intro W hS; go_simp; try with_reducible rfl)
          (try simp only [Act.put, List.setIfInBounds_toArray, List.set_cons_zero, List.set_cons_succ])
          refine take_op 20 (v := ?_) rfl (by kernel_rfl) (by kernel_rfl) (by kernel_rfl) (Or.inl ⟨by rfl, ?_⟩) (by assumption) ?_
          rotate_left 1
          · (intro W hS; go_simp; try with_reducible rfl)
          (try simp only [Act.put, List.setIfInBounds_toArray, List.set_cons_zero, List.set_cons_succ])
          refine take_op 21 (v := ?_) rfl (by kernel_rfl) (by kernel_rfl) (by kernel_rfl) (Or.inl ⟨by rfl, ?_⟩) (by assumption) ?_
          rotate_left 1
          · (intro W hS; go_simp; try with_reducible rfl)
          (try simp only [Act.put, List.setIfInBounds_toArray, List.set_cons_zero, List.set_cons_succ])
          refine wpAnyH_done (by kernel_rfl) ?_ _
          refine NoPanic.normal ?_
          go_wp2_with fail
          go_roundw
          case rel => exact ⟨k + 1, by omega, by go_num, by rw [HF.out], HXQ.out.tr hy6⟩
          case measure => simp [intOf]; omega
    · obtain rfl : k = l.length := by omega
      go_wp2_with fail
      go_ret
      exact ⟨rfl, hext⟩
end Go.Proofs.YtkdnbnkbnegckaaDoor
