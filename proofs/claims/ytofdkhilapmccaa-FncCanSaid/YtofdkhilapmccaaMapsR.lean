/- Tables of sets: whether they may be; a node's slots. -/
import Derived.Test.YtofdkhilapmccaaSetZ
import Derived.Test.YtofdkhilapmccaaTreeU
namespace Go.Proofs.Ytofdkhilapmccaa
open Go.RowKit

def belowS (n : Int) (s : SetT) : Bool := insideS s (rangeS 0 n)
def rightMaps (l : List SetT) (n : Int) : Bool := l.all (belowS n) && decide (l.length ≤ 2000)

set_option maxHeartbeats 1000000 in
set_option maxRecDepth 20000 in
theorem slots_Below (s : SetT) (n : Int) (w : World) (hs : Set64 s) (hn : -9223372036854775808 ≤ n) :
    Calls Try.prog 188 #[.agg #[.int .u64 s.a, .int .u64 s.b, .int .u64 s.c, .int .u64 s.d], .int .i64 n] w fun e w' => e = .returned (.bool (belowS n s)) ∧ Ext w w' := by
  have HS := Lib.hid hs
  have HB : Hid (belowS n s = insideS s (rangeS 0 n)) := rfl
  have HR := Lib.hid (rangeS_64 0 n)
  clear hs
  go_enter Try.func188, Try.ntmps188
  go_upto_region 1 with fail
  obtain ⟨hx0, hz0, hcA⟩ := one_box w ([.int .u64 s.a, .int .u64 s.b, .int .u64 s.c, .int .u64 s.d] : List Value) 43
  generalize hW1 : w.alloc (.cells ([.int .u64 s.a, .int .u64 s.b, .int .u64 s.c, .int .u64 s.d] : List Value).toArray 43) = W1 at *
  clear hW1
  have c0 : W1.cell? ⟨w.heap.size, 0, none⟩ = some (.int .u64 s.a) := by have := hcA.cell _ _ rfl 0 _ rfl; rwa [Nat.zero_add] at this
  have c1 : W1.cell? ⟨w.heap.size, 1, none⟩ = some (.int .u64 s.b) := by have := hcA.cell _ _ rfl 1 _ rfl; rwa [Nat.zero_add] at this
  have c2 : W1.cell? ⟨w.heap.size, 2, none⟩ = some (.int .u64 s.c) := by have := hcA.cell _ _ rfl 2 _ rfl; rwa [Nat.zero_add] at this
  have c3 : W1.cell? ⟨w.heap.size, 3, none⟩ = some (.int .u64 s.d) := by have := hcA.cell _ _ rfl 3 _ rfl; rwa [Nat.zero_add] at this
  clear hcA
  have HX0 := Lib.hid hx0
  clear hx0
  refine wp_region_ext (fun W => Ext W1 W) (by kernel_rfl) ((Ext.rf _).dr) (fun hS0 => ?_)
  refine take_op 0 (v := ?_) rfl (by kernel_rfl) (by kernel_rfl) (by kernel_rfl) (Or.inl ⟨by rfl, ?_⟩) (by assumption) ?_
  rotate_left 1
  · (intro W hS; have c0 := hS.has c0; have c1 := hS.has c1; have c2 := hS.has c2; have c3 := hS.has c3; go_simp; try with_reducible rfl)
  (try simp only [Act.put, List.setIfInBounds_toArray, List.set_cons_zero, List.set_cons_succ])
  refine take_op 1 (v := ?_) rfl (by kernel_rfl) (by kernel_rfl) (by kernel_rfl) (Or.inl ⟨by rfl, ?_⟩) (by assumption) ?_
  rotate_left 1
  · (intro W hS; go_simp; try with_reducible rfl)
  (try simp only [Act.put, List.setIfInBounds_toArray, List.set_cons_zero, List.set_cons_succ])
  refine do_op 2 rfl (by kernel_rfl) (fun K hK => ?_)
  go_simp; (with_reducible refine (slots_Range 0 n _ (by omega) hn).mono ?_); rintro e w3 ⟨rfl, hx3⟩; have hy3 := (Ext.rf W1).dr.tr hx3
  refine hK.out _ _ hy3 (fun hS => ?_)
  clear hK K
  (try simp only [Act.put, List.setIfInBounds_toArray, List.set_cons_zero, List.set_cons_succ])
  refine do_op 3 rfl (by kernel_rfl) (fun K hK => ?_)
  go_simp; (with_reducible refine (slots_Inside s (rangeS 0 n) _ HS.out HR.out).mono ?_); rintro e w4 ⟨rfl, hx4⟩; have hy4 := hy3.tr hx4
  refine hK.out _ _ hy4 (fun hS => ?_)
  clear hK K
  (try simp only [Act.put, List.setIfInBounds_toArray, List.set_cons_zero, List.set_cons_succ])
  refine take_op 4 (v := ?_) rfl (by kernel_rfl) (by kernel_rfl) (by kernel_rfl) (Or.inl ⟨by rfl, ?_⟩) (by assumption) ?_
  rotate_left 1
  · (intro W hS; go_simp; try with_reducible rfl)
  (try simp only [Act.put, List.setIfInBounds_toArray, List.set_cons_zero, List.set_cons_succ])
  refine wpAnyH_done (by kernel_rfl) ?_ _
  refine NoPanic.normal ?_
  go_wp2_with fail
  go_ret
  exact ⟨by rw [HB.out] <;> rfl, HX0.out.tr hy4⟩

theorem rightMaps_not {l : List SetT} {n : Int} {k : Nat} (hk : k < l.length) (h : belowS n l[k] = false) : rightMaps l n = false := by
  rw [rightMaps, Bool.and_eq_false_iff]; left
  rw [← Bool.not_eq_true, List.all_eq_true]
  intro q
  have := q l[k] (List.getElem_mem hk)
  rw [h] at this; cases this

set_option maxHeartbeats 1000000 in
set_option maxRecDepth 20000 in
theorem maps_Right (ao : Option Addr) (cap : Nat) (l : List SetT) (n : Int) (w : World) (hc : Cells w ao (l.flatMap setC)) (hl : l.length ≤ 17592186044416) (hv : ∀ s ∈ l, Set64 s) (hn : -9223372036854775808 ≤ n) :
    Calls Try.prog 160 #[.slice ao l.length cap, .int .i64 n] w fun e w' => e = .returned (.bool (rightMaps l n)) ∧ Ext w w' := by
  have HV := Lib.hid hv
  clear hv
  go_enter Try.func160, Try.ntmps160
  go_wp2_with fail
  go_loopw [9] (fun i wr => ∃ k : Nat, k ≤ l.length ∧ i = .int .i64 k ∧ Ext w wr ∧ Hid ((l.take k).all (belowS n) = true))
    (fun i _ => l.length - (intOf i).toNat)
  case atStart => exact ⟨0, Nat.zero_le _, rfl, Ext.rf w, Lib.hid (by simp)⟩
  case round =>
    obtain ⟨k, hk, rfl, hext, hall⟩ := hrel
    by_cases hlt : k < l.length
    · obtain ⟨b, off, rfl, hcl⟩ := (hc.ext hext).flat (enc := setC) (size := 4) (fun _ => rfl) hlt (by decide)
      have HS : Hid ((l.take (k + 1)).all (belowS n) = ((l.take k).all (belowS n) && belowS n l[k])) := by rw [Hid, List.take_succ_eq_append_getElem hlt, List.all_append]; simp
      have HM : Hid (belowS n l[k] = false → rightMaps l n = false) := rightMaps_not hlt
      have H64 := Lib.hid (HV.out l[k] (List.getElem_mem hlt))
      generalize l[k] = s at *
      have e0 : wr.cell? ⟨b, off + k * 4, none⟩ = some (.int .u64 s.a) := by exact hcl 0 _ rfl
      have e1 : wr.cell? ⟨b, off + k * 4 + 1, none⟩ = some (.int .u64 s.b) := by rw [Nat.add_assoc]; exact hcl 1 _ rfl
      have e2 : wr.cell? ⟨b, off + k * 4 + 2, none⟩ = some (.int .u64 s.c) := by rw [Nat.add_assoc]; exact hcl 2 _ rfl
      have e3 : wr.cell? ⟨b, off + k * 4 + 3, none⟩ = some (.int .u64 s.d) := by rw [Nat.add_assoc]; exact hcl 3 _ rfl
      clear hcl
      go_wp2_with fail
      refine (slots_Below s n _ H64.out hn).mono ?_
      rintro e w1 ⟨rfl, hx1⟩
      have HX := Lib.hid ((hext.al _).tr hx1)
      clear hx1 e0 e1 e2 e3
      cases hp : belowS n s with
      | false =>
        have HR := Lib.hid (HM.out hp)
        clear hp
        go_wp2_with fail
        go_ret
        exact ⟨by rw [HR.out] <;> rfl, HX.out⟩
      | true =>
        have HA : Hid ((l.take (k + 1)).all (belowS n) = true) := by rw [Hid, HS.out, hall.out, hp]; rfl
        clear hp
        go_wp2_with fail
        go_roundw
        case rel => exact ⟨k + 1, by omega, by go_num, HX.out, HA⟩
        case measure => simp [intOf]; omega
    · obtain rfl : k = l.length := by omega
      rw [List.take_of_length_le (Nat.le_refl _)] at hall
      have HR : Hid (rightMaps l n = decide (l.length ≤ 2000)) := by rw [Hid, rightMaps, hall.out, Bool.true_and]
      cases t1 : decide (l.length ≤ 2000) with
      | true =>
        have t2 : decide ((l.length : Int) ≤ 2000) = true := decide_eq_true (by have := of_decide_eq_true t1; omega)
        rw [t1] at HR
        clear t1
        go_wp2_with fail
        go_ret
        exact ⟨by rw [HR.out] <;> rfl, hext⟩
      | false =>
        have t2 : decide ((l.length : Int) ≤ 2000) = false := decide_eq_false (by have := of_decide_eq_false t1; omega)
        rw [t1] at HR
        clear t1
        go_wp2_with fail
        go_ret
        exact ⟨by rw [HR.out] <;> rfl, hext⟩

set_option maxHeartbeats 1000000 in
set_option maxRecDepth 20000 in
theorem mapsref_Right (ao : Option Addr) (cap : Nat) (l : List SetT) (n : Int) (w : World) (hc : Cells w ao (l.flatMap setC)) (hl : l.length ≤ 17592186044416) (hv : ∀ s ∈ l, Set64 s) (hn : -9223372036854775808 ≤ n) :
    Calls Try.prog 162 #[.slice ao l.length cap, .int .i64 n] w fun e w' => e = .returned (.bool (rightMaps l n)) ∧ Ext w w' := by
  have HV := Lib.hid hv
  have HR64 := Lib.hid (rangeS_64 0 n)
  clear hv
  go_enter Try.func162, Try.ntmps162
  go_wp2_with fail
  go_loopw [5] (fun i wr => ∃ k : Nat, k ≤ l.length ∧ i = .int .i64 k ∧ Ext w wr ∧ Hid ((l.take k).all (belowS n) = true))
    (fun i _ => l.length - (intOf i).toNat)
  case atStart => exact ⟨0, Nat.zero_le _, rfl, Ext.rf w, Lib.hid (by simp)⟩
  case round =>
    obtain ⟨k, hk, rfl, hext, hall⟩ := hrel
    by_cases hlt : k < l.length
    · obtain ⟨b, off, rfl, hcl⟩ := (hc.ext hext).flat (enc := setC) (size := 4) (fun _ => rfl) hlt (by decide)
      have HS : Hid ((l.take (k + 1)).all (belowS n) = ((l.take k).all (belowS n) && belowS n l[k])) := by rw [Hid, List.take_succ_eq_append_getElem hlt, List.all_append]; simp
      have HM : Hid (belowS n l[k] = false → rightMaps l n = false) := rightMaps_not hlt
      have H64 := Lib.hid (HV.out l[k] (List.getElem_mem hlt))
      have i1 : (0 : Int) ≤ k := by omega
      have i2 : (k : Int) < l.length := by omega
      generalize l[k] = s at *
      have e0 : wr.cell? ⟨b, off + k * 4, none⟩ = some (.int .u64 s.a) := by exact hcl 0 _ rfl
      have e1 : wr.cell? ⟨b, off + k * 4 + 1, none⟩ = some (.int .u64 s.b) := by rw [Nat.add_assoc]; exact hcl 1 _ rfl
      have e2 : wr.cell? ⟨b, off + k * 4 + 2, none⟩ = some (.int .u64 s.c) := by rw [Nat.add_assoc]; exact hcl 2 _ rfl
      have e3 : wr.cell? ⟨b, off + k * 4 + 3, none⟩ = some (.int .u64 s.d) := by rw [Nat.add_assoc]; exact hcl 3 _ rfl
      have HB : Hid (belowS n s = insideS s (rangeS 0 n)) := rfl
      clear hcl
      go_upto_region 4 with fail
      refine wp_region_ext (fun W => Ext wr W) (by kernel_rfl) ((Ext.rf _).dr) (fun hS0 => ?_)
      refine take_op 0 (v := ?_) rfl (by kernel_rfl) (by kernel_rfl) (by kernel_rfl) (Or.inl ⟨by rfl, ?_⟩) (by assumption) ?_
      rotate_left 1
      · (intro W hS; go_simp; try with_reducible rfl)
      (try simp only [Act.put, List.setIfInBounds_toArray, List.set_cons_zero, List.set_cons_succ])
      refine take_op 1 (v := ?_) rfl (by kernel_rfl) (by kernel_rfl) (by kernel_rfl) (Or.inl ⟨by rfl, ?_⟩) (by assumption) ?_
      rotate_left 1
      · (intro W hS; go_simp; try with_reducible rfl)
      (try simp only [Act.put, List.setIfInBounds_toArray, List.set_cons_zero, List.set_cons_succ])
      refine take_op 2 (v := ?_) rfl (by kernel_rfl) (by kernel_rfl) (by kernel_rfl) (Or.inl ⟨by rfl, ?_⟩) (by assumption) ?_
      rotate_left 1
      · (intro W hS; go_simp; try with_reducible rfl)
      (try simp only [Act.put, List.setIfInBounds_toArray, List.set_cons_zero, List.set_cons_succ])
      refine take_op 3 (v := ?_) rfl (by kernel_rfl) (by kernel_rfl) (by kernel_rfl) (Or.inl ⟨by rfl, ?_⟩) (by assumption) ?_
      rotate_left 1
      · (intro W hS; have e0 := hS.has e0; have e1 := hS.has e1; have e2 := hS.has e2; have e3 := hS.has e3; go_simp; try with_reducible rfl)
      (try simp only [Act.put, List.setIfInBounds_toArray, List.set_cons_zero, List.set_cons_succ])
      refine take_op 4 (v := ?_) rfl (by kernel_rfl) (by kernel_rfl) (by kernel_rfl) (Or.inl ⟨by rfl, ?_⟩) (by assumption) ?_
      rotate_left 1
      · (intro W hS; go_simp; try with_reducible rfl)
      (try simp only [Act.put, List.setIfInBounds_toArray, List.set_cons_zero, List.set_cons_succ])
      refine do_op 5 rfl (by kernel_rfl) (fun K hK => ?_)
      go_simp; (with_reducible refine (setref_Range 0 n _ (by omega) hn).mono ?_); rintro e w3 ⟨rfl, hx3⟩; have hy3 := (Ext.rf wr).dr.tr hx3
      refine hK.out _ _ hy3 (fun hS => ?_)
      clear hK K
      (try simp only [Act.put, List.setIfInBounds_toArray, List.set_cons_zero, List.set_cons_succ])
      refine do_op 6 rfl (by kernel_rfl) (fun K hK => ?_)
      go_simp; (with_reducible refine (setref_Inside s (rangeS 0 n) _ H64.out HR64.out).mono ?_); rintro e w4 ⟨rfl, hx4⟩; have hy4 := hy3.tr hx4
      refine hK.out _ _ hy4 (fun hS => ?_)
      clear hK K
      (try simp only [Act.put, List.setIfInBounds_toArray, List.set_cons_zero, List.set_cons_succ])
      refine take_op 7 (v := ?_) rfl (by kernel_rfl) (by kernel_rfl) (by kernel_rfl) (Or.inl ⟨by rfl, ?_⟩) (by assumption) ?_
      rotate_left 1
      · (intro W hS; go_simp; try with_reducible rfl)
      (try simp only [Act.put, List.setIfInBounds_toArray, List.set_cons_zero, List.set_cons_succ])
      refine wpAnyH_done (by kernel_rfl) ?_ _
      refine NoPanic.normal ?_
      rw [← HB.out]
      have HX := Lib.hid (hext.tr hy4)
      clear hy4 hx4 hx3 hy3 e0 e1 e2 e3 hext
      cases hp : belowS n s with
      | false =>
        have HR := Lib.hid (HM.out hp)
        clear hp
        go_wp2_with fail
        go_ret
        exact ⟨by rw [HR.out] <;> rfl, HX.out⟩
      | true =>
        have HA : Hid ((l.take (k + 1)).all (belowS n) = true) := by rw [Hid, HS.out, hall.out, hp]; rfl
        clear hp
        go_wp2_with fail
        go_roundw
        case rel => exact ⟨k + 1, by omega, by go_num, HX.out, HA⟩
        case measure => simp [intOf]; omega
    · obtain rfl : k = l.length := by omega
      rw [List.take_of_length_le (Nat.le_refl _)] at hall
      have HR : Hid (rightMaps l n = decide (l.length ≤ 2000)) := by rw [Hid, rightMaps, hall.out, Bool.true_and]
      cases t1 : decide (l.length ≤ 2000) with
      | true =>
        have t2 : decide ((l.length : Int) ≤ 2000) = true := decide_eq_true (by have := of_decide_eq_true t1; omega)
        rw [t1] at HR
        clear t1
        go_wp2_with fail
        go_ret
        exact ⟨by rw [HR.out] <;> rfl, hext⟩
      | false =>
        have t2 : decide ((l.length : Int) ≤ 2000) = false := decide_eq_false (by have := of_decide_eq_false t1; omega)
        rw [t1] at HR
        clear t1
        go_wp2_with fail
        go_ret
        exact ⟨by rw [HR.out] <;> rfl, hext⟩
end Go.Proofs.Ytofdkhilapmccaa
