/- Decimal digits: instr.Digits. -/
import Derived.Test.YtkdnbnkbnegckaaGreatDoorData
import Derived.Test.YtkdnbnkbnegckaaGreatDoorShelf
import Derived.Laws.DeepNot64
import Derived.Deep.DeepCutAuto
namespace Go.Proofs.YtkdnbnkbnegckaaGreatDoor
open Go.RowKit

theorem below_putRow {α : Type} [Inhabited α] (enc : α → Value) (w : World) (n blk off B : Nat) (d : Array α) (h : B ≤ blk) : Below B w (Sort.putRow enc (Sort.ahead w n) blk off d) := by
  refine ⟨rfl, rfl, rfl, ?_, fun k hk => ?_⟩
  · simp [Sort.putRow, Sort.mapBlock, Sort.ahead]
  · simp only [Sort.putRow, Sort.mapBlock, Sort.ahead, Array.getElem?_modify]
    rw [if_neg (by omega)]

/-- slices.Reverse on a row of bytes of the call's own. -/
theorem bytes_Reverse {w0 : World} (g cap : Nat) (l : List UInt8) (w : World) (hown : w.ownsRow w0.heap.size 5 1 (.slice (some ⟨g, 0, none⟩) l.length cap) l.length (l.map byteC)) (hx : Ext w0 w) (hl : l.length ≤ 9223372036854775807) :
    Calls Tryz.prog 75 #[.slice (some ⟨g, 0, none⟩) l.length cap] w fun e w' => e = .returned (.tuple #[]) ∧ Cells w' (some ⟨g, 0, none⟩) (l.reverse.map byteC) ∧ Ext w0 w' := by
  obtain ⟨hlen, ⟨h1, -⟩ | ⟨g', cap', cur, hv, hg, hh, hn, hm, hs, ht⟩⟩ := hown
  · cases h1
  · simp only [Value.slice.injEq, Option.some.injEq, Addr.mk.injEq, and_true, true_and] at hv
    obtain ⟨rfl, rfl⟩ := hv
    have hH : Sort.Holds byteC w g 0 l.toArray := fun j hj => by
      have hj' : j < l.length := by simpa using hj
      refine ⟨?_, frozen_of_row w g _ cur _ hh⟩
      rw [Nat.zero_add, cell_of_row w g j cur _ _ hh]
      have e : (cur.toList.take (l.length * 1))[j]? = (l.map byteC)[j]? := by rw [ht]
      rw [List.getElem?_take, if_pos (by omega)] at e
      rw [← Array.getElem?_toList, e]
      simp [hj']
    refine (Tryz.slices_Reverse byteC (fun _ => rfl) g 0 cap l w hH hl).mono ?_
    rintro e w' ⟨rfl, n, rfl⟩
    refine ⟨rfl, ⟨fun _ => ⟨_, _, rfl⟩, fun b off e2 j u hu => ?_⟩, hx.b.trans (below_putRow byteC w n g 0 w0.heap.size _ hg)⟩
    simp only [Option.some.injEq, Addr.mk.injEq, and_true] at e2
    obtain ⟨rfl, rfl⟩ := e2
    have hj : j < l.length := by simpa using (List.getElem?_eq_some_iff.1 hu).1
    rw [Sort.cell?_putRow byteC (Sort.ahead w n) g 0 l.toArray l.reverse.toArray (Sort.holds_ahead byteC w n g 0 _ hH) (by simp) j (by simpa using hj)]
    rw [← hu]
    simp [hj]

-- PRINTED by gen/mkdigits.py

set_option maxHeartbeats 2000000 in
set_option maxRecDepth 20000 in
theorem instr_Digits_nn (N : Nat) (w : World) (h2 : N ≤ 9223372036854775807) : Calls Tryz.prog 48 #[.int .i64 ((N : Int))] w fun e w' => e = .returned (.string (strB (decB ((N : Int))))) ∧ Ext w w' := by
  have HL := Lib.hid (digN_len (m := N) (by omega))
  have HD : Hid (decB ((N : Int)) = digN N) := by rw [Hid, decB_nn (by omega)]; congr 1
  have HN : Hid (digN N = (revDig N).reverse) := rfl
  go_enter Tryz.func48, Tryz.ntmps48
  go_wp2_with fail
  go_loopg [3, 4] (2 * N + 1) (fun k u x wr => ∃ (m : Nat) (done : List UInt8), x = .int .i64 ((m : Int)) ∧ m ≤ N ∧ Hid (revDig N = done ++ restD m done) ∧ wr.ownsRow w.heap.size 5 1 u done.length (done.map byteC) ∧ Ext w wr ∧ done.length ≤ 19 ∧ measD m done ≤ k)
  case atStart => exact ⟨N, [], rfl, Nat.le_refl _, Lib.hid (by simp [restD]), World.ownsRow_nil _ _ _ _, Ext.rf w, by simp, by simp [measD]⟩
  case round =>
    obtain ⟨m, done, rfl, hmN, hdone, hown, hext, hlen, hk⟩ := hrel
    by_cases hst : m = 0 ∧ done ≠ []
    · obtain ⟨rfl, hne⟩ := hst
      have HF : Hid (revDig N = done) := by rw [Hid, hdone.out, restD_end ⟨rfl, hne⟩, List.append_nil]
      have hpos : 0 < done.length := List.length_pos_iff.2 hne
      have t1 : ((done.length : Int) == 0) = false := beq_eq_false_iff_ne.2 (by omega)
      have t2 : (done.length == 0) = false := beq_eq_false_iff_ne.2 (by omega)
      obtain ⟨g, cap, rfl⟩ := own_some hown hpos
      have HO := Lib.hid hown
      clear hne hown
      have t3 : decide ((N : Int) < 0) = false := decide_eq_false (by omega)
      have HD2 : Hid (done.reverse = decB (N : Int)) := by rw [Hid, HD.out, HN.out, HF.out]
      have hl2 : done.length ≤ 9223372036854775807 := by omega
      have HE := Lib.hid hext
      have HO2 := HO
      clear hext
      go_wp2_with fail
      refine (bytes_Reverse (w0 := w) g cap done _ HO2.out HE.out hl2).mono ?_
      rintro e w2 ⟨rfl, hc2, hx2⟩
      have hcv := run_bytes_string (P := Tryz.prog) (src := 83) (dst := 9) (cap := cap) done.length (by simp) Tryz.underlying83 Tryz.underlying5 Tryz.underlying9 hc2
      change _ = Result.ok (Value.string (strB done.reverse)) _ at hcv
      rw [HD2.out] at hcv
      clear hc2
      go_wp2_with fail
      go_ret
      exact ⟨rfl, hx2⟩
    · have HS := Lib.hid (restD_step hst)
      have hr10 : m % 10 < 10 := Nat.mod_lt _ (by decide)
      have hms := measD_step hst
      have HL2 : Hid (done.length + 1 ≤ 19) := by
        show done.length + 1 ≤ 19
        have := HL.out
        rw [HN.out, List.length_reverse, hdone.out, HS.out] at this
        simp only [List.length_append, List.length_cons] at this
        omega
      have hq : (m : Int) / 10 = ((m / 10 : Nat) : Int) := by omega
      have hr : (m : Int) % 10 = ((m % 10 : Nat) : Int) := by omega
      have HB := Lib.hid (dig8_nat hr10)
      have hqm : m / 10 ≤ m := Nat.div_le_self _ _
      have hw8 : IntKind.u8.wrap ((48 : Int) + (m % 10 : Nat)) = 48 + (m % 10 : Nat) := by rw [IntKind.wrap_u8]; omega
      have t0 : ((m : Int) != 0) = (m != 0) := by rw [Bool.eq_iff_iff]; simp
      have hm1 : m = 0 → done = [] := fun h => Classical.byContradiction fun h2 => hst ⟨h, h2⟩
      generalize m / 10 = q at *
      generalize m % 10 = r at *
      have hrI : (0 : Int) ≤ r := by omega
      have hmax : max (r : Int) (-(r : Int)) = r := by omega
      have hmax2 : max (-(r : Int)) (r : Int) = r := by omega
      have HD2 : Hid (revDig N = (done ++ [dig8 r]) ++ restD q (done ++ [dig8 r])) := by rw [Hid, hdone.out, HS.out]; simp
      obtain ⟨ro, rc, rfl⟩ := own_form hown
      clear hdone HS
      have HM := Lib.hid (hms (dig8 r))
      have HM1 := Lib.hid hm1
      have hk' := Lib.hid hk
      clear hms hm1 hk hst
      by_cases hm0 : m = 0
      all_goals
        first
        | (have z1 : ((m : Int) != 0) = false := by simp [hm0]
           have z6 : ((-(m : Int)) != 0) = false := by simp [hm0]
           have z2 : ((done.length : Int) == 0) = true := by rw [HM1.out hm0]; rfl
           have z3 : (done.length == 0) = true := by rw [HM1.out hm0]; rfl
           have z4 : (m != 0) = false := by simp [hm0]
           have z5 := Lib.hid hm0)
        | (have z1 : ((m : Int) != 0) = true := by simp [hm0]
           have z6 : ((-(m : Int)) != 0) = true := by simp [hm0]
           have z4 : (m != 0) = true := by simp [hm0]
           have z5 := Lib.hid hm0)
        clear hm0
        go_wp2_with (at_builtin; (refine wpList_push rfl (.tmp 15) (.tmp 24) 83 rfl w.heap.size 5 5 (.int .u8 0) 1 1 Tryz.underlying83 (by kernel_rfl) rfl (by decide) _ done.length _ [.int .u8 (48 + (r : Int))] rfl hown _ rfl (by simp) rfl (by simp [Value.oneCell']) (by unfold maxLen; omega) (by omega) hext.size ?_; intro v' w1 hown1 hgr; have hext1 := hext.push hown (Nat.le_refl _) hgr; clear hgr hown hext))
        go_roundg (measD q (done ++ [dig8 r]))
        case measure => have h1 := hk'.out; have h2 := HM.out; omega
        case rel => exact ⟨q, done ++ [dig8 r], by go_num, by omega, HD2, by rw [List.length_append, List.map_append]; have e : [dig8 r].map byteC = [Value.int .u8 (48 + (r : Int))] := (by simp only [List.map_cons, List.map_nil, byteC, HB.out]; rfl); rw [e]; exact hown1, hext1, by simpa using HL2.out, Nat.le_refl _⟩

set_option maxHeartbeats 2000000 in
set_option maxRecDepth 20000 in
theorem instr_Digits_neg (N : Nat) (w : World) (h0 : 0 < N) (h2 : N ≤ 9223372036854775808) : Calls Tryz.prog 48 #[.int .i64 (-(N : Int))] w fun e w' => e = .returned (.string (strB (decB (-(N : Int))))) ∧ Ext w w' := by
  have HL := Lib.hid (digN_len (m := N) (by omega))
  have HD : Hid (decB (-(N : Int)) = 45 :: digN N) := by rw [Hid, decB_neg (by omega)]; congr 2; omega
  have HN : Hid (digN N = (revDig N).reverse) := rfl
  go_enter Tryz.func48, Tryz.ntmps48
  go_wp2_with fail
  go_loopg [3, 4] (2 * N + 1) (fun k u x wr => ∃ (m : Nat) (done : List UInt8), x = .int .i64 (-(m : Int)) ∧ m ≤ N ∧ Hid (revDig N = done ++ restD m done) ∧ wr.ownsRow w.heap.size 5 1 u done.length (done.map byteC) ∧ Ext w wr ∧ done.length ≤ 19 ∧ measD m done ≤ k)
  case atStart => exact ⟨N, [], rfl, Nat.le_refl _, Lib.hid (by simp [restD]), World.ownsRow_nil _ _ _ _, Ext.rf w, by simp, by simp [measD]⟩
  case round =>
    obtain ⟨m, done, rfl, hmN, hdone, hown, hext, hlen, hk⟩ := hrel
    by_cases hst : m = 0 ∧ done ≠ []
    · obtain ⟨rfl, hne⟩ := hst
      have HF : Hid (revDig N = done) := by rw [Hid, hdone.out, restD_end ⟨rfl, hne⟩, List.append_nil]
      have hpos : 0 < done.length := List.length_pos_iff.2 hne
      have t1 : ((done.length : Int) == 0) = false := beq_eq_false_iff_ne.2 (by omega)
      have t2 : (done.length == 0) = false := beq_eq_false_iff_ne.2 (by omega)
      obtain ⟨g, cap, rfl⟩ := own_some hown hpos
      have HO := Lib.hid hown
      clear hne hown
      have t3 : decide (-(N : Int) < 0) = true := decide_eq_true (by omega)
      have t4 : decide (0 < N) = true := decide_eq_true h0
      go_upto_region 7 with fail
      have hown := HO.out
      go_wp2_with (at_builtin; (refine wpList_push rfl (.tmp 28) (.tmp 29) 83 rfl w.heap.size 5 5 (.int .u8 0) 1 1 Tryz.underlying83 (by kernel_rfl) rfl (by decide) _ done.length _ [.int .u8 45] rfl hown _ rfl (by simp) rfl (by simp [Value.oneCell']) (by unfold maxLen; omega) (by omega) hext.size ?_; intro v' w1 hown1 hgr; have hext1 := hext.push hown (Nat.le_refl _) hgr; clear hgr hown hext))
      have hown2 : w1.ownsRow w.heap.size 5 1 v' (done ++ [45]).length ((done ++ [45]).map byteC) := by simpa [byteC] using hown1
      obtain ⟨g2, cap2, rfl⟩ := own_some hown2 (by simp)
      have HD2 : Hid ((done ++ [45]).reverse = decB (-(N : Int))) := by rw [Hid, HD.out, HN.out, HF.out]; simp
      have hl2 : (done ++ [45]).length ≤ 9223372036854775807 := by simp; omega
      have hlen2 : (done ++ [45]).length = done.length + 1 := by simp
      have HE := Lib.hid hext1
      have HO2 := Lib.hid hown2
      clear hown1 hown2 hext1
      generalize done ++ [45] = D at *
      have HL3 := Lib.hid hlen2
      clear hlen2
      refine (bytes_Reverse (w0 := w) g2 cap2 D _ HO2.out HE.out hl2).mono ?_
      rintro e w2 ⟨rfl, hc2, hx2⟩
      have hcv := run_bytes_string (P := Tryz.prog) (src := 83) (dst := 9) (cap := cap2) D.length (by simp) Tryz.underlying83 Tryz.underlying5 Tryz.underlying9 hc2
      change _ = Result.ok (Value.string (strB D.reverse)) _ at hcv
      rw [HD2.out] at hcv
      clear hc2
      go_wp2_with fail
      go_ret
      exact ⟨rfl, hx2⟩
    · have HS := Lib.hid (restD_step hst)
      have hr10 : m % 10 < 10 := Nat.mod_lt _ (by decide)
      have hms := measD_step hst
      have HL2 : Hid (done.length + 1 ≤ 19) := by
        show done.length + 1 ≤ 19
        have := HL.out
        rw [HN.out, List.length_reverse, hdone.out, HS.out] at this
        simp only [List.length_append, List.length_cons] at this
        omega
      have hq := tdiv10 m
      have hr := tmod10 m
      have HB := Lib.hid (dig8_nat hr10)
      have hqm : m / 10 ≤ m := Nat.div_le_self _ _
      have hw8 : IntKind.u8.wrap ((48 : Int) + (m % 10 : Nat)) = 48 + (m % 10 : Nat) := by rw [IntKind.wrap_u8]; omega
      have t0 : ((m : Int) != 0) = (m != 0) := by rw [Bool.eq_iff_iff]; simp
      have hm1 : m = 0 → done = [] := fun h => Classical.byContradiction fun h2 => hst ⟨h, h2⟩
      generalize m / 10 = q at *
      generalize m % 10 = r at *
      have hrI : (0 : Int) ≤ r := by omega
      have hmax : max (r : Int) (-(r : Int)) = r := by omega
      have hmax2 : max (-(r : Int)) (r : Int) = r := by omega
      have HD2 : Hid (revDig N = (done ++ [dig8 r]) ++ restD q (done ++ [dig8 r])) := by rw [Hid, hdone.out, HS.out]; simp
      obtain ⟨ro, rc, rfl⟩ := own_form hown
      clear hdone HS
      have HM := Lib.hid (hms (dig8 r))
      have HM1 := Lib.hid hm1
      have hk' := Lib.hid hk
      clear hms hm1 hk hst
      by_cases hm0 : m = 0
      all_goals
        first
        | (have z1 : ((m : Int) != 0) = false := by simp [hm0]
           have z6 : ((-(m : Int)) != 0) = false := by simp [hm0]
           have z2 : ((done.length : Int) == 0) = true := by rw [HM1.out hm0]; rfl
           have z3 : (done.length == 0) = true := by rw [HM1.out hm0]; rfl
           have z4 : (m != 0) = false := by simp [hm0]
           have z5 := Lib.hid hm0)
        | (have z1 : ((m : Int) != 0) = true := by simp [hm0]
           have z6 : ((-(m : Int)) != 0) = true := by simp [hm0]
           have z4 : (m != 0) = true := by simp [hm0]
           have z5 := Lib.hid hm0)
        clear hm0
        go_wp2_with (at_builtin; (refine wpList_push rfl (.tmp 15) (.tmp 24) 83 rfl w.heap.size 5 5 (.int .u8 0) 1 1 Tryz.underlying83 (by kernel_rfl) rfl (by decide) _ done.length _ [.int .u8 (48 + (r : Int))] rfl hown _ rfl (by simp) rfl (by simp [Value.oneCell']) (by unfold maxLen; omega) (by omega) hext.size ?_; intro v' w1 hown1 hgr; have hext1 := hext.push hown (Nat.le_refl _) hgr; clear hgr hown hext))
        go_roundg (measD q (done ++ [dig8 r]))
        case measure => have h1 := hk'.out; have h2 := HM.out; omega
        case rel => exact ⟨q, done ++ [dig8 r], by go_num, by omega, HD2, by rw [List.length_append, List.map_append]; have e : [dig8 r].map byteC = [Value.int .u8 (48 + (r : Int))] := (by simp only [List.map_cons, List.map_nil, byteC, HB.out]; rfl); rw [e]; exact hown1, hext1, by simpa using HL2.out, Nat.le_refl _⟩

theorem instr_Digits (n : Int) (w : World) (h1 : -9223372036854775808 ≤ n) (h2 : n ≤ 9223372036854775807) : Calls Tryz.prog 48 #[.int .i64 n] w fun e w' => e = .returned (.string (strB (decB n))) ∧ Ext w w' := by
  by_cases h : n < 0
  · obtain ⟨m, rfl⟩ : ∃ m : Nat, n = -(m : Int) := ⟨n.natAbs, by omega⟩
    exact instr_Digits_neg m w (by omega) (by omega)
  · obtain ⟨m, rfl⟩ := Int.eq_ofNat_of_zero_le (show 0 ≤ n by omega)
    exact instr_Digits_nn m w (by omega)
end Go.Proofs.YtkdnbnkbnegckaaGreatDoor
