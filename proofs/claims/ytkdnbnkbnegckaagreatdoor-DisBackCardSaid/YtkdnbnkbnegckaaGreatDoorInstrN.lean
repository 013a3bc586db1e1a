/- Decimal digits: instr.Digits. The number that a text is, in plain Lean; the walks of instr.Number and of its reference. -/
import Derived.Test.YtkdnbnkbnegckaaGreatDoorCurW
import Derived.Test.YtkdnbnkbnegckaaGreatDoorShelf
import Derived.Laws.DeepNot64
import Derived.Deep.DeepCutAuto
import Derived.Test.YtkdnbnkbnegckaaGreatDoorOpsW
namespace Go.Proofs.YtkdnbnkbnegckaaGreatDoor
open Go.RowKit

theorem below_putRow {α : Type} [Inhabited α] (enc : α → Value) (w : World) (n blk off B : Nat) (d : Array α) (h : B ≤ blk) : Below B w (Sort.putRow enc (Sort.ahead w n) blk off d) := by
  refine ⟨rfl, rfl, rfl, ?_, fun k hk => ?_⟩
  · simp [Sort.putRow, Sort.mapBlock, Sort.ahead]
  · simp only [Sort.putRow, Sort.mapBlock, Sort.ahead, Array.getElem?_modify]
    rw [if_neg (by omega)]

/-- slices.Reverse on a row of bytes of the call's own. -/
theorem bytes_Reverse {w0 : World} (g cap : Nat) (l : List UInt8) (w : World) (hown : w.ownsRow w0.heap.size 5 1 (.slice (some ⟨g, 0, none⟩) l.length cap) l.length (l.map byteC)) (hx : Ext w0 w) (hl : l.length ≤ 9223372036854775807) :
    Calls Tryz.prog 75 #[.slice (some ⟨g, 0, none⟩) l.length cap] w fun e w' => e = .returned (.tuple #[]) ∧ Cells w' (some ⟨g, 0, none⟩) (l.reverse.map byteC) ∧ Ext w0 w' := by
  obtain ⟨hlen, ⟨h1, -⟩ | ⟨g', cap', cur, hv, hg, hh, hn, hm, hs, ht⟩⟩ := hown
  · cases h1
  · simp only [Value.slice.injEq, Option.some.injEq, Addr.mk.injEq, and_true, true_and] at hv
    obtain ⟨rfl, rfl⟩ := hv
    have hH : Sort.Holds byteC w g 0 l.toArray := fun j hj => by
      have hj' : j < l.length := by simpa using hj
      refine ⟨?_, frozen_of_row w g _ cur _ hh⟩
      rw [Nat.zero_add, cell_of_row w g j cur _ _ hh]
      have e : (cur.toList.take (l.length * 1))[j]? = (l.map byteC)[j]? := by rw [ht]
      rw [List.getElem?_take, if_pos (by omega)] at e
      rw [← Array.getElem?_toList, e]
      simp [hj']
    refine (Tryz.slices_Reverse byteC (fun _ => rfl) g 0 cap l w hH hl).mono ?_
    rintro e w' ⟨rfl, n, rfl⟩
    refine ⟨rfl, ⟨fun _ => ⟨_, _, rfl⟩, fun b off e2 j u hu => ?_⟩, hx.b.trans (below_putRow byteC w n g 0 w0.heap.size _ hg)⟩
    simp only [Option.some.injEq, Addr.mk.injEq, and_true] at e2
    obtain ⟨rfl, rfl⟩ := e2
    have hj : j < l.length := by simpa using (List.getElem?_eq_some_iff.1 hu).1
    rw [Sort.cell?_putRow byteC (Sort.ahead w n) g 0 l.toArray l.reverse.toArray (Sort.holds_ahead byteC w n g 0 _ hH) (by simp) j (by simpa using hj)]
    rw [← hu]
    simp [hj]

-- PRINTED by gen/mkdigits.py

set_option maxHeartbeats 2000000 in
set_option maxRecDepth 20000 in
theorem instr_Digits_nn (N : Nat) (w : World) (h2 : N ≤ 9223372036854775807) : Calls Tryz.prog 48 #[.int .i64 ((N : Int))] w fun e w' => e = .returned (.string (strB (decB ((N : Int))))) ∧ Ext w w' := by
  have HL := Lib.hid (digN_len (m := N) (by omega))
  have HD : Hid (decB ((N : Int)) = digN N) := by rw [Hid, decB_nn (by omega)]; congr 1
  have HN : Hid (digN N = (revDig N).reverse) := rfl
  go_enter Tryz.func48, Tryz.ntmps48
  go_wp2_with fail
  go_loopg [3, 4] (2 * N + 1) (fun k u x wr => ∃ (m : Nat) (done : List UInt8), x = .int .i64 ((m : Int)) ∧ m ≤ N ∧ Hid (revDig N = done ++ restD m done) ∧ wr.ownsRow w.heap.size 5 1 u done.length (done.map byteC) ∧ Ext w wr ∧ done.length ≤ 19 ∧ measD m done ≤ k)
  case atStart => exact ⟨N, [], rfl, Nat.le_refl _, Lib.hid (by simp [restD]), World.ownsRow_nil _ _ _ _, Ext.rf w, by simp, by simp [measD]⟩
  case round =>
    obtain ⟨m, done, rfl, hmN, hdone, hown, hext, hlen, hk⟩ := hrel
    by_cases hst : m = 0 ∧ done ≠ []
    · obtain ⟨rfl, hne⟩ := hst
      have HF : Hid (revDig N = done) := by rw [Hid, hdone.out, restD_end ⟨rfl, hne⟩, List.append_nil]
      have hpos : 0 < done.length := List.length_pos_iff.2 hne
      have t1 : ((done.length : Int) == 0) = false := beq_eq_false_iff_ne.2 (by omega)
      have t2 : (done.length == 0) = false := beq_eq_false_iff_ne.2 (by omega)
      obtain ⟨g, cap, rfl⟩ := own_some hown hpos
      have HO := Lib.hid hown
      clear hne hown
      have t3 : decide ((N : Int) < 0) = false := decide_eq_false (by omega)
      have HD2 : Hid (done.reverse = decB (N : Int)) := by rw [Hid, HD.out, HN.out, HF.out]
      have hl2 : done.length ≤ 9223372036854775807 := by omega
      have HE := Lib.hid hext
      have HO2 := HO
      clear hext
      go_wp2_with fail
      refine (bytes_Reverse (w0 := w) g cap done _ HO2.out HE.out hl2).mono ?_
      rintro e w2 ⟨rfl, hc2, hx2⟩
      have hcv := run_bytes_string (P := Tryz.prog) (src := 83) (dst := 9) (cap := cap) done.length (by simp) Tryz.underlying83 Tryz.underlying5 Tryz.underlying9 hc2
      change _ = Result.ok (Value.string (strB done.reverse)) _ at hcv
      rw [HD2.out] at hcv
      clear hc2
      go_wp2_with fail
      go_ret
      exact ⟨rfl, hx2⟩
    · have HS := Lib.hid (restD_step hst)
      have hr10 : m % 10 < 10 := Nat.mod_lt _ (by decide)
      have hms := measD_step hst
      have HL2 : Hid (done.length + 1 ≤ 19) := by
        show done.length + 1 ≤ 19
        have := HL.out
        rw [HN.out, List.length_reverse, hdone.out, HS.out] at this
        simp only [List.length_append, List.length_cons] at this
        omega
      have hq : (m : Int) / 10 = ((m / 10 : Nat) : Int) := by omega
      have hr : (m : Int) % 10 = ((m % 10 : Nat) : Int) := by omega
      have HB := Lib.hid (dig8_nat hr10)
      have hqm : m / 10 ≤ m := Nat.div_le_self _ _
      have hw8 : IntKind.u8.wrap ((48 : Int) + (m % 10 : Nat)) = 48 + (m % 10 : Nat) := by rw [IntKind.wrap_u8]; omega
      have t0 : ((m : Int) != 0) = (m != 0) := by rw [Bool.eq_iff_iff]; simp
      have hm1 : m = 0 → done = [] := fun h => Classical.byContradiction fun h2 => hst ⟨h, h2⟩
      generalize m / 10 = q at *
      generalize m % 10 = r at *
      have hrI : (0 : Int) ≤ r := by omega
      have hmax : max (r : Int) (-(r : Int)) = r := by omega
      have hmax2 : max (-(r : Int)) (r : Int) = r := by omega
      have HD2 : Hid (revDig N = (done ++ [dig8 r]) ++ restD q (done ++ [dig8 r])) := by rw [Hid, hdone.out, HS.out]; simp
      obtain ⟨ro, rc, rfl⟩ := own_form hown
      clear hdone HS
      have HM := Lib.hid (hms (dig8 r))
      have HM1 := Lib.hid hm1
      have hk' := Lib.hid hk
      clear hms hm1 hk hst
      by_cases hm0 : m = 0
      all_goals
        first
        | (have z1 : ((m : Int) != 0) = false := by simp [hm0]
           have z6 : ((-(m : Int)) != 0) = false := by simp [hm0]
           have z2 : ((done.length : Int) == 0) = true := by rw [HM1.out hm0]; rfl
           have z3 : (done.length == 0) = true := by rw [HM1.out hm0]; rfl
           have z4 : (m != 0) = false := by simp [hm0]
           have z5 := Lib.hid hm0)
        | (have z1 : ((m : Int) != 0) = true := by simp [hm0]
           have z6 : ((-(m : Int)) != 0) = true := by simp [hm0]
           have z4 : (m != 0) = true := by simp [hm0]
           have z5 := Lib.hid hm0)
        clear hm0
        go_wp2_with (at_builtin; (refine wpList_push rfl (.tmp 15) (.tmp 24) 83 rfl w.heap.size 5 5 (.int .u8 0) 1 1 Tryz.underlying83 (by kernel_rfl) rfl (by decide) _ done.length _ [.int .u8 (48 + (r : Int))] rfl hown _ rfl (by simp) rfl (by simp [Value.oneCell']) (by unfold maxLen; omega) (by omega) hext.size ?_; intro v' w1 hown1 hgr; have hext1 := hext.push hown (Nat.le_refl _) hgr; clear hgr hown hext))
        go_roundg (measD q (done ++ [dig8 r]))
        case measure => have h1 := hk'.out; have h2 := HM.out; omega
        case rel => exact ⟨q, done ++ [dig8 r], by go_num, by omega, HD2, by rw [List.length_append, List.map_append]; have e : [dig8 r].map byteC = [Value.int .u8 (48 + (r : Int))] := (by simp only [List.map_cons, List.map_nil, byteC, HB.out]; rfl); rw [e]; exact hown1, hext1, by simpa using HL2.out, Nat.le_refl _⟩

set_option maxHeartbeats 2000000 in
set_option maxRecDepth 20000 in
theorem instr_Digits_neg (N : Nat) (w : World) (h0 : 0 < N) (h2 : N ≤ 9223372036854775808) : Calls Tryz.prog 48 #[.int .i64 (-(N : Int))] w fun e w' => e = .returned (.string (strB (decB (-(N : Int))))) ∧ Ext w w' := by
  have HL := Lib.hid (digN_len (m := N) (by omega))
  have HD : Hid (decB (-(N : Int)) = 45 :: digN N) := by rw [Hid, decB_neg (by omega)]; congr 2; omega
  have HN : Hid (digN N = (revDig N).reverse) := rfl
  go_enter Tryz.func48, Tryz.ntmps48
  go_wp2_with fail
  go_loopg [3, 4] (2 * N + 1) (fun k u x wr => ∃ (m : Nat) (done : List UInt8), x = .int .i64 (-(m : Int)) ∧ m ≤ N ∧ Hid (revDig N = done ++ restD m done) ∧ wr.ownsRow w.heap.size 5 1 u done.length (done.map byteC) ∧ Ext w wr ∧ done.length ≤ 19 ∧ measD m done ≤ k)
  case atStart => exact ⟨N, [], rfl, Nat.le_refl _, Lib.hid (by simp [restD]), World.ownsRow_nil _ _ _ _, Ext.rf w, by simp, by simp [measD]⟩
  case round =>
    obtain ⟨m, done, rfl, hmN, hdone, hown, hext, hlen, hk⟩ := hrel
    by_cases hst : m = 0 ∧ done ≠ []
    · obtain ⟨rfl, hne⟩ := hst
      have HF : Hid (revDig N = done) := by rw [Hid, hdone.out, restD_end ⟨rfl, hne⟩, List.append_nil]
      have hpos : 0 < done.length := List.length_pos_iff.2 hne
      have t1 : ((done.length : Int) == 0) = false := beq_eq_false_iff_ne.2 (by omega)
      have t2 : (done.length == 0) = false := beq_eq_false_iff_ne.2 (by omega)
      obtain ⟨g, cap, rfl⟩ := own_some hown hpos
      have HO := Lib.hid hown
      clear hne hown
      have t3 : decide (-(N : Int) < 0) = true := decide_eq_true (by omega)
      have t4 : decide (0 < N) = true := decide_eq_true h0
      go_upto_region 7 with fail
      have hown := HO.out
      go_wp2_with (at_builtin; (refine wpList_push rfl (.tmp 28) (.tmp 29) 83 rfl w.heap.size 5 5 (.int .u8 0) 1 1 Tryz.underlying83 (by kernel_rfl) rfl (by decide) _ done.length _ [.int .u8 45] rfl hown _ rfl (by simp) rfl (by simp [Value.oneCell']) (by unfold maxLen; omega) (by omega) hext.size ?_; intro v' w1 hown1 hgr; have hext1 := hext.push hown (Nat.le_refl _) hgr; clear hgr hown hext))
      have hown2 : w1.ownsRow w.heap.size 5 1 v' (done ++ [45]).length ((done ++ [45]).map byteC) := by simpa [byteC] using hown1
      obtain ⟨g2, cap2, rfl⟩ := own_some hown2 (by simp)
      have HD2 : Hid ((done ++ [45]).reverse = decB (-(N : Int))) := by rw [Hid, HD.out, HN.out, HF.out]; simp
      have hl2 : (done ++ [45]).length ≤ 9223372036854775807 := by simp; omega
      have hlen2 : (done ++ [45]).length = done.length + 1 := by simp
      have HE := Lib.hid hext1
      have HO2 := Lib.hid hown2
      clear hown1 hown2 hext1
      generalize done ++ [45] = D at *
      have HL3 := Lib.hid hlen2
      clear hlen2
      refine (bytes_Reverse (w0 := w) g2 cap2 D _ HO2.out HE.out hl2).mono ?_
      rintro e w2 ⟨rfl, hc2, hx2⟩
      have hcv := run_bytes_string (P := Tryz.prog) (src := 83) (dst := 9) (cap := cap2) D.length (by simp) Tryz.underlying83 Tryz.underlying5 Tryz.underlying9 hc2
      change _ = Result.ok (Value.string (strB D.reverse)) _ at hcv
      rw [HD2.out] at hcv
      clear hc2
      go_wp2_with fail
      go_ret
      exact ⟨rfl, hx2⟩
    · have HS := Lib.hid (restD_step hst)
      have hr10 : m % 10 < 10 := Nat.mod_lt _ (by decide)
      have hms := measD_step hst
      have HL2 : Hid (done.length + 1 ≤ 19) := by
        show done.length + 1 ≤ 19
        have := HL.out
        rw [HN.out, List.length_reverse, hdone.out, HS.out] at this
        simp only [List.length_append, List.length_cons] at this
        omega
      have hq := tdiv10 m
      have hr := tmod10 m
      have HB := Lib.hid (dig8_nat hr10)
      have hqm : m / 10 ≤ m := Nat.div_le_self _ _
      have hw8 : IntKind.u8.wrap ((48 : Int) + (m % 10 : Nat)) = 48 + (m % 10 : Nat) := by rw [IntKind.wrap_u8]; omega
      have t0 : ((m : Int) != 0) = (m != 0) := by rw [Bool.eq_iff_iff]; simp
      have hm1 : m = 0 → done = [] := fun h => Classical.byContradiction fun h2 => hst ⟨h, h2⟩
      generalize m / 10 = q at *
      generalize m % 10 = r at *
      have hrI : (0 : Int) ≤ r := by omega
      have hmax : max (r : Int) (-(r : Int)) = r := by omega
      have hmax2 : max (-(r : Int)) (r : Int) = r := by omega
      have HD2 : Hid (revDig N = (done ++ [dig8 r]) ++ restD q (done ++ [dig8 r])) := by rw [Hid, hdone.out, HS.out]; simp
      obtain ⟨ro, rc, rfl⟩ := own_form hown
      clear hdone HS
      have HM := Lib.hid (hms (dig8 r))
      have HM1 := Lib.hid hm1
      have hk' := Lib.hid hk
      clear hms hm1 hk hst
      by_cases hm0 : m = 0
      all_goals
        first
        | (have z1 : ((m : Int) != 0) = false := by simp [hm0]
           have z6 : ((-(m : Int)) != 0) = false := by simp [hm0]
           have z2 : ((done.length : Int) == 0) = true := by rw [HM1.out hm0]; rfl
           have z3 : (done.length == 0) = true := by rw [HM1.out hm0]; rfl
           have z4 : (m != 0) = false := by simp [hm0]
           have z5 := Lib.hid hm0)
        | (have z1 : ((m : Int) != 0) = true := by simp [hm0]
           have z6 : ((-(m : Int)) != 0) = true := by simp [hm0]
           have z4 : (m != 0) = true := by simp [hm0]
           have z5 := Lib.hid hm0)
        clear hm0
        go_wp2_with (at_builtin; (refine wpList_push rfl (.tmp 15) (.tmp 24) 83 rfl w.heap.size 5 5 (.int .u8 0) 1 1 Tryz.underlying83 (by kernel_rfl) rfl (by decide) _ done.length _ [.int .u8 (48 + (r : Int))] rfl hown _ rfl (by simp) rfl (by simp [Value.oneCell']) (by unfold maxLen; omega) (by omega) hext.size ?_; intro v' w1 hown1 hgr; have hext1 := hext.push hown (Nat.le_refl _) hgr; clear hgr hown hext))
        go_roundg (measD q (done ++ [dig8 r]))
        case measure => have h1 := hk'.out; have h2 := HM.out; omega
        case rel => exact ⟨q, done ++ [dig8 r], by go_num, by omega, HD2, by rw [List.length_append, List.map_append]; have e : [dig8 r].map byteC = [Value.int .u8 (48 + (r : Int))] := (by simp only [List.map_cons, List.map_nil, byteC, HB.out]; rfl); rw [e]; exact hown1, hext1, by simpa using HL2.out, Nat.le_refl _⟩

theorem instr_Digits (n : Int) (w : World) (h1 : -9223372036854775808 ≤ n) (h2 : n ≤ 9223372036854775807) : Calls Tryz.prog 48 #[.int .i64 n] w fun e w' => e = .returned (.string (strB (decB n))) ∧ Ext w w' := by
  by_cases h : n < 0
  · obtain ⟨m, rfl⟩ : ∃ m : Nat, n = -(m : Int) := ⟨n.natAbs, by omega⟩
    exact instr_Digits_neg m w (by omega) (by omega)
  · obtain ⟨m, rfl⟩ := Int.eq_ofNat_of_zero_le (show 0 ≤ n by omega)
    exact instr_Digits_nn m w (by omega)
end Go.Proofs.YtkdnbnkbnegckaaGreatDoor
namespace Go.Proofs.YtkdnbnkbnegckaaGreatDoor
open Go.RowKit

def isDig (b : UInt8) : Bool := decide (48 ≤ b.toNat) && decide (b.toNat ≤ 57)
def digW (sg : Int) (l : List UInt8) (n : Int) : Int := l.foldl (fun n b => wrap64 (10 * n + sg * ((b.toNat : Int) - 48))) n
def negN (s : List UInt8) : Bool := match s with
  | 45 :: _ => true
  | _ => false
def restN (s : List UInt8) : List UInt8 := if negN s = true then s.tail else s
def sgN (s : List UInt8) : Int := if negN s = true then -1 else 1
/-- The number that a text is, or why it is none. -/
def numN (s : List UInt8) : Int × Int :=
  if restN s ≠ [] ∧ (restN s).all isDig = true ∧ s.length ≤ 20 ∧ decB (digW (sgN s) (restN s) 0) = s then (digW (sgN s) (restN s) 0, 0) else (0, 5)

theorem numN_ok {s : List UInt8} (h : restN s ≠ [] ∧ (restN s).all isDig = true ∧ s.length ≤ 20 ∧ decB (digW (sgN s) (restN s) 0) = s) : numN s = (digW (sgN s) (restN s) 0, 0) := if_pos h
theorem numN_bad {s : List UInt8} (h : ¬ (restN s ≠ [] ∧ (restN s).all isDig = true ∧ s.length ≤ 20 ∧ decB (digW (sgN s) (restN s) 0) = s)) : numN s = (0, 5) := if_neg h
theorem negN_iff (s : List UInt8) : negN s = true ↔ s.head? = some 45 := by
  cases s with
  | nil => simp [negN]
  | cons b t =>
    by_cases h : b = 45
    · subst h; simp [negN]
    · simp only [List.head?_cons, Option.some.injEq, h, iff_false]
      unfold negN; split
      · rename_i h2; simp at h2; exact absurd h2.1 h
      · decide
theorem has45 (s : List UInt8) : Lib.hasPrefix s [45] = negN s := by
  cases h : negN s with
  | true =>
    rw [negN_iff] at h
    cases s with
    | nil => simp at h
    | cons b t => simp at h; subst h; simp [Lib.hasPrefix]
  | false =>
    have h2 : ¬ s.head? = some 45 := fun e => by rw [(negN_iff s).2 e] at h; cases h
    cases s with
    | nil => simp [Lib.hasPrefix]
    | cons b t => simp at h2; simp [Lib.hasPrefix, List.isPrefixOf, Ne.symm h2]
theorem trim45 (s : List UInt8) : Lib.trimPrefix s [45] = restN s := by
  unfold Lib.trimPrefix restN
  rw [has45]
  cases negN s <;> simp
theorem wrap64_bd (n : Int) : -9223372036854775808 ≤ wrap64 n ∧ wrap64 n ≤ 9223372036854775807 := by unfold wrap64; omega
theorem digW_bd (sg : Int) (l : List UInt8) : ∀ n, (-9223372036854775808 ≤ n ∧ n ≤ 9223372036854775807) → -9223372036854775808 ≤ digW sg l n ∧ digW sg l n ≤ 9223372036854775807 := by
  induction l with
  | nil => intro n h; exact h
  | cons b l ih => intro n _; exact ih _ (wrap64_bd _)
theorem digW_snoc (sg : Int) (l : List UInt8) (b : UInt8) (n : Int) : digW sg (l ++ [b]) n = wrap64 (10 * digW sg l n + sg * ((b.toNat : Int) - 48)) := by
  unfold digW; rw [List.foldl_append]; rfl
theorem wrap64_two (a b : Int) : wrap64 (wrap64 a + b) = wrap64 (a + b) := by unfold wrap64; omega

theorem strB_toL (s : List UInt8) : (strB s).data.toList = s := by simp [strB]
theorem strB_nil (s : List UInt8) : ((strB s).toList == []) = decide (s = []) := by
  rw [ByteArray.toList_eq, strB_toL]; cases s <;> simp

set_option maxHeartbeats 1000000 in
set_option maxRecDepth 20000 in
theorem instr_Number (s : List UInt8) (w : World) (hl : s.length ≤ 9223372036854775807) : Calls Tryz.prog 19 #[.string (strB s)] w fun e w' => e = .returned (.tuple #[.int .i64 (numN s).1, .int .i64 (numN s).2]) ∧ Ext w w' := by
  have HP := Lib.hid (Tryz.strings_CutPrefix (strB s) ⟨#[45]⟩ w)
  rw [strB_toL, show (⟨#[45]⟩ : ByteArray).data.toList = [45] from rfl, trim45, has45] at HP
  have hRl : (restN s).length ≤ s.length := by unfold restN; split <;> simp
  have HB : Hid (∀ q, (restN s ≠ [] ∧ (restN s).all isDig = true ∧ s.length ≤ 20 ∧ decB q = s) → q = digW (sgN s) (restN s) 0 → numN s = (q, 0)) := fun q h1 h2 => by subst h2; exact numN_ok h1
  have HN : Hid (∀ q, q = digW (sgN s) (restN s) 0 → ¬ (restN s ≠ [] ∧ (restN s).all isDig = true ∧ s.length ≤ 20 ∧ decB q = s) → numN s = (0, 5)) := fun q h2 h1 => by subst h2; exact numN_bad h1
  have HSZ : Hid ((strB s).size = s.length) := strB_size s
  have HRZ : Hid ((strB (restN s)).size = (restN s).length) := strB_size _
  have hsg : sgN s = if negN s = true then -1 else 1 := rfl
  generalize numN s = V at *
  generalize restN s = R at *
  go_enter Tryz.func19, Tryz.ntmps19
  go_wp2_with fail
  refine HP.out.mono ?_
  rintro e w1 ⟨rfl, hw⟩
  have hw' := hw.symm
  subst hw'
  clear hw HP
  obtain ⟨sg, hsg2⟩ : ∃ sg, sg = sgN s := ⟨_, rfl⟩
  rw [← hsg2] at HB HN hsg
  go_upto_if 15 with fail
  have HSG := Lib.hid hsg
  clear hsg hsg2
  go_cut [4, 5, 6, 15] (fun r _ g _ wx => r = .string (strB R) ∧ g = .int .i64 sg ∧ wx = w)
  case first =>
    cases t1 : negN s with
    | true =>
      have hs2 : sg = -1 := by rw [HSG.out, t1]; rfl
      subst hs2
      go_wp2_with fail
      go_meet
      exact ⟨rfl, rfl, rfl⟩
    | false =>
      have hs2 : sg = 1 := by rw [HSG.out, t1]; rfl
      subst hs2
      go_wp2_with fail
      go_meet
      exact ⟨rfl, rfl, rfl⟩
  case rest =>
    obtain ⟨rfl, rfl, rfl⟩ := hcut
    clear HSG
    go_wp2_with fail
    go_loopw [7] (fun v wr => ∃ pos : Nat, v = .int .i64 (digW sg (R.take pos) 0) ∧ pos ≤ R.length ∧ wr.heap[wc.heap.size]? = some (.stringIter (strB R) pos) ∧ Ext wc wr ∧ Hid ((R.take pos).all isDig = true) ∧ (0 < pos → s.length ≤ 20))
      (fun _ wr => R.length - wr.iterPos wc.heap.size)
    case atStart => exact ⟨0, rfl, Nat.zero_le _, World.iter_heap _ _ 0, (Ext.rf wc).al _, Lib.hid (by simp), fun h => absurd h (by decide)⟩
    case round =>
      obtain ⟨pos, rfl, hpos, hk, hext, hall, h20⟩ := hrel
      have hip := iterPos_at hk
      by_cases hlt : pos < R.length
      · have hlz : pos < (strB R).size := by rw [HRZ.out]; exact hlt
        have hn := fun ty => Lib.run_next_any_at (P := Tryz.prog) wr wc.heap.size (strB R) pos ty hk hlz
        obtain ⟨c, d, hdec⟩ : ∃ c d, Utf8.decode (strB R) pos = (c, d) := ⟨_, _, rfl⟩
        have hca : R[pos].toNat < 128 → Utf8.decode (strB R) pos = (R[pos].toNat, 1) := decode_ascii (strB R) pos hlz
        have hch : 128 ≤ R[pos].toNat → 128 ≤ (Utf8.decode (strB R) pos).1 ∧ 1 ≤ (Utf8.decode (strB R) pos).2 := decode_high (strB R) pos hlz
        rw [hdec] at hca hch
        rw [hdec] at hn
        have HK2 := Lib.hid (Lib.iterAt_heap wr wc.heap.size (strB R) pos (pos + d) hk)
        have hext2 := hext.iterAt (Nat.le_refl _) (strB R) (pos + d)
        have HS1 : Hid (R.take (pos + 1) = R.take pos ++ [R[pos]]) := List.take_succ_eq_append_getElem hlt
        have hmem := List.getElem_mem hlt
        have HBA : Hid (isDig R[pos] = false → ∀ q, q = digW sg R 0 → V = (0, 5)) := fun h q hq => HN.out q hq (fun h2 => by
          have h3 : isDig R[pos] = true := List.all_eq_true.1 h2.2.1 _ hmem
          exact absurd (h.symm.trans h3) (by decide))
        generalize R[pos] = b at *
        generalize wr.iterAt wc.heap.size (strB R) (pos + d) = wi at *
        clear hdec hext hk hmem
        cases hd : isDig b with
        | true =>
          have hd2 := hd
          simp only [isDig, Bool.and_eq_true, decide_eq_true_eq] at hd2
          obtain ⟨e1, e2⟩ := hd2
          obtain ⟨rfl, rfl⟩ := Prod.mk.inj (hca (by omega))
          have t1 : decide ((b.toNat : Int) < 48) = false := decide_eq_false (by omega)
          have t2 : decide (57 < (b.toNat : Int)) = false := decide_eq_false (by omega)
          by_cases hl20 : s.length ≤ 20
          · have t3 : decide ((20 : Int) < (strB s).size) = false := decide_eq_false (by rw [HSZ.out]; omega)
            have HD : Hid (digW sg (R.take (pos + 1)) 0 = wrap64 (10 * digW sg (R.take pos) 0 + sg * ((b.toNat : Int) - 48))) := by rw [Hid, HS1.out, digW_snoc]
            have HA2 : Hid ((R.take (pos + 1)).all isDig = true) := by rw [Hid, HS1.out, List.all_append, hall.out]; simp [hd]
            clear hca hch hd
            go_wp2_with fail
            go_roundw
            case rel => exact ⟨pos + 1, by rw [HD.out, wrap64_two, Int.add_comm, wrap64_two, Int.add_comm], hlt, HK2.out, hext2, HA2, fun _ => hl20⟩
            case measure => rw [hip, iterPos_at HK2.out]; omega
          · have t3 : decide ((20 : Int) < (strB s).size) = true := decide_eq_true (by rw [HSZ.out]; omega)
            have HVV : Hid (V = (0, 5)) := HN.out _ rfl (fun h => hl20 h.2.2.1)
            clear hca hch hd
            go_wp2_with fail
            go_ret2
            exact ⟨by rw [HVV.out] <;> rfl, hext2⟩
        | false =>
          have HVV := Lib.hid (HBA.out hd _ rfl)
          have hcb : (c : Int) < 48 ∨ ¬ (c : Int) < 48 ∧ 57 < (c : Int) := by
            have : ¬ (48 ≤ b.toNat ∧ b.toNat ≤ 57) := by
              rintro ⟨h1, h2⟩
              rw [isDig, decide_eq_true h1, decide_eq_true h2] at hd; cases hd
            by_cases h128 : b.toNat < 128
            · obtain ⟨rfl, rfl⟩ := Prod.mk.inj (hca h128); omega
            · have := (hch (by omega)).1
              have h3 : 128 ≤ c := this
              omega
          clear hca hch hd HBA
          rcases hcb with h1 | ⟨h1, h2⟩
          · have t1 : decide ((c : Int) < 48) = true := decide_eq_true h1
            clear h1
            go_wp2_with fail
            go_ret2
            exact ⟨by rw [HVV.out] <;> rfl, hext2⟩
          · have t1 : decide ((c : Int) < 48) = false := decide_eq_false h1
            have t2 : decide (57 < (c : Int)) = true := decide_eq_true h2
            clear h1 h2
            go_wp2_with fail
            go_ret2
            exact ⟨by rw [HVV.out] <;> rfl, hext2⟩
      · obtain rfl : pos = R.length := by omega
        have hn := fun ty => Lib.run_next_end_at (P := Tryz.prog) wr wc.heap.size (strB R) R.length ty hk (by rw [HRZ.out]; exact Nat.lt_irrefl _)
        rw [List.take_of_length_le (Nat.le_refl _)] at *
        have HQ : Hid (∃ q, q = digW sg R 0) := ⟨_, rfl⟩
        obtain ⟨hb1, hb2⟩ := digW_bd sg R 0 ⟨by decide, by decide⟩
        have HBQ := Lib.hid (fun h => HB.out (digW sg R 0) h rfl)
        have HNQ := Lib.hid (HN.out (digW sg R 0) rfl)
        generalize digW sg R 0 = q at *
        have HSR := Lib.hid (strB_nil R)
        clear hk hip
        by_cases h0 : R = []
        · have t1 : ((strB R).toList == []) = true := by rw [HSR.out]; exact decide_eq_true h0
          have HVV := Lib.hid (HNQ.out (fun h => h.1 h0))
          clear h0
          go_wp2_with fail
          go_ret2
          exact ⟨by rw [HVV.out] <;> rfl, hext⟩
        · have t1 : ((strB R).toList == []) = false := by rw [HSR.out]; exact decide_eq_false h0
          have HL20 := Lib.hid (h20 (List.length_pos_iff.2 h0))
          have HS2 := Lib.hid (strEqL (decB q) s)
          have H0 := Lib.hid h0
          clear h0 h20
          by_cases hq : decB q = s
          · have t2 : ((strB (decB q)).toList == (strB s).toList) = true := by rw [HS2.out]; exact decide_eq_true hq
            have HVV := Lib.hid (HBQ.out ⟨H0.out, hall.out, HL20.out, hq⟩)
            clear hq
            go_wp2_with fail
            refine (instr_Digits q _ hb1 hb2).mono ?_
            rintro e w5 ⟨rfl, hx5⟩
            go_wp2_with fail
            go_ret2
            exact ⟨by rw [HVV.out] <;> rfl, hext.tr hx5⟩
          · have t2 : ((strB (decB q)).toList == (strB s).toList) = false := by rw [HS2.out]; exact decide_eq_false hq
            have HVV := Lib.hid (HNQ.out (fun h => hq h.2.2.2))
            clear hq
            go_wp2_with fail
            refine (instr_Digits q _ hb1 hb2).mono ?_
            rintro e w5 ⟨rfl, hx5⟩
            go_wp2_with fail
            go_ret2
            exact ⟨by rw [HVV.out] <;> rfl, hext.tr hx5⟩

end Go.Proofs.YtkdnbnkbnegckaaGreatDoor
