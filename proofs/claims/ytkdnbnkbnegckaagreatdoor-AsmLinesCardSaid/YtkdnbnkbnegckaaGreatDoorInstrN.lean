/- The number that a text is, in plain Lean; the walks of instr.Number and of its reference. -/
import Derived.Test.YtkdnbnkbnegckaaGreatDoorOpsW
import Derived.Test.YtkdnbnkbnegckaaGreatDoorDigI
import Derived.Test.YtkdnbnkbnegckaaGreatDoorShelf
namespace Go.Proofs.YtkdnbnkbnegckaaGreatDoor
open Go.RowKit

def isDig (b : UInt8) : Bool := decide (48 ≤ b.toNat) && decide (b.toNat ≤ 57)
def digW (sg : Int) (l : List UInt8) (n : Int) : Int := l.foldl (fun n b => wrap64 (10 * n + sg * ((b.toNat : Int) - 48))) n
def negN (s : List UInt8) : Bool := match s with
  | 45 :: _ => true
  | _ => false
def restN (s : List UInt8) : List UInt8 := if negN s = true then s.tail else s
def sgN (s : List UInt8) : Int := if negN s = true then -1 else 1
/-- The number that a text is, or why it is none. -/
def numN (s : List UInt8) : Int × Int :=
  if restN s ≠ [] ∧ (restN s).all isDig = true ∧ s.length ≤ 20 ∧ decB (digW (sgN s) (restN s) 0) = s then (digW (sgN s) (restN s) 0, 0) else (0, 5)

theorem numN_ok {s : List UInt8} (h : restN s ≠ [] ∧ (restN s).all isDig = true ∧ s.length ≤ 20 ∧ decB (digW (sgN s) (restN s) 0) = s) : numN s = (digW (sgN s) (restN s) 0, 0) := if_pos h
theorem numN_bad {s : List UInt8} (h : ¬ (restN s ≠ [] ∧ (restN s).all isDig = true ∧ s.length ≤ 20 ∧ decB (digW (sgN s) (restN s) 0) = s)) : numN s = (0, 5) := if_neg h
theorem negN_iff (s : List UInt8) : negN s = true ↔ s.head? = some 45 := by
  cases s with
  | nil => simp [negN]
  | cons b t =>
    by_cases h : b = 45
    · subst h; simp [negN]
    · simp only [List.head?_cons, Option.some.injEq, h, iff_false]
      unfold negN; split
      · rename_i h2; simp at h2; exact absurd h2.1 h
      · decide
theorem has45 (s : List UInt8) : Lib.hasPrefix s [45] = negN s := by
  cases h : negN s with
  | true =>
    rw [negN_iff] at h
    cases s with
    | nil => simp at h
    | cons b t => simp at h; subst h; simp [Lib.hasPrefix]
  | false =>
    have h2 : ¬ s.head? = some 45 := fun e => by rw [(negN_iff s).2 e] at h; cases h
    cases s with
    | nil => simp [Lib.hasPrefix]
    | cons b t => simp at h2; simp [Lib.hasPrefix, List.isPrefixOf, Ne.symm h2]
theorem trim45 (s : List UInt8) : Lib.trimPrefix s [45] = restN s := by
  unfold Lib.trimPrefix restN
  rw [has45]
  cases negN s <;> simp
theorem wrap64_bd (n : Int) : -9223372036854775808 ≤ wrap64 n ∧ wrap64 n ≤ 9223372036854775807 := by unfold wrap64; omega
theorem digW_bd (sg : Int) (l : List UInt8) : ∀ n, (-9223372036854775808 ≤ n ∧ n ≤ 9223372036854775807) → -9223372036854775808 ≤ digW sg l n ∧ digW sg l n ≤ 9223372036854775807 := by
  induction l with
  | nil => intro n h; exact h
  | cons b l ih => intro n _; exact ih _ (wrap64_bd _)
theorem digW_snoc (sg : Int) (l : List UInt8) (b : UInt8) (n : Int) : digW sg (l ++ [b]) n = wrap64 (10 * digW sg l n + sg * ((b.toNat : Int) - 48)) := by
  unfold digW; rw [List.foldl_append]; rfl
theorem wrap64_two (a b : Int) : wrap64 (wrap64 a + b) = wrap64 (a + b) := by unfold wrap64; omega

theorem strB_toL (s : List UInt8) : (strB s).data.toList = s := by simp [strB]
theorem strB_nil (s : List UInt8) : ((strB s).toList == []) = decide (s = []) := by
  rw [ByteArray.toList_eq, strB_toL]; cases s <;> simp

set_option maxHeartbeats 1000000 in
set_option maxRecDepth 20000 in
theorem instr_Number (s : List UInt8) (w : World) (hl : s.length ≤ 9223372036854775807) : Calls Tryz.prog 19 #[.string (strB s)] w fun e w' => e = .returned (.tuple #[.int .i64 (numN s).1, .int .i64 (numN s).2]) ∧ Ext w w' := by
  have HP := Lib.hid (Tryz.strings_CutPrefix (strB s) ⟨#[45]⟩ w)
  rw [strB_toL, show (⟨#[45]⟩ : ByteArray).data.toList = [45] from rfl, trim45, has45] at HP
  have hRl : (restN s).length ≤ s.length := by unfold restN; split <;> simp
  have HB : Hid (∀ q, (restN s ≠ [] ∧ (restN s).all isDig = true ∧ s.length ≤ 20 ∧ decB q = s) → q = digW (sgN s) (restN s) 0 → numN s = (q, 0)) := fun q h1 h2 => by subst h2; exact numN_ok h1
  have HN : Hid (∀ q, q = digW (sgN s) (restN s) 0 → ¬ (restN s ≠ [] ∧ (restN s).all isDig = true ∧ s.length ≤ 20 ∧ decB q = s) → numN s = (0, 5)) := fun q h2 h1 => by subst h2; exact numN_bad h1
  have HSZ : Hid ((strB s).size = s.length) := strB_size s
  have HRZ : Hid ((strB (restN s)).size = (restN s).length) := strB_size _
  have hsg : sgN s = if negN s = true then -1 else 1 := rfl
  generalize numN s = V at *
  generalize restN s = R at *
  go_enter Tryz.func19, Tryz.ntmps19
  go_wp2_with fail
  refine HP.out.mono ?_
  rintro e w1 ⟨rfl, hw⟩
  have hw' := hw.symm
  subst hw'
  clear hw HP
  obtain ⟨sg, hsg2⟩ : ∃ sg, sg = sgN s := ⟨_, rfl⟩
  rw [← hsg2] at HB HN hsg
  go_upto_if 15 with fail
  have HSG := Lib.hid hsg
  clear hsg hsg2
  go_cut [4, 5, 6, 15] (fun r _ g _ wx => r = .string (strB R) ∧ g = .int .i64 sg ∧ wx = w)
  case first =>
    cases t1 : negN s with
    | true =>
      have hs2 : sg = -1 := by rw [HSG.out, t1]; rfl
      subst hs2
      go_wp2_with fail
      go_meet
      exact ⟨rfl, rfl, rfl⟩
    | false =>
      have hs2 : sg = 1 := by rw [HSG.out, t1]; rfl
      subst hs2
      go_wp2_with fail
      go_meet
      exact ⟨rfl, rfl, rfl⟩
  case rest =>
    obtain ⟨rfl, rfl, rfl⟩ := hcut
    clear HSG
    go_wp2_with fail
    go_loopw [7] (fun v wr => ∃ pos : Nat, v = .int .i64 (digW sg (R.take pos) 0) ∧ pos ≤ R.length ∧ wr.heap[wc.heap.size]? = some (.stringIter (strB R) pos) ∧ Ext wc wr ∧ Hid ((R.take pos).all isDig = true) ∧ (0 < pos → s.length ≤ 20))
      (fun _ wr => R.length - wr.iterPos wc.heap.size)
    case atStart => exact ⟨0, rfl, Nat.zero_le _, World.iter_heap _ _ 0, (Ext.rf wc).al _, Lib.hid (by simp), fun h => absurd h (by decide)⟩
    case round =>
      obtain ⟨pos, rfl, hpos, hk, hext, hall, h20⟩ := hrel
      have hip := iterPos_at hk
      by_cases hlt : pos < R.length
      · have hlz : pos < (strB R).size := by rw [HRZ.out]; exact hlt
        have hn := fun ty => Lib.run_next_any_at (P := Tryz.prog) wr wc.heap.size (strB R) pos ty hk hlz
        obtain ⟨c, d, hdec⟩ : ∃ c d, Utf8.decode (strB R) pos = (c, d) := ⟨_, _, rfl⟩
        have hca : R[pos].toNat < 128 → Utf8.decode (strB R) pos = (R[pos].toNat, 1) := decode_ascii (strB R) pos hlz
        have hch : 128 ≤ R[pos].toNat → 128 ≤ (Utf8.decode (strB R) pos).1 ∧ 1 ≤ (Utf8.decode (strB R) pos).2 := decode_high (strB R) pos hlz
        rw [hdec] at hca hch
        rw [hdec] at hn
        have HK2 := Lib.hid (Lib.iterAt_heap wr wc.heap.size (strB R) pos (pos + d) hk)
        have hext2 := hext.iterAt (Nat.le_refl _) (strB R) (pos + d)
        have HS1 : Hid (R.take (pos + 1) = R.take pos ++ [R[pos]]) := List.take_succ_eq_append_getElem hlt
        have hmem := List.getElem_mem hlt
        have HBA : Hid (isDig R[pos] = false → ∀ q, q = digW sg R 0 → V = (0, 5)) := fun h q hq => HN.out q hq (fun h2 => by
          have h3 : isDig R[pos] = true := List.all_eq_true.1 h2.2.1 _ hmem
          exact absurd (h.symm.trans h3) (by decide))
        generalize R[pos] = b at *
        generalize wr.iterAt wc.heap.size (strB R) (pos + d) = wi at *
        clear hdec hext hk hmem
        cases hd : isDig b with
        | true =>
          have hd2 := hd
          simp only [isDig, Bool.and_eq_true, decide_eq_true_eq] at hd2
          obtain ⟨e1, e2⟩ := hd2
          obtain ⟨rfl, rfl⟩ := Prod.mk.inj (hca (by omega))
          have t1 : decide ((b.toNat : Int) < 48) = false := decide_eq_false (by omega)
          have t2 : decide (57 < (b.toNat : Int)) = false := decide_eq_false (by omega)
          by_cases hl20 : s.length ≤ 20
          · have t3 : decide ((20 : Int) < (strB s).size) = false := decide_eq_false (by rw [HSZ.out]; omega)
            have HD : Hid (digW sg (R.take (pos + 1)) 0 = wrap64 (10 * digW sg (R.take pos) 0 + sg * ((b.toNat : Int) - 48))) := by rw [Hid, HS1.out, digW_snoc]
            have HA2 : Hid ((R.take (pos + 1)).all isDig = true) := by rw [Hid, HS1.out, List.all_append, hall.out]; simp [hd]
            clear hca hch hd
            go_wp2_with fail
            go_roundw
            case rel => exact ⟨pos + 1, by rw [HD.out, wrap64_two, Int.add_comm, wrap64_two, Int.add_comm], hlt, HK2.out, hext2, HA2, fun _ => hl20⟩
            case measure => rw [hip, iterPos_at HK2.out]; omega
          · have t3 : decide ((20 : Int) < (strB s).size) = true := decide_eq_true (by rw [HSZ.out]; omega)
            have HVV : Hid (V = (0, 5)) := HN.out _ rfl (fun h => hl20 h.2.2.1)
            clear hca hch hd
            go_wp2_with fail
            go_ret2
            exact ⟨by rw [HVV.out] <;> rfl, hext2⟩
        | false =>
          have HVV := Lib.hid (HBA.out hd _ rfl)
          have hcb : (c : Int) < 48 ∨ ¬ (c : Int) < 48 ∧ 57 < (c : Int) := by
            have : ¬ (48 ≤ b.toNat ∧ b.toNat ≤ 57) := by
              rintro ⟨h1, h2⟩
              rw [isDig, decide_eq_true h1, decide_eq_true h2] at hd; cases hd
            by_cases h128 : b.toNat < 128
            · obtain ⟨rfl, rfl⟩ := Prod.mk.inj (hca h128); omega
            · have := (hch (by omega)).1
              have h3 : 128 ≤ c := this
              omega
          clear hca hch hd HBA
          rcases hcb with h1 | ⟨h1, h2⟩
          · have t1 : decide ((c : Int) < 48) = true := decide_eq_true h1
            clear h1
            go_wp2_with fail
            go_ret2
            exact ⟨by rw [HVV.out] <;> rfl, hext2⟩
          · have t1 : decide ((c : Int) < 48) = false := decide_eq_false h1
            have t2 : decide (57 < (c : Int)) = true := decide_eq_true h2
            clear h1 h2
            go_wp2_with fail
            go_ret2
            exact ⟨by rw [HVV.out] <;> rfl, hext2⟩
      · obtain rfl : pos = R.length := by omega
        have hn := fun ty => Lib.run_next_end_at (P := Tryz.prog) wr wc.heap.size (strB R) R.length ty hk (by rw [HRZ.out]; exact Nat.lt_irrefl _)
        rw [List.take_of_length_le (Nat.le_refl _)] at *
        have HQ : Hid (∃ q, q = digW sg R 0) := ⟨_, rfl⟩
        obtain ⟨hb1, hb2⟩ := digW_bd sg R 0 ⟨by decide, by decide⟩
        have HBQ := Lib.hid (fun h => HB.out (digW sg R 0) h rfl)
        have HNQ := Lib.hid (HN.out (digW sg R 0) rfl)
        generalize digW sg R 0 = q at *
        have HSR := Lib.hid (strB_nil R)
        clear hk hip
        by_cases h0 : R = []
        · have t1 : ((strB R).toList == []) = true := by rw [HSR.out]; exact decide_eq_true h0
          have HVV := Lib.hid (HNQ.out (fun h => h.1 h0))
          clear h0
          go_wp2_with fail
          go_ret2
          exact ⟨by rw [HVV.out] <;> rfl, hext⟩
        · have t1 : ((strB R).toList == []) = false := by rw [HSR.out]; exact decide_eq_false h0
          have HL20 := Lib.hid (h20 (List.length_pos_iff.2 h0))
          have HS2 := Lib.hid (strEqL (decB q) s)
          have H0 := Lib.hid h0
          clear h0 h20
          by_cases hq : decB q = s
          · have t2 : ((strB (decB q)).toList == (strB s).toList) = true := by rw [HS2.out]; exact decide_eq_true hq
            have HVV := Lib.hid (HBQ.out ⟨H0.out, hall.out, HL20.out, hq⟩)
            clear hq
            go_wp2_with fail
            refine (instr_Digits q _ hb1 hb2).mono ?_
            rintro e w5 ⟨rfl, hx5⟩
            go_wp2_with fail
            go_ret2
            exact ⟨by rw [HVV.out] <;> rfl, hext.tr hx5⟩
          · have t2 : ((strB (decB q)).toList == (strB s).toList) = false := by rw [HS2.out]; exact decide_eq_false hq
            have HVV := Lib.hid (HNQ.out (fun h => hq h.2.2.2))
            clear hq
            go_wp2_with fail
            refine (instr_Digits q _ hb1 hb2).mono ?_
            rintro e w5 ⟨rfl, hx5⟩
            go_wp2_with fail
            go_ret2
            exact ⟨by rw [HVV.out] <;> rfl, hext.tr hx5⟩

theorem restN_at (s : List UInt8) : s.length = (if negN s = true then 1 else 0) + (restN s).length ∧ ∀ k (h : k < (restN s).length), s[(if negN s = true then 1 else 0) + k]? = some (restN s)[k] := by
  cases h : negN s with
  | true =>
    rw [negN_iff] at h
    cases s with
    | nil => simp at h
    | cons b t =>
      have hn : negN (b :: t) = true := (negN_iff _).2 h
      have hr : restN (b :: t) = t := by simp [restN, hn]
      refine ⟨by rw [hr]; simp; omega, fun k hk => ?_⟩
      simp only [hr] at hk ⊢
      rw [if_pos trivial, Nat.add_comm, List.getElem?_cons_succ, List.getElem?_eq_getElem hk]
  | false =>
    have hr : restN s = s := by simp [restN, h]
    refine ⟨by rw [hr]; simp, fun k hk => ?_⟩
    simp only [hr] at hk ⊢
    simp [List.getElem?_eq_getElem hk]

set_option maxHeartbeats 1000000 in
set_option maxRecDepth 20000 in
theorem instrref_Number (s : List UInt8) (w : World) (hl : s.length ≤ 9223372036854775807) : Calls Tryz.prog 21 #[.string (strB s)] w fun e w' => e = .returned (.tuple #[.int .i64 (numN s).1, .int .i64 (numN s).2]) ∧ Ext w w' := by
  have HB : Hid (∀ q, (restN s ≠ [] ∧ (restN s).all isDig = true ∧ s.length ≤ 20 ∧ decB q = s) → q = digW (sgN s) (restN s) 0 → numN s = (q, 0)) := fun q h1 h2 => by subst h2; exact numN_ok h1
  have HN : Hid (∀ q, q = digW (sgN s) (restN s) 0 → ¬ (restN s ≠ [] ∧ (restN s).all isDig = true ∧ s.length ≤ 20 ∧ decB q = s) → numN s = (0, 5)) := fun q h2 h1 => by subst h2; exact numN_bad h1
  have HSZ : Hid ((strB s).size = s.length) := strB_size s
  obtain ⟨hRl, hRa⟩ := restN_at s
  have HRA := Lib.hid hRa
  have hsg : sgN s = if negN s = true then -1 else 1 := rfl
  have hneg := negN_iff s
  generalize numN s = V at *
  generalize restN s = R at *
  generalize sgN s = sg at *
  cases hn : negN s with
  | true =>
    obtain ⟨t, rfl⟩ : ∃ t, s = 45 :: t := by
      have h := hneg.1 hn
      cases s with
      | nil => simp at h
      | cons b t => simp at h; exact ⟨t, by rw [h]⟩
    rw [if_pos hn] at hRl hsg
    simp only [hn, if_true] at HRA
    subst hsg
    have HRL := Lib.hid hRl
    generalize hs : 45 :: t = s at *
    have t0 : decide ((0 : Int) < (strB s).size) = true := decide_eq_true (by rw [HSZ.out, ← hs]; simp)
    have z0 : 0 < (strB s).size := by rw [HSZ.out, ← hs]; simp
    have z1 : (((strB s)[0]'z0).toNat : Int) = 45 := by subst hs; rfl
    have z2 : ((((strB s)[0]'z0).toNat : Int) == 45) = true := by rw [z1]; rfl
    clear hRa hRl hneg hn hs z1
    go_enter Tryz.func21, Tryz.ntmps21
    go_wp2_with fail
    go_loop [4, 6] (fun n i => ∃ j : Nat, 1 ≤ j ∧ j ≤ s.length ∧ j ≤ 22 ∧ i = .int .i64 j ∧ n = .int .i64 (digW (-1) (R.take (j - 1)) 0) ∧ Hid ((R.take (j - 1)).all isDig = true))
      (fun _ i => 22 - (intOf i).toNat)
    case atStart => exact ⟨1, Nat.le_refl _, by have := HRL.out; omega, by decide, rfl, by simp [digW], Lib.hid (by simp)⟩
    case round =>
      obtain ⟨j, hj1, hj2, hj3, rfl, rfl, hall⟩ := hrel
      by_cases h1 : j < s.length
      · have t1 : decide ((j : Int) < (strB s).size) = true := decide_eq_true (by rw [HSZ.out]; omega)
        have hjz : j < (strB s).size := by rw [HSZ.out]; exact h1
        have hjR : (j - 1) < R.length := by have := HRL.out; omega
        by_cases h2 : j < 22
        · have t2 : decide ((j : Int) < 22) = true := decide_eq_true (by omega)
          have hsb : s[j] = R[(j - 1)] := by
            have h := HRA.out (j - 1) hjR
            rw [show 1 + (j - 1) = j by omega, List.getElem?_eq_getElem h1] at h
            exact Option.some.inj h
          have hsb2 : (strB s)[j] = R[(j - 1)] := hsb
          have HS1 : Hid (R.take (j + 1 - 1) = R.take (j - 1) ++ [R[(j - 1)]]) := by
            rw [Hid, show j + 1 - 1 = (j - 1) + 1 by omega]; exact List.take_succ_eq_append_getElem hjR
          have hmem := List.getElem_mem hjR
          have HBA : Hid (isDig R[(j - 1)] = false → V = (0, 5)) := fun h => HN.out _ rfl (fun h2 => by
            have h3 : isDig R[(j - 1)] = true := List.all_eq_true.1 h2.2.1 _ hmem
            exact absurd (h.symm.trans h3) (by decide))
          generalize R[(j - 1)] = b at *
          clear hsb hmem
          have hb256 := b.toNat_lt
          cases hd : isDig b with
          | true =>
            have hd2 := hd
            simp only [isDig, Bool.and_eq_true, decide_eq_true_eq] at hd2
            obtain ⟨e1, e2⟩ := hd2
            have t3 : decide ((b.toNat : Int) < 48) = false := decide_eq_false (by omega)
            have t4 : decide (57 < (b.toNat : Int)) = false := decide_eq_false (by omega)
            have hw : IntKind.u8.wrap ((b.toNat : Int) - 48) = (b.toNat : Int) - 48 := by rw [IntKind.wrap_u8]; omega
            have HD : Hid (digW (-1) (R.take (j + 1 - 1)) 0 = wrap64 (10 * digW (-1) (R.take (j - 1)) 0 + (-1) * ((b.toNat : Int) - 48))) := by rw [Hid, HS1.out, digW_snoc]
            have HA2 : Hid ((R.take (j + 1 - 1)).all isDig = true) := by rw [Hid, HS1.out, List.all_append, hall.out]; simp [hd]
            clear hd HBA
            go_wp2_with fail
            go_round
            case rel => exact ⟨j + 1, by omega, h1, h2, by go_num, by rw [HD.out]; refine congrArg (Value.int .i64) ?_; unfold wrap64; omega, HA2⟩
            case measure => simp [intOf]; omega
          | false =>
            have HVV := Lib.hid (HBA.out hd)
            have hcb : (b.toNat : Int) < 48 ∨ ¬ (b.toNat : Int) < 48 ∧ 57 < (b.toNat : Int) := by
              have : ¬ (48 ≤ b.toNat ∧ b.toNat ≤ 57) := by
                rintro ⟨h1, h2⟩
                rw [isDig, decide_eq_true h1, decide_eq_true h2] at hd; cases hd
              omega
            clear hd HBA
            rcases hcb with h1 | ⟨h1, h2⟩
            · have t3 : decide ((b.toNat : Int) < 48) = true := decide_eq_true h1
              clear h1
              go_wp2_with fail
              go_ret2
              exact ⟨by rw [HVV.out] <;> rfl, Ext.rf _⟩
            · have t3 : decide ((b.toNat : Int) < 48) = false := decide_eq_false h1
              have t4 : decide (57 < (b.toNat : Int)) = true := decide_eq_true h2
              clear h1 h2
              go_wp2_with fail
              go_ret2
              exact ⟨by rw [HVV.out] <;> rfl, Ext.rf _⟩
        · have t2 : decide ((j : Int) < 22) = false := decide_eq_false (by omega)
          have HVV := Lib.hid (HN.out _ rfl (fun h => by have := h.2.2.1; omega))
          have t5 : (((strB s).size : Int) == 1) = false := by rw [HSZ.out, beq_eq_false_iff_ne]; omega
          obtain ⟨hb1, hb2⟩ := digW_bd (-1) (R.take (j - 1)) 0 ⟨by decide, by decide⟩
          generalize digW (-1) (R.take (j - 1)) 0 = q at *
          have HS2 := Lib.hid (strEqL (decB q) s)
          have t6 : ((strB (decB q)).toList == (strB s).toList) = false := by rw [HS2.out]; exact decide_eq_false (fun e => by have := decB_len hb1 hb2; rw [e] at this; omega)
          go_wp2_with fail
          refine (ref_Digits q _ hb1 hb2).mono ?_
          rintro e w5 ⟨rfl, hx5⟩
          go_wp2_with fail
          go_ret2
          exact ⟨by rw [HVV.out] <;> rfl, hx5⟩
      · obtain rfl : j = s.length := by omega
        have t1 : decide ((s.length : Int) < (strB s).size) = false := decide_eq_false (by rw [HSZ.out]; omega)
        have HT : Hid (R.take (s.length - 1) = R) := List.take_of_length_le (by have := HRL.out; omega)
        have HALL : Hid (R.all isDig = true) := by have h := hall.out; rw [HT.out] at h; exact h
        rw [HT.out]
        obtain ⟨hb1, hb2⟩ := digW_bd (-1) R 0 ⟨by decide, by decide⟩
        have HBQ := Lib.hid (fun h => HB.out (digW (-1) R 0) h rfl)
        have HNQ := Lib.hid (HN.out (digW (-1) R 0) rfl)
        generalize digW (-1) R 0 = q at *
        by_cases h0 : R = []
        · have t5 : (((strB s).size : Int) == 1) = true := by rw [HSZ.out, beq_iff_eq]; have := HRL.out; rw [h0, List.length_nil] at this; omega
          have HVV := Lib.hid (HNQ.out (fun h => h.1 h0))
          clear h0
          go_wp2_with fail
          go_ret2
          exact ⟨by rw [HVV.out] <;> rfl, Ext.rf _⟩
        · have t5 : (((strB s).size : Int) == 1) = false := by rw [HSZ.out, beq_eq_false_iff_ne]; have := HRL.out; have := List.length_pos_iff.2 h0; omega
          have HS2 := Lib.hid (strEqL (decB q) s)
          have H0 := Lib.hid h0
          clear h0
          by_cases hq : decB q = s
          · have t6 : ((strB (decB q)).toList == (strB s).toList) = true := by rw [HS2.out]; exact decide_eq_true hq
            have HVV := Lib.hid (HBQ.out ⟨H0.out, HALL.out, by have := decB_len hb1 hb2; rw [hq] at this; exact this, hq⟩)
            clear hq
            go_wp2_with fail
            refine (ref_Digits q _ hb1 hb2).mono ?_
            rintro e w5 ⟨rfl, hx5⟩
            go_wp2_with fail
            go_ret2
            exact ⟨by rw [HVV.out] <;> rfl, hx5⟩
          · have t6 : ((strB (decB q)).toList == (strB s).toList) = false := by rw [HS2.out]; exact decide_eq_false hq
            have HVV := Lib.hid (HNQ.out (fun h => hq h.2.2.2))
            clear hq
            go_wp2_with fail
            refine (ref_Digits q _ hb1 hb2).mono ?_
            rintro e w5 ⟨rfl, hx5⟩
            go_wp2_with fail
            go_ret2
            exact ⟨by rw [HVV.out] <;> rfl, hx5⟩
  | false =>
    rw [if_neg (by rw [hn]; decide)] at hRl hsg
    simp only [hn, if_false, Bool.false_eq_true] at HRA
    subst hsg
    have HRL := Lib.hid hRl
    have hh : s.head? ≠ some 45 := fun e => by rw [hneg.2 e] at hn; cases hn
    clear hRa hRl hneg hn
    by_cases hs : s = []
    · have t0 : ¬ 0 < (strB s).size := by rw [HSZ.out, hs]; simp
      clear hh hs
      go_enter Tryz.func21, Tryz.ntmps21
      go_wp2_with fail
      go_loop [4, 6] (fun n i => ∃ j : Nat, 0 ≤ j ∧ j ≤ s.length ∧ j ≤ 22 ∧ i = .int .i64 j ∧ n = .int .i64 (digW (1) (R.take j) 0) ∧ Hid ((R.take j).all isDig = true))
        (fun _ i => 22 - (intOf i).toNat)
      case atStart => exact ⟨0, Nat.le_refl _, by have := HRL.out; omega, by decide, rfl, by simp [digW], Lib.hid (by simp)⟩
      case round =>
        obtain ⟨j, hj1, hj2, hj3, rfl, rfl, hall⟩ := hrel
        by_cases h1 : j < s.length
        · have t1 : decide ((j : Int) < (strB s).size) = true := decide_eq_true (by rw [HSZ.out]; omega)
          have hjz : j < (strB s).size := by rw [HSZ.out]; exact h1
          have hjR : j < R.length := by have := HRL.out; omega
          by_cases h2 : j < 22
          · have t2 : decide ((j : Int) < 22) = true := decide_eq_true (by omega)
            have hsb : s[j] = R[j] := by
              have h := HRA.out j hjR
              rw [show 0 + j = j by omega, List.getElem?_eq_getElem h1] at h
              exact Option.some.inj h
            have hsb2 : (strB s)[j] = R[j] := hsb
            have HS1 : Hid (R.take (j + 1) = R.take j ++ [R[j]]) := by
              exact List.take_succ_eq_append_getElem hjR
            have hmem := List.getElem_mem hjR
            have HBA : Hid (isDig R[j] = false → V = (0, 5)) := fun h => HN.out _ rfl (fun h2 => by
              have h3 : isDig R[j] = true := List.all_eq_true.1 h2.2.1 _ hmem
              exact absurd (h.symm.trans h3) (by decide))
            generalize R[j] = b at *
            clear hsb hmem
            have hb256 := b.toNat_lt
            cases hd : isDig b with
            | true =>
              have hd2 := hd
              simp only [isDig, Bool.and_eq_true, decide_eq_true_eq] at hd2
              obtain ⟨e1, e2⟩ := hd2
              have t3 : decide ((b.toNat : Int) < 48) = false := decide_eq_false (by omega)
              have t4 : decide (57 < (b.toNat : Int)) = false := decide_eq_false (by omega)
              have hw : IntKind.u8.wrap ((b.toNat : Int) - 48) = (b.toNat : Int) - 48 := by rw [IntKind.wrap_u8]; omega
              have HD : Hid (digW (1) (R.take (j + 1)) 0 = wrap64 (10 * digW (1) (R.take j) 0 + (1) * ((b.toNat : Int) - 48))) := by rw [Hid, HS1.out, digW_snoc]
              have HA2 : Hid ((R.take (j + 1)).all isDig = true) := by rw [Hid, HS1.out, List.all_append, hall.out]; simp [hd]
              clear hd HBA
              go_wp2_with fail
              go_round
              case rel => exact ⟨j + 1, by omega, h1, h2, by go_num, by rw [HD.out]; refine congrArg (Value.int .i64) ?_; unfold wrap64; omega, HA2⟩
              case measure => simp [intOf]; omega
            | false =>
              have HVV := Lib.hid (HBA.out hd)
              have hcb : (b.toNat : Int) < 48 ∨ ¬ (b.toNat : Int) < 48 ∧ 57 < (b.toNat : Int) := by
                have : ¬ (48 ≤ b.toNat ∧ b.toNat ≤ 57) := by
                  rintro ⟨h1, h2⟩
                  rw [isDig, decide_eq_true h1, decide_eq_true h2] at hd; cases hd
                omega
              clear hd HBA
              rcases hcb with h1 | ⟨h1, h2⟩
              · have t3 : decide ((b.toNat : Int) < 48) = true := decide_eq_true h1
                clear h1
                go_wp2_with fail
                go_ret2
                exact ⟨by rw [HVV.out] <;> rfl, Ext.rf _⟩
              · have t3 : decide ((b.toNat : Int) < 48) = false := decide_eq_false h1
                have t4 : decide (57 < (b.toNat : Int)) = true := decide_eq_true h2
                clear h1 h2
                go_wp2_with fail
                go_ret2
                exact ⟨by rw [HVV.out] <;> rfl, Ext.rf _⟩
          · have t2 : decide ((j : Int) < 22) = false := decide_eq_false (by omega)
            have HVV := Lib.hid (HN.out _ rfl (fun h => by have := h.2.2.1; omega))
            have t5 : (((strB s).size : Int) == 0) = false := by rw [HSZ.out, beq_eq_false_iff_ne]; omega
            obtain ⟨hb1, hb2⟩ := digW_bd (1) (R.take j) 0 ⟨by decide, by decide⟩
            generalize digW (1) (R.take j) 0 = q at *
            have HS2 := Lib.hid (strEqL (decB q) s)
            have t6 : ((strB (decB q)).toList == (strB s).toList) = false := by rw [HS2.out]; exact decide_eq_false (fun e => by have := decB_len hb1 hb2; rw [e] at this; omega)
            go_wp2_with fail
            refine (ref_Digits q _ hb1 hb2).mono ?_
            rintro e w5 ⟨rfl, hx5⟩
            go_wp2_with fail
            go_ret2
            exact ⟨by rw [HVV.out] <;> rfl, hx5⟩
        · obtain rfl : j = s.length := by omega
          have t1 : decide ((s.length : Int) < (strB s).size) = false := decide_eq_false (by rw [HSZ.out]; omega)
          have HT : Hid (R.take s.length = R) := List.take_of_length_le (by have := HRL.out; omega)
          have HALL : Hid (R.all isDig = true) := by have h := hall.out; rw [HT.out] at h; exact h
          rw [HT.out]
          obtain ⟨hb1, hb2⟩ := digW_bd (1) R 0 ⟨by decide, by decide⟩
          have HBQ := Lib.hid (fun h => HB.out (digW (1) R 0) h rfl)
          have HNQ := Lib.hid (HN.out (digW (1) R 0) rfl)
          generalize digW (1) R 0 = q at *
          by_cases h0 : R = []
          · have t5 : (((strB s).size : Int) == 0) = true := by rw [HSZ.out, beq_iff_eq]; have := HRL.out; rw [h0, List.length_nil] at this; omega
            have HVV := Lib.hid (HNQ.out (fun h => h.1 h0))
            clear h0
            go_wp2_with fail
            go_ret2
            exact ⟨by rw [HVV.out] <;> rfl, Ext.rf _⟩
          · have t5 : (((strB s).size : Int) == 0) = false := by rw [HSZ.out, beq_eq_false_iff_ne]; have := HRL.out; have := List.length_pos_iff.2 h0; omega
            have HS2 := Lib.hid (strEqL (decB q) s)
            have H0 := Lib.hid h0
            clear h0
            by_cases hq : decB q = s
            · have t6 : ((strB (decB q)).toList == (strB s).toList) = true := by rw [HS2.out]; exact decide_eq_true hq
              have HVV := Lib.hid (HBQ.out ⟨H0.out, HALL.out, by have := decB_len hb1 hb2; rw [hq] at this; exact this, hq⟩)
              clear hq
              go_wp2_with fail
              refine (ref_Digits q _ hb1 hb2).mono ?_
              rintro e w5 ⟨rfl, hx5⟩
              go_wp2_with fail
              go_ret2
              exact ⟨by rw [HVV.out] <;> rfl, hx5⟩
            · have t6 : ((strB (decB q)).toList == (strB s).toList) = false := by rw [HS2.out]; exact decide_eq_false hq
              have HVV := Lib.hid (HNQ.out (fun h => hq h.2.2.2))
              clear hq
              go_wp2_with fail
              refine (ref_Digits q _ hb1 hb2).mono ?_
              rintro e w5 ⟨rfl, hx5⟩
              go_wp2_with fail
              go_ret2
              exact ⟨by rw [HVV.out] <;> rfl, hx5⟩
    · have t0 : decide ((0 : Int) < (strB s).size) = true := decide_eq_true (by rw [HSZ.out]; have := List.length_pos_iff.2 hs; omega)
      have z0 : 0 < (strB s).size := by rw [HSZ.out]; exact List.length_pos_iff.2 hs
      have z2 : ((((strB s)[0]'z0).toNat : Int) == 45) = false := by
        rw [beq_eq_false_iff_ne]; intro e
        cases s with
        | nil => exact hs rfl
        | cons b t => exact hh (by simp; exact UInt8.toNat_inj.1 (Int.ofNat_inj.1 e))
      clear hh hs
      go_enter Tryz.func21, Tryz.ntmps21
      go_wp2_with fail
      go_loop [4, 6] (fun n i => ∃ j : Nat, 0 ≤ j ∧ j ≤ s.length ∧ j ≤ 22 ∧ i = .int .i64 j ∧ n = .int .i64 (digW (1) (R.take j) 0) ∧ Hid ((R.take j).all isDig = true))
        (fun _ i => 22 - (intOf i).toNat)
      case atStart => exact ⟨0, Nat.le_refl _, by have := HRL.out; omega, by decide, rfl, by simp [digW], Lib.hid (by simp)⟩
      case round =>
        obtain ⟨j, hj1, hj2, hj3, rfl, rfl, hall⟩ := hrel
        by_cases h1 : j < s.length
        · have t1 : decide ((j : Int) < (strB s).size) = true := decide_eq_true (by rw [HSZ.out]; omega)
          have hjz : j < (strB s).size := by rw [HSZ.out]; exact h1
          have hjR : j < R.length := by have := HRL.out; omega
          by_cases h2 : j < 22
          · have t2 : decide ((j : Int) < 22) = true := decide_eq_true (by omega)
            have hsb : s[j] = R[j] := by
              have h := HRA.out j hjR
              rw [show 0 + j = j by omega, List.getElem?_eq_getElem h1] at h
              exact Option.some.inj h
            have hsb2 : (strB s)[j] = R[j] := hsb
            have HS1 : Hid (R.take (j + 1) = R.take j ++ [R[j]]) := by
              exact List.take_succ_eq_append_getElem hjR
            have hmem := List.getElem_mem hjR
            have HBA : Hid (isDig R[j] = false → V = (0, 5)) := fun h => HN.out _ rfl (fun h2 => by
              have h3 : isDig R[j] = true := List.all_eq_true.1 h2.2.1 _ hmem
              exact absurd (h.symm.trans h3) (by decide))
            generalize R[j] = b at *
            clear hsb hmem
            have hb256 := b.toNat_lt
            cases hd : isDig b with
            | true =>
              have hd2 := hd
              simp only [isDig, Bool.and_eq_true, decide_eq_true_eq] at hd2
              obtain ⟨e1, e2⟩ := hd2
              have t3 : decide ((b.toNat : Int) < 48) = false := decide_eq_false (by omega)
              have t4 : decide (57 < (b.toNat : Int)) = false := decide_eq_false (by omega)
              have hw : IntKind.u8.wrap ((b.toNat : Int) - 48) = (b.toNat : Int) - 48 := by rw [IntKind.wrap_u8]; omega
              have HD : Hid (digW (1) (R.take (j + 1)) 0 = wrap64 (10 * digW (1) (R.take j) 0 + (1) * ((b.toNat : Int) - 48))) := by rw [Hid, HS1.out, digW_snoc]
              have HA2 : Hid ((R.take (j + 1)).all isDig = true) := by rw [Hid, HS1.out, List.all_append, hall.out]; simp [hd]
              clear hd HBA
              go_wp2_with fail
              go_round
              case rel => exact ⟨j + 1, by omega, h1, h2, by go_num, by rw [HD.out]; refine congrArg (Value.int .i64) ?_; unfold wrap64; omega, HA2⟩
              case measure => simp [intOf]; omega
            | false =>
              have HVV := Lib.hid (HBA.out hd)
              have hcb : (b.toNat : Int) < 48 ∨ ¬ (b.toNat : Int) < 48 ∧ 57 < (b.toNat : Int) := by
                have : ¬ (48 ≤ b.toNat ∧ b.toNat ≤ 57) := by
                  rintro ⟨h1, h2⟩
                  rw [isDig, decide_eq_true h1, decide_eq_true h2] at hd; cases hd
                omega
              clear hd HBA
              rcases hcb with h1 | ⟨h1, h2⟩
              · have t3 : decide ((b.toNat : Int) < 48) = true := decide_eq_true h1
                clear h1
                go_wp2_with fail
                go_ret2
                exact ⟨by rw [HVV.out] <;> rfl, Ext.rf _⟩
              · have t3 : decide ((b.toNat : Int) < 48) = false := decide_eq_false h1
                have t4 : decide (57 < (b.toNat : Int)) = true := decide_eq_true h2
                clear h1 h2
                go_wp2_with fail
                go_ret2
                exact ⟨by rw [HVV.out] <;> rfl, Ext.rf _⟩
          · have t2 : decide ((j : Int) < 22) = false := decide_eq_false (by omega)
            have HVV := Lib.hid (HN.out _ rfl (fun h => by have := h.2.2.1; omega))
            have t5 : (((strB s).size : Int) == 0) = false := by rw [HSZ.out, beq_eq_false_iff_ne]; omega
            obtain ⟨hb1, hb2⟩ := digW_bd (1) (R.take j) 0 ⟨by decide, by decide⟩
            generalize digW (1) (R.take j) 0 = q at *
            have HS2 := Lib.hid (strEqL (decB q) s)
            have t6 : ((strB (decB q)).toList == (strB s).toList) = false := by rw [HS2.out]; exact decide_eq_false (fun e => by have := decB_len hb1 hb2; rw [e] at this; omega)
            go_wp2_with fail
            refine (ref_Digits q _ hb1 hb2).mono ?_
            rintro e w5 ⟨rfl, hx5⟩
            go_wp2_with fail
            go_ret2
            exact ⟨by rw [HVV.out] <;> rfl, hx5⟩
        · obtain rfl : j = s.length := by omega
          have t1 : decide ((s.length : Int) < (strB s).size) = false := decide_eq_false (by rw [HSZ.out]; omega)
          have HT : Hid (R.take s.length = R) := List.take_of_length_le (by have := HRL.out; omega)
          have HALL : Hid (R.all isDig = true) := by have h := hall.out; rw [HT.out] at h; exact h
          rw [HT.out]
          obtain ⟨hb1, hb2⟩ := digW_bd (1) R 0 ⟨by decide, by decide⟩
          have HBQ := Lib.hid (fun h => HB.out (digW (1) R 0) h rfl)
          have HNQ := Lib.hid (HN.out (digW (1) R 0) rfl)
          generalize digW (1) R 0 = q at *
          by_cases h0 : R = []
          · have t5 : (((strB s).size : Int) == 0) = true := by rw [HSZ.out, beq_iff_eq]; have := HRL.out; rw [h0, List.length_nil] at this; omega
            have HVV := Lib.hid (HNQ.out (fun h => h.1 h0))
            clear h0
            go_wp2_with fail
            go_ret2
            exact ⟨by rw [HVV.out] <;> rfl, Ext.rf _⟩
          · have t5 : (((strB s).size : Int) == 0) = false := by rw [HSZ.out, beq_eq_false_iff_ne]; have := HRL.out; have := List.length_pos_iff.2 h0; omega
            have HS2 := Lib.hid (strEqL (decB q) s)
            have H0 := Lib.hid h0
            clear h0
            by_cases hq : decB q = s
            · have t6 : ((strB (decB q)).toList == (strB s).toList) = true := by rw [HS2.out]; exact decide_eq_true hq
              have HVV := Lib.hid (HBQ.out ⟨H0.out, HALL.out, by have := decB_len hb1 hb2; rw [hq] at this; exact this, hq⟩)
              clear hq
              go_wp2_with fail
              refine (ref_Digits q _ hb1 hb2).mono ?_
              rintro e w5 ⟨rfl, hx5⟩
              go_wp2_with fail
              go_ret2
              exact ⟨by rw [HVV.out] <;> rfl, hx5⟩
            · have t6 : ((strB (decB q)).toList == (strB s).toList) = false := by rw [HS2.out]; exact decide_eq_false hq
              have HVV := Lib.hid (HNQ.out (fun h => hq h.2.2.2))
              clear hq
              go_wp2_with fail
              refine (ref_Digits q _ hb1 hb2).mono ?_
              rintro e w5 ⟨rfl, hx5⟩
              go_wp2_with fail
              go_ret2
              exact ⟨by rw [HVV.out] <;> rfl, hx5⟩
end Go.Proofs.YtkdnbnkbnegckaaGreatDoor
