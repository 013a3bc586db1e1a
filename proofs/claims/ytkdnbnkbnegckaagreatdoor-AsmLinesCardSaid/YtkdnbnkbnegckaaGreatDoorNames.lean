/- Whether a function may be called so. -/
import Derived.Test.YtkdnbnkbnegckaaGreatDoorBase
import Derived.Test.YtkdnbnkbnegckaaGreatDoorStrA
namespace Go.Proofs.YtkdnbnkbnegckaaGreatDoor
open Go.RowKit

def lowC (c : Int) : Bool := decide (97 ≤ c) && decide (c ≤ 122)
def othC (c : Int) : Bool := lowC c || (decide (48 ≤ c) && decide (c ≤ 57)) || c == 95
def othU (c : UInt8) : Bool := othC c.toNat
def mayName (s : ByteArray) : Bool := decide (1 ≤ s.size) && decide (s.size ≤ 12) && lowC (s.data.toList.headD 0).toNat && s.data.toList.all othU

theorem names_first (c : Int) (w : World) : Calls Tryz.prog 56 #[.int .u8 c] w fun e w' => e = .returned (.bool (lowC c)) ∧ w = w' := by
  unfold lowC
  cases t1 : decide (97 ≤ c) <;> cases t2 : decide (c ≤ 122) <;>
  (go_enter Tryz.func56, Tryz.ntmps56
   go_wp2
   go_ret
   exact ⟨rfl, rfl⟩)

theorem names_other (c : Int) (w : World) : Calls Tryz.prog 57 #[.int .u8 c] w fun e w' => e = .returned (.bool (othC c)) ∧ w = w' := by
  unfold othC
  cases t0 : lowC c <;> cases t1 : decide (48 ≤ c) <;> cases t2 : decide (c ≤ 57) <;> cases t3 : c == 95 <;>
  (go_enter Tryz.func57, Tryz.ntmps57
   go_wp2_with fail
   refine (names_first c w).mono ?_
   rw [t0]
   rintro e w1 ⟨rfl, rfl⟩
   go_wp2_with fail
   go_ret
   exact ⟨rfl, rfl⟩)

theorem allOth_snoc {l : List UInt8} {k : Nat} (h : k < l.length) : (l.take (k + 1)).all othU = ((l.take k).all othU && othU l[k]) := by
  rw [List.take_succ_eq_append_getElem h, List.all_append]; simp

set_option maxHeartbeats 1000000 in
set_option maxRecDepth 20000 in
theorem names_May (s : ByteArray) (w : World) (hs : s.size ≤ 9223372036854775807) : Calls Tryz.prog 24 #[.string s] w fun e w' => e = .returned (.bool (mayName s)) ∧ w = w' := by
  by_cases h0 : s.size = 0
  · obtain rfl : s = ByteArray.empty := by simpa using h0
    go_enter Tryz.func24, Tryz.ntmps24
    go_wp2
    go_ret
    exact ⟨rfl, rfl⟩
  · have hl : s.toList.isEmpty = false := by rw [ByteArray.toList_eq]; cases hd : s.data.toList with
      | nil => exact absurd (by simpa using congrArg List.length hd) h0
      | cons => rfl
    have hp : 0 < s.size := Nat.pos_of_ne_zero h0
    by_cases h12 : s.size ≤ 12
    · have t1 : decide (12 < (s.size : Int)) = false := decide_eq_false (by omega)
      have HS : Hid (s.data.toList.headD 0 = s[0]) := by
        rw [Hid, ByteArray.getElem_eq_getElem_data, List.headD_eq_head?_getD, List.head?_eq_getElem?]
        simp [hp]
      have HR : Hid (mayName s = (lowC (s.data.toList.headD 0).toNat && s.data.toList.all othU)) := by
        rw [Hid, mayName, decide_eq_true h12, decide_eq_true (show 1 ≤ s.size by omega)]; simp only [Bool.true_and]
      clear h0
      go_enter Tryz.func24, Tryz.ntmps24
      go_wp2_with fail
      refine (names_first _ _).mono ?_
      rintro e w1 ⟨rfl, rfl⟩
      have HK : ∀ k, (h : k < s.size) → Hid (((s.data.toList.take (k + 1)).all othU) = ((s.data.toList.take k).all othU && othC s[k].toNat)) := fun k h => by
        rw [Hid, allOth_snoc (by simpa using h)]; rfl
      have HF : ∀ k, (h : k < s.size) → Hid (othC s[k].toNat = false → s.data.toList.all othU = false) := fun k h e => by
        rw [← Bool.not_eq_true, List.all_eq_true]
        intro q
        have := q s[k] (mem_data s k h)
        rw [othU, e] at this; cases this
      have HK' := Lib.hid HK
      have HF' := Lib.hid HF
      clear HK HF
      cases hp1 : lowC s[0].toNat with
      | false =>
        have HR' : Hid (mayName s = false) := by rw [Hid, HR.out, HS.out, hp1, Bool.false_and]
        clear hp1
        go_wp2_with fail
        go_ret
        exact ⟨by rw [HR'.out] <;> rfl, rfl⟩
      | true =>
        have HR' : Hid (mayName s = s.data.toList.all othU) := by rw [Hid, HR.out, HS.out, hp1, Bool.true_and]
        clear hp1 HR HS
        go_wp2_with fail
        go_loop [19] (fun i => ∃ k : Nat, k ≤ s.size ∧ i = .int .i64 k ∧ Hid ((s.data.toList.take k).all othU = true)) (fun i => s.size - (intOf i).toNat)
        case atStart => exact ⟨0, Nat.zero_le _, rfl, Lib.hid (by simp)⟩
        case round =>
          obtain ⟨k, hk, rfl, hall⟩ := hrel
          by_cases hlt : k < s.size
          · have H1 := HK'.out k hlt
            have H2 := HF'.out k hlt
            go_wp2_with fail
            refine (names_other _ _).mono ?_
            rintro e w1 ⟨rfl, rfl⟩
            cases hq : othC s[k].toNat with
            | false =>
              have HX := Lib.hid (H2.out hq)
              clear hq
              go_wp2_with fail
              go_ret
              exact ⟨by rw [HR'.out, HX.out] <;> rfl, rfl⟩
            | true =>
              have HX : Hid ((s.data.toList.take (k + 1)).all othU = true) := by rw [Hid, H1.out, hall.out, hq]; rfl
              clear hq
              go_wp2_with fail
              go_round
              case rel => exact ⟨k + 1, by omega, by go_num, HX⟩
              case measure => simp [intOf]; omega
          · obtain rfl : k = s.size := by omega
            have HX : Hid (s.data.toList.all othU = true) := by
              have := hall.out
              rwa [List.take_of_length_le (by simp)] at this
            go_wp2_with fail
            go_ret
            exact ⟨by rw [HR'.out, HX.out] <;> rfl, rfl⟩
    · have t1 : decide (12 < (s.size : Int)) = true := decide_eq_true (by omega)
      have HR : Hid (mayName s = false) := by simp [Hid, mayName, h12]
      clear h0
      go_enter Tryz.func24, Tryz.ntmps24
      go_wp2_with fail
      go_ret
      exact ⟨by rw [HR.out] <;> rfl, rfl⟩

/-- May the byte stand there? -/
def okAt (k : Nat) (c : Int) : Bool := if k = 0 then lowC c else othC c
theorem okAt_low {k : Nat} {c : Int} (h1 : 97 ≤ c) (h2 : c ≤ 122) : okAt k c = true := by
  have : lowC c = true := by simp [lowC, h1, h2]
  unfold okAt; split
  · exact this
  · simp [othC, this]
theorem okAt_dig {k : Nat} {c : Int} (h0 : k ≠ 0) (h1 : 48 ≤ c) (h2 : c ≤ 57) : okAt k c = true := by simp [okAt, h0, othC, h1, h2]
theorem okAt_us {k : Nat} {c : Int} (h0 : k ≠ 0) (h1 : c = 95) : okAt k c = true := by simp [okAt, h0, othC, h1]
theorem lowC_no {c : Int} (h : c < 97 ∨ 122 < c) : lowC c = false := by
  rw [← Bool.not_eq_true, lowC, Bool.and_eq_true, decide_eq_true_eq, decide_eq_true_eq]; omega
theorem okAt_z {c : Int} (h : c < 97 ∨ 122 < c) : okAt 0 c = false := by simp [okAt, lowC_no h]
theorem okAt_bad {k : Nat} {c : Int} (h0 : k ≠ 0) (h : c < 97 ∨ 122 < c) (hd : c < 48 ∨ 57 < c) (hu : c ≠ 95) : okAt k c = false := by
  rw [okAt, if_neg h0, othC, lowC_no h, ← Bool.not_eq_true]
  simp only [Bool.false_or, Bool.or_eq_true, Bool.and_eq_true, decide_eq_true_eq, beq_iff_eq]; omega
def okAll (l : List UInt8) (k : Nat) : Prop := ∀ j < k, ∀ u, l[j]? = some u → okAt j u.toNat = true
theorem low_oth {c : Int} (h : lowC c = true) : othC c = true := by simp [othC, h]
theorem may_ok (s : ByteArray) (h : okAll s.data.toList s.size) : mayName s = (decide (1 ≤ s.size) && decide (s.size ≤ 12)) := by
  unfold mayName
  cases hd : decide (1 ≤ s.size) with
  | false => rfl
  | true =>
    cases hd2 : decide (s.size ≤ 12) with
    | false => rfl
    | true =>
      have hp : 0 < s.size := by simp at hd; omega
      have h0 : s.data.toList[0]? = some s[0] := by rw [ByteArray.getElem_eq_getElem_data]; simp [hp]
      have h1 := h 0 hp _ h0
      have h2 : s.data.toList.headD 0 = s[0] := by rw [List.headD_eq_head?_getD, List.head?_eq_getElem?, h0]; rfl
      rw [h2]
      simp only [okAt, if_true] at h1
      rw [h1]
      simp only [Bool.true_and]
      rw [List.all_eq_true]
      intro u hu
      obtain ⟨j, hj, e⟩ := List.mem_iff_getElem.1 hu
      have := h j (by simpa using hj) u (by rw [← e]; simp)
      unfold okAt at this
      split at this
      · exact low_oth this
      · exact this
theorem may_not (s : ByteArray) (j : Nat) (u : UInt8) (hu : s.data.toList[j]? = some u) (h : okAt j u.toNat = false) : mayName s = false := by
  unfold mayName
  by_cases hj : j = 0
  · subst hj
    have h2 : s.data.toList.headD 0 = u := by rw [List.headD_eq_head?_getD, List.head?_eq_getElem?, hu]; rfl
    simp only [okAt, if_true] at h
    rw [h2, h]; simp
  · rw [okAt, if_neg hj] at h
    have : s.data.toList.all othU = false := by
      rw [← Bool.not_eq_true, List.all_eq_true]
      intro q
      have := q u (List.mem_of_getElem? hu)
      rw [othU, h] at this; cases this
    rw [this]; simp

set_option maxHeartbeats 1000000 in
set_option maxRecDepth 20000 in
theorem namesref_May (s : ByteArray) (w : World) (hs : s.size ≤ 9223372036854775807) : Calls Tryz.prog 27 #[.string s] w fun e w' => e = .returned (.bool (mayName s)) ∧ w = w' := by
  go_enter Tryz.func27, Tryz.ntmps27
  go_wp2_with fail
  go_loop [3, 4] (fun i c => ∃ k : Nat, k ≤ s.size ∧ i = .int .i64 k ∧ Hid (okAll s.data.toList k)) (fun i _ => s.size - (intOf i).toNat)
  case atStart => exact ⟨0, Nat.zero_le _, rfl, Lib.hid (by intro j hj; omega)⟩
  case round =>
    obtain ⟨k, hk, rfl, hall⟩ := hrel
    by_cases hlt : k < s.size
    · have hg : s.data.toList[k]? = some s[k] := by rw [ByteArray.getElem_eq_getElem_data]; simp [hlt]
      have HG : Hid (okAt k s[k].toNat = true → okAll s.data.toList (k + 1)) := fun hv j hj u hu => by
        rcases Nat.lt_succ_iff_lt_or_eq.1 hj with h | rfl
        · exact hall.out j h u hu
        · rw [hg] at hu; obtain rfl := Option.some.inj hu; exact hv
      have HB : Hid (okAt k s[k].toNat = false → mayName s = false) := fun hv => may_not s k _ hg hv
      have hc1 : (0 : Int) ≤ s[k].toNat := by omega
      have hc2 : (s[k].toNat : Int) ≤ 255 := by have := s[k].toNat_lt; omega
      clear hg hall
      rcases (by omega : (s[k].toNat : Int) < 97 ∨ (97 ≤ (s[k].toNat : Int) ∧ (s[k].toNat : Int) ≤ 122) ∨ 122 < (s[k].toNat : Int)) with h | h | h
      · by_cases h0 : k = 0
        · obtain rfl : k = 0 := h0
          have a1 : decide ((s[0].toNat : Int) < 97) = true := decide_eq_true (by omega)
          have HX := Lib.hid (HB.out (by first | exact okAt_low (by omega) (by omega) | exact okAt_z (by omega) | exact okAt_dig h0 (by omega) (by omega) | exact okAt_us h0 (by omega) | exact okAt_bad h0 (by omega) (by omega) (by omega)))
          clear hc1 hc2
          go_wp2_with fail
          go_ret
          exact ⟨by rw [HX.out] <;> rfl, rfl⟩
        · have z1 : ((k : Int) == 0) = false := by simp; omega
          have z2 : (k == 0) = false := by simp; omega
          rcases (by omega : (s[k].toNat : Int) < 48 ∨ (48 ≤ (s[k].toNat : Int) ∧ (s[k].toNat : Int) ≤ 57) ∨ (57 < (s[k].toNat : Int) ∧ (s[k].toNat : Int) = 95) ∨ (57 < (s[k].toNat : Int) ∧ (s[k].toNat : Int) ≠ 95)) with g | g | g | g
          · skip
            have a1 : decide ((s[k].toNat : Int) < 97) = true := decide_eq_true (by omega)
            have a3 : decide ((s[k].toNat : Int) < 48) = true := decide_eq_true (by omega)
            have a5 : ((s[k].toNat : Int) == 95) = false := beq_eq_false_iff_ne.2 (by omega)
            have HX := Lib.hid (HB.out (by first | exact okAt_low (by omega) (by omega) | exact okAt_z (by omega) | exact okAt_dig h0 (by omega) (by omega) | exact okAt_us h0 (by omega) | exact okAt_bad h0 (by omega) (by omega) (by omega)))
            clear hc1 hc2
            go_wp2_with fail
            go_ret
            exact ⟨by rw [HX.out] <;> rfl, rfl⟩
          · skip
            have a1 : decide ((s[k].toNat : Int) < 97) = true := decide_eq_true (by omega)
            have a3 : decide ((s[k].toNat : Int) < 48) = false := decide_eq_false (by omega)
            have a4 : decide (57 < (s[k].toNat : Int)) = false := decide_eq_false (by omega)
            have HX := Lib.hid (HG.out (by first | exact okAt_low (by omega) (by omega) | exact okAt_z (by omega) | exact okAt_dig h0 (by omega) (by omega) | exact okAt_us h0 (by omega) | exact okAt_bad h0 (by omega) (by omega) (by omega)))
            clear hc1 hc2
            go_wp2_with fail
            go_round
            case rel => exact ⟨k + 1, by omega, by go_num, HX⟩
            case measure => simp [intOf]; omega
          · skip
            have a1 : decide ((s[k].toNat : Int) < 97) = true := decide_eq_true (by omega)
            have a3 : decide ((s[k].toNat : Int) < 48) = false := decide_eq_false (by omega)
            have a4 : decide (57 < (s[k].toNat : Int)) = true := decide_eq_true (by omega)
            have a5 : ((s[k].toNat : Int) == 95) = true := beq_iff_eq.2 (by omega)
            have HX := Lib.hid (HG.out (by first | exact okAt_low (by omega) (by omega) | exact okAt_z (by omega) | exact okAt_dig h0 (by omega) (by omega) | exact okAt_us h0 (by omega) | exact okAt_bad h0 (by omega) (by omega) (by omega)))
            clear hc1 hc2
            go_wp2_with fail
            go_round
            case rel => exact ⟨k + 1, by omega, by go_num, HX⟩
            case measure => simp [intOf]; omega
          · skip
            have a1 : decide ((s[k].toNat : Int) < 97) = true := decide_eq_true (by omega)
            have a3 : decide ((s[k].toNat : Int) < 48) = false := decide_eq_false (by omega)
            have a4 : decide (57 < (s[k].toNat : Int)) = true := decide_eq_true (by omega)
            have a5 : ((s[k].toNat : Int) == 95) = false := beq_eq_false_iff_ne.2 (by omega)
            have HX := Lib.hid (HB.out (by first | exact okAt_low (by omega) (by omega) | exact okAt_z (by omega) | exact okAt_dig h0 (by omega) (by omega) | exact okAt_us h0 (by omega) | exact okAt_bad h0 (by omega) (by omega) (by omega)))
            clear hc1 hc2
            go_wp2_with fail
            go_ret
            exact ⟨by rw [HX.out] <;> rfl, rfl⟩
      · skip
        have a1 : decide ((s[k].toNat : Int) < 97) = false := decide_eq_false (by omega)
        have a2 : decide (122 < (s[k].toNat : Int)) = false := decide_eq_false (by omega)
        have HX := Lib.hid (HG.out (by first | exact okAt_low (by omega) (by omega) | exact okAt_z (by omega) | exact okAt_dig h0 (by omega) (by omega) | exact okAt_us h0 (by omega) | exact okAt_bad h0 (by omega) (by omega) (by omega)))
        clear hc1 hc2
        go_wp2_with fail
        go_round
        case rel => exact ⟨k + 1, by omega, by go_num, HX⟩
        case measure => simp [intOf]; omega
      · by_cases h0 : k = 0
        · obtain rfl : k = 0 := h0
          have a1 : decide ((s[0].toNat : Int) < 97) = false := decide_eq_false (by omega)
          have a2 : decide (122 < (s[0].toNat : Int)) = true := decide_eq_true (by omega)
          have HX := Lib.hid (HB.out (by first | exact okAt_low (by omega) (by omega) | exact okAt_z (by omega) | exact okAt_dig h0 (by omega) (by omega) | exact okAt_us h0 (by omega) | exact okAt_bad h0 (by omega) (by omega) (by omega)))
          clear hc1 hc2
          go_wp2_with fail
          go_ret
          exact ⟨by rw [HX.out] <;> rfl, rfl⟩
        · have z1 : ((k : Int) == 0) = false := by simp; omega
          have z2 : (k == 0) = false := by simp; omega
          have a1 : decide ((s[k].toNat : Int) < 97) = false := decide_eq_false (by omega)
          have a2 : decide (122 < (s[k].toNat : Int)) = true := decide_eq_true (by omega)
          have a3 : decide ((s[k].toNat : Int) < 48) = false := decide_eq_false (by omega)
          have a4 : decide (57 < (s[k].toNat : Int)) = true := decide_eq_true (by omega)
          have a5 : ((s[k].toNat : Int) == 95) = false := beq_eq_false_iff_ne.2 (by omega)
          have HX := Lib.hid (HB.out (by first | exact okAt_low (by omega) (by omega) | exact okAt_z (by omega) | exact okAt_dig h0 (by omega) (by omega) | exact okAt_us h0 (by omega) | exact okAt_bad h0 (by omega) (by omega) (by omega)))
          clear hc1 hc2
          go_wp2_with fail
          go_ret
          exact ⟨by rw [HX.out] <;> rfl, rfl⟩
    · obtain rfl : k = s.size := by omega
      have HR := Lib.hid (may_ok s hall.out)
      cases t1 : decide (1 ≤ s.size) with
      | true =>
        cases t2 : decide (s.size ≤ 12) with
        | true =>
          have HR' : Hid (mayName s = true) := by rw [Hid, HR.out, t1, t2]; rfl
          have u1 : decide ((1 : Int) ≤ s.size) = true := decide_eq_true (by have := of_decide_eq_true t1; omega)
          have u2 : decide ((s.size : Int) ≤ 12) = true := decide_eq_true (by have := of_decide_eq_true t2; omega)
          clear t1 t2
          go_wp2_with fail
          go_ret
          exact ⟨by rw [HR'.out] <;> rfl, rfl⟩
        | false =>
          have HR' : Hid (mayName s = false) := by rw [Hid, HR.out, t1, t2]; rfl
          have u1 : decide ((1 : Int) ≤ s.size) = true := decide_eq_true (by have := of_decide_eq_true t1; omega)
          have u2 : decide ((s.size : Int) ≤ 12) = false := decide_eq_false (by have := of_decide_eq_false t2; omega)
          clear t1 t2
          go_wp2_with fail
          go_ret
          exact ⟨by rw [HR'.out] <;> rfl, rfl⟩
      | false =>
        have HR' : Hid (mayName s = false) := by rw [Hid, HR.out, t1]; rfl
        have u1 : decide ((1 : Int) ≤ s.size) = false := decide_eq_false (by have := of_decide_eq_false t1; omega)
        clear t1
        go_wp2_with fail
        go_ret
        exact ⟨by rw [HR'.out] <;> rfl, rfl⟩
end Go.Proofs.YtkdnbnkbnegckaaGreatDoor
