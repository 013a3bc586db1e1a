/- Sets of slots: what the lifted functions come to. -/
import Derived.Test.YtkdnbnkbnegckaaGreatSpE
namespace Go.Proofs.YtkdnbnkbnegckaaGreat
open Go.RowKit
/-- The words of the set of all slots below n. -/
def mw (n j : Nat) : Int := ((2 ^ (min (n - 64 * j) 64) - 1 : Nat) : Int)
abbrev St := Int × (Int × (Int × Int))
def insideB (s t : St) : Bool := decide (bitI .andNot .u64 s.1 t.1 = 0 ∧ bitI .andNot .u64 s.2.1 t.2.1 = 0 ∧ bitI .andNot .u64 s.2.2.1 t.2.2.1 = 0 ∧ bitI .andNot .u64 s.2.2.2 t.2.2.2 = 0)
def belowB (s : St) (n : Nat) : Bool := insideB s (mw n 0, (mw n 1, (mw n 2, mw n 3)))
theorem or_step : ∀ r : Nat, r < 64 → bitI .or .u64 (((2 ^ r - 1 : Nat) : Int)) (wrp .u64 (shlI .u64 1 (r : Int))) = ((2 ^ (r + 1) - 1 : Nat) : Int) := by decide +kernel
theorem add_step : ∀ r : Nat, r < 64 → wrp .u64 (((2 ^ r - 1 : Nat) : Int) + wrp .u64 (shlI .u64 1 (r : Int))) = ((2 ^ (r + 1) - 1 : Nat) : Int) := by decide +kernel
theorem mw_at {n j r : Nat} (h : n = 64 * j + r) (hr : r < 64) : mw n j = ((2 ^ r - 1 : Nat) : Int) ∧ mw (n + 1) j = ((2 ^ (r + 1) - 1 : Nat) : Int) := by
  subst h
  refine ⟨?_, ?_⟩
  · rw [mw, show min (64 * j + r - 64 * j) 64 = r by omega]
  · rw [mw, show min (64 * j + r + 1 - 64 * j) 64 = r + 1 by omega]
theorem mw_ne {n i j r : Nat} (h : n = 64 * j + r) (hr : r < 64) (hi : i ≠ j) : mw (n + 1) i = mw n i := by
  subst h
  rw [mw, mw]
  rcases Nat.lt_or_gt_of_ne hi with h | h
  · rw [show min (64 * j + r + 1 - 64 * i) 64 = 64 by omega, show min (64 * j + r - 64 * i) 64 = 64 by omega]
  · rw [show min (64 * j + r + 1 - 64 * i) 64 = 0 by omega, show min (64 * j + r - 64 * i) 64 = 0 by omega]
theorem sp_slotsIs {n : Int} : S_slots_is n = some (decide (0 ≤ n ∧ n < 256), ()) := by
  refine u_slots_is (N := 0) ?_
  by_cases h : 0 ≤ n <;> simp [M_slots_is, h]
theorem sp_with {n : Nat} (hn : n < 256) : S_slots_With (mw n 0) (mw n 1) (mw n 2) (mw n 3) n = some (mw (n + 1) 0, (mw (n + 1) 1, (mw (n + 1) 2, (mw (n + 1) 3, ())))) := by
  refine u_slots_With (N := 0) ?_
  obtain ⟨j, r, hj, hr⟩ : ∃ j r, n = 64 * j + r ∧ r < 64 := ⟨n / 64, n % 64, by omega, by omega⟩
  obtain ⟨e1, e2⟩ := mw_at hj hr
  have e3 := or_step r hr
  have d1 : wrp .i64 ((n : Int) / 64) = j := by rw [show (n : Int) / 64 = j by omega]; exact wi64 (by omega) (by omega)
  have d2 : (n : Int).tmod 64 = r := by rw [Int.tmod_eq_emod_of_nonneg (by omega)]; omega
  rw [← e1, ← e2] at e3
  have h4 : j = 0 ∨ j = 1 ∨ j = 2 ∨ j = 3 := by omega
  rcases h4 with rfl | rfl | rfl | rfl
  · simp [M_slots_With, sp_slotsIs, d1, d2, e3, show (n : Int) < 256 by omega, mw_ne hj hr (i := 1) (by omega), mw_ne hj hr (i := 2) (by omega), mw_ne hj hr (i := 3) (by omega)]
  · simp [M_slots_With, sp_slotsIs, d1, d2, e3, show (n : Int) < 256 by omega, mw_ne hj hr (i := 0) (by omega), mw_ne hj hr (i := 2) (by omega), mw_ne hj hr (i := 3) (by omega)]
  · simp [M_slots_With, sp_slotsIs, d1, d2, e3, show (n : Int) < 256 by omega, mw_ne hj hr (i := 1) (by omega), mw_ne hj hr (i := 0) (by omega), mw_ne hj hr (i := 3) (by omega)]
  · simp [M_slots_With, sp_slotsIs, d1, d2, e3, show (n : Int) < 256 by omega, mw_ne hj hr (i := 1) (by omega), mw_ne hj hr (i := 2) (by omega), mw_ne hj hr (i := 0) (by omega)]
theorem sp_range {n : Nat} (hn : n ≤ 256) : S_slots_Range 0 n = some (mw n 0, (mw n 1, (mw n 2, (mw n 3, ())))) := by
  refine u_slots_Range (N := n + 1) ?_
  simp [M_slots_Range, show maxI 0 0 = 0 from rfl, show minI (n : Int) 256 = n by simp [minI]; omega]
  refine iter_to (fun d => n - d.2.2.2.2.2.2.2.2.1.toNat) (fun d => ∃ k : Nat, d = (0, (0, (0, (0, (mw k 0, (mw k 1, (mw k 2, (mw k 3, ((k : Int), ()))))))))) ∧ k ≤ n) ?_ _ _ ⟨0, rfl, Nat.zero_le _⟩ (by simp)
  rintro _ again ⟨k, rfl, hk⟩ ih
  by_cases h : k < n
  · have hw : wrp .i64 ((k : Int) + 1) = (k : Int) + 1 := wi64 (by omega) (by omega)
    simp [h, sp_with (n := k) (by omega), hw]
    exact ih _ ⟨k + 1, rfl, h⟩ (by simp; omega)
  · have : k = n := by omega
    subst this
    simp
theorem sp_rrange {n : Nat} (hn : n ≤ 256) : S_ref03_Range 0 n = some (mw n 0, (mw n 1, (mw n 2, (mw n 3, ())))) := by
  refine u_ref03_Range (N := n + 1) ?_
  simp [M_ref03_Range, show maxI 0 0 = 0 from rfl, show minI (n : Int) 256 = n by simp [minI]; omega]
  refine iter_to (fun d => n - d.2.2.2.2.2.2.2.2.1.toNat) (fun d => ∃ k : Nat, d = (0, (0, (0, (0, (mw k 0, (mw k 1, (mw k 2, (mw k 3, ((k : Int), ()))))))))) ∧ k ≤ n) ?_ _ _ ⟨0, rfl, Nat.zero_le _⟩ (by simp)
  rintro _ again ⟨k, rfl, hk⟩ ih
  by_cases h : k < n
  · have hw : wrp .i64 ((k : Int) + 1) = (k : Int) + 1 := wi64 (by omega) (by omega)
    obtain ⟨j, r, hj, hr⟩ : ∃ j r, k = 64 * j + r ∧ r < 64 := ⟨k / 64, k % 64, by omega, by omega⟩
    obtain ⟨e1, e2⟩ := mw_at hj hr
    have e3 := add_step r hr
    have d1 : wrp .i64 ((k : Int) / 64) = j := by rw [show (k : Int) / 64 = j by omega]; exact wi64 (by omega) (by omega)
    have d2 : (k : Int).tmod 64 = r := by rw [Int.tmod_eq_emod_of_nonneg (by omega)]; omega
    have d3 : wrp .u64 (r : Int) = r := wu64 (by omega) (by omega)
    rw [← e1, ← e2] at e3
    have := ih (0, (0, (0, (0, (mw (k + 1) 0, (mw (k + 1) 1, (mw (k + 1) 2, (mw (k + 1) 3, ((k : Int) + 1, ()))))))))) ⟨k + 1, rfl, h⟩ (by simp; omega)
    have h4 : j = 0 ∨ j = 1 ∨ j = 2 ∨ j = 3 := by omega
    rcases h4 with rfl | rfl | rfl | rfl
    · rw [mw_ne hj hr (i := 1) (by omega), mw_ne hj hr (i := 2) (by omega), mw_ne hj hr (i := 3) (by omega)] at this
      simpa [h, d1, d2, d3, e3, hw] using this
    · rw [mw_ne hj hr (i := 0) (by omega), mw_ne hj hr (i := 2) (by omega), mw_ne hj hr (i := 3) (by omega)] at this
      simpa [h, d1, d2, d3, e3, hw] using this
    · rw [mw_ne hj hr (i := 1) (by omega), mw_ne hj hr (i := 0) (by omega), mw_ne hj hr (i := 3) (by omega)] at this
      simpa [h, d1, d2, d3, e3, hw] using this
    · rw [mw_ne hj hr (i := 1) (by omega), mw_ne hj hr (i := 2) (by omega), mw_ne hj hr (i := 0) (by omega)] at this
      simpa [h, d1, d2, d3, e3, hw] using this
  · have : k = n := by omega
    subst this
    simp
@[simp] theorem sp_sub1 {a b : Int} : S_slots_Sub_1 a b = some (bitI .andNot .u64 a b, ()) := u_slots_Sub_1 (N := 0) (by simp [M_slots_Sub_1])
@[simp] theorem sp_sub {a b c d e f g h : Int} : S_slots_Sub a b c d e f g h = some (bitI .andNot .u64 a e, (bitI .andNot .u64 b f, (bitI .andNot .u64 c g, (bitI .andNot .u64 d h, ())))) := u_slots_Sub (N := 0) (by simp [M_slots_Sub])
@[simp] theorem sp_rsub {a b c d e f g h : Int} : S_ref03_Sub a b c d e f g h = some (bitI .andNot .u64 a e, (bitI .andNot .u64 b f, (bitI .andNot .u64 c g, (bitI .andNot .u64 d h, ())))) := u_ref03_Sub (N := 0) (by simp [M_ref03_Sub])
theorem sp_inside {a b c d e f g h : Int} : S_slots_Inside a b c d e f g h = some (insideB (a, (b, (c, d))) (e, (f, (g, h))), ()) := by
  refine u_slots_Inside (N := 0) ?_
  simp [M_slots_Inside, eqL, insideB]
theorem sp_rinside {a b c d e f g h : Int} : S_ref03_Inside a b c d e f g h = some (insideB (a, (b, (c, d))) (e, (f, (g, h))), ()) := by
  refine u_ref03_Inside (N := 0) ?_
  simp [M_ref03_Inside, eqL, insideB]
theorem sp_below {a b c d : Int} {n : Nat} (hn : n ≤ 256) : S_slots_Below a b c d n = some (belowB (a, (b, (c, d))) n, ()) := by
  refine u_slots_Below (N := 0) ?_
  simp [M_slots_Below, sp_range hn, sp_inside]
  rfl
/-! Tables of sets -/
def setP (l : List UInt8) : Pr St :=
  match bitsP l with
  | .error e => .error e
  | .ok (a, l) =>
  match bitsP l with
  | .error e => .error e
  | .ok (b, l) =>
  match bitsP l with
  | .error e => .error e
  | .ok (c, l) =>
  match bitsP l with
  | .error e => .error e
  | .ok (d, l) => .ok ((a, (b, (c, d))), l)
theorem setP_len {l l' : List UInt8} {x : St} (h : setP l = .ok (x, l')) : l'.length ≤ l.length := by
  unfold setP at h
  split at h
  · cases h
  · rename_i h1; have i1 := bitsP_len h1
    split at h
    · cases h
    · rename_i h2; have i2 := bitsP_len h2
      split at h
      · cases h
      · rename_i h3; have i3 := bitsP_len h3
        split at h
        · cases h
        · rename_i h4; have i4 := bitsP_len h4
          cases h
          omega
def groupP (left : Int) (k : Nat) (last : Option St) (l : List UInt8) : Pr (Int × St) :=
  match bitsP l with
  | .error e => .error e
  | .ok (u, l) => if u = 0 ∨ left < u then .error 5 else
    match setP l with
    | .error e => .error e
    | .ok (s, l) => if last = some s then .error 5 else if belowB s k then .ok ((u, s), l) else .error 14
def lastO (s : St) (m : Int) : Option St := if 0 < m then some s else none
@[simp] theorem sp_like {a b c d m e f g h : Int} : S__maps_counted_api_Set_like a b c d m e f g h = some (decide (lastO (a, (b, (c, d))) m = some (e, (f, (g, h)))), ()) := by
  refine u__maps_counted_api_Set_like (N := 0) ?_
  by_cases hm : 0 < m <;> simp [M__maps_counted_api_Set_like, lastO, hm, eqL]
theorem im_mtake {l : List UInt8} {left a b c d m : Int} {k : Nat} (hl : Len l) (h0 : 0 ≤ left) (hm : left ≤ 1000000) (hk : k ≤ 256) : match groupP left k (lastO (a, (b, (c, d))) m) l with
    | .ok ((u, (x, (y, (z, w)))), l') => S_maps_take l true 0 left k a b c d m = some (l', (true, (0, (x, (y, (z, (w, (u, ()))))))))
    | .error e => e ≠ 0 ∧ ∃ l' x y z w u, S_maps_take l true 0 left k a b c d m = some (l', (true, (e, (x, (y, (z, (w, (u, ())))))))) := by
  have hB := im_Bits hl
  unfold groupP
  cases hb : bitsP l with
  | error e =>
    rw [hb] at hB
    obtain ⟨he, l', hB⟩ := hB
    refine ⟨he, l', 0, 0, 0, 0, 0, u_maps_take (N := 0) ?_⟩
    simp [M_maps_take, hB, he, ime_Bits he, sp_below hk]
  | ok p =>
    obtain ⟨u, l1⟩ := p
    have hu := bitsP_lt hb
    have hl1 : Len l1 := Nat.le_trans (bitsP_len hb) hl
    rw [hb] at hB
    have hB : S_cursor_Cursor_Bits l true 0 = _ := hB
    have hw : wrp .u64 left = left := wu64 h0 (by omega)
    dsimp only
    by_cases hc : u = 0 ∨ left < u
    · simp only [if_pos hc]
      refine ⟨by decide, l1, 0, 0, 0, 0, wrp .i64 u, u_maps_take (N := 0) ?_⟩
      rcases hc with rfl | hc
      · simp [M_maps_take, hB, hw, ime_Bits, sp_below hk]
      · simp [M_maps_take, hB, hw, hc, ime_Bits, sp_below hk]
    · have hc1 : ¬u = 0 := fun h => hc (.inl h)
      have hc2 : ¬left < u := fun h => hc (.inr h)
      simp only [if_neg hc]
      unfold setP
      have hI := im_Bits hl1
      cases h1 : bitsP l1 with
      | error e =>
        rw [h1] at hI
        obtain ⟨he, l', hI⟩ := hI
        refine ⟨he, l', 0, 0, 0, 0, wrp .i64 u, u_maps_take (N := 0) ?_⟩
        simp [M_maps_take, hB, hw, hc1, hc2, hI, he, ime_Bits he, sp_below hk]
      | ok p =>
        obtain ⟨x, m1⟩ := p
        dsimp only
        have k1 : Len m1 := Nat.le_trans (bitsP_len h1) hl1
        rw [h1] at hI
        have e1 : S_cursor_Cursor_Bits l1 true 0 = _ := hI
        have hI := im_Bits k1
        cases h2 : bitsP m1 with
        | error e =>
          rw [h2] at hI
          obtain ⟨he, l', hI⟩ := hI
          refine ⟨he, l', x, 0, 0, 0, wrp .i64 u, u_maps_take (N := 0) ?_⟩
          simp [M_maps_take, hB, hw, hc1, hc2, e1, hI, he, ime_Bits he, sp_below hk]
        | ok p =>
          obtain ⟨y, m2⟩ := p
          dsimp only
          have k2 : Len m2 := Nat.le_trans (bitsP_len h2) k1
          rw [h2] at hI
          have e2 : S_cursor_Cursor_Bits m1 true 0 = _ := hI
          have hI := im_Bits k2
          cases h3 : bitsP m2 with
          | error e =>
            rw [h3] at hI
            obtain ⟨he, l', hI⟩ := hI
            refine ⟨he, l', x, y, 0, 0, wrp .i64 u, u_maps_take (N := 0) ?_⟩
            simp [M_maps_take, hB, hw, hc1, hc2, e1, e2, hI, he, ime_Bits he, sp_below hk]
          | ok p =>
            obtain ⟨z, m3⟩ := p
            dsimp only
            have k3 : Len m3 := Nat.le_trans (bitsP_len h3) k2
            rw [h3] at hI
            have e3 : S_cursor_Cursor_Bits m2 true 0 = _ := hI
            have hI := im_Bits k3
            cases h4 : bitsP m3 with
            | error e =>
              rw [h4] at hI
              obtain ⟨he, l', hI⟩ := hI
              refine ⟨he, l', x, y, z, 0, wrp .i64 u, u_maps_take (N := 0) ?_⟩
              simp [M_maps_take, hB, hw, hc1, hc2, e1, e2, e3, hI, he, ime_Bits he, sp_below hk]
            | ok p =>
              obtain ⟨w, m4⟩ := p
              dsimp only
              have k4 : Len m4 := Nat.le_trans (bitsP_len h4) k3
              rw [h4] at hI
              have e4 : S_cursor_Cursor_Bits m3 true 0 = _ := hI
              by_cases h5 : lastO (a, (b, (c, d))) m = some (x, (y, (z, w)))
              · rw [if_pos h5]
                refine ⟨by decide, m4, x, y, z, w, wrp .i64 u, u_maps_take (N := 0) ?_⟩
                simp [M_maps_take, hB, hw, hc1, hc2, e1, e2, e3, e4, h5, sp_below hk]
              · rw [if_neg h5]
                cases h6 : belowB (x, (y, (z, w))) k with
                | true =>
                  simp only [if_true]
                  refine u_maps_take (N := 0) ?_
                  have hw2 : wrp .i64 u = u := wi64 (by omega) (by omega)
                  simp [M_maps_take, hB, hw, hc1, hc2, e1, e2, e3, e4, h5, h6, hw2, sp_below hk]
                | false =>
                  simp only [Bool.false_eq_true, if_false]
                  refine ⟨by decide, m4, x, y, z, w, wrp .i64 u, u_maps_take (N := 0) ?_⟩
                  simp [M_maps_take, hB, hw, hc1, hc2, e1, e2, e3, e4, h5, h6, sp_below hk]
theorem groupP_len {left : Int} {k : Nat} {last : Option St} {l l' : List UInt8} {x : Int × St} (h : groupP left k last l = .ok (x, l')) : l'.length ≤ l.length ∧ 0 < x.1 ∧ x.1 ≤ left := by
  unfold groupP at h
  split at h
  · cases h
  · rename_i u l1 hb
    have := bitsP_len hb
    have hu := bitsP_lt hb
    split at h
    · cases h
    · split at h
      · cases h
      · rename_i v l2 hi
        have := setP_len hi
        split at h
        · cases h
        · split at h
          · cases h
            exact ⟨by omega, by simp; omega, by simp; omega⟩
          · cases h
def mapsG (k : Nat) : Nat → Nat → Option St → List UInt8 → Pr (List St)
  | _, 0, _, l => .ok ([], l)
  | 0, _ + 1, _, _ => .error 1
  | f + 1, n + 1, last, l =>
    match groupP ((n + 1 : Nat) : Int) k last l with
    | .error e => .error e
    | .ok ((u, s), l) =>
      match mapsG k f (n + 1 - u.toNat) (some s) l with
      | .ok (r, l) => .ok (List.replicate u.toNat s ++ r, l)
      | .error e => .error e
theorem mapsG_fuel {k : Nat} : ∀ (f g n : Nat) (last : Option St) (l : List UInt8), n ≤ f → n ≤ g → mapsG k f n last l = mapsG k g n last l
  | f, g, 0, last, l, _, _ => by simp [mapsG]
  | 0, g, n + 1, last, l, h, _ => by omega
  | f + 1, 0, n + 1, last, l, _, h => by omega
  | f + 1, g + 1, n + 1, last, l, h1, h2 => by
    simp only [mapsG]
    cases hr : groupP ((n + 1 : Nat) : Int) k last l with
    | error e => rfl
    | ok p =>
      obtain ⟨⟨u, v⟩, l2⟩ := p
      have hu := groupP_len hr
      simp only at hu
      simp only
      rw [mapsG_fuel f g (n + 1 - u.toNat) (some v) l2 (by omega) (by omega)]
def mapsP (n : Int) (k : Nat) (l : List UInt8) : Pr (List St) := mapsG k n.toNat n.toNat none l
theorem ime_mtake {l : List UInt8} {e left a b c d m : Int} {k : Nat} (he : e ≠ 0) (hk : k ≤ 256) : ∃ x y z w u, S_maps_take l true e left k a b c d m = some (l, (true, (e, (x, (y, (z, (w, (u, ())))))))) := by
  refine ⟨0, 0, 0, 0, 0, u_maps_take (N := 0) ?_⟩
  simp [M_maps_take, he, ime_Bits he, sp_below hk]
theorem im_maps {l : List UInt8} {n : Int} {k : Nat} (hl : Len l) (hn : n ≤ 1000000) (hk : k ≤ 256) : Im (S_maps_Take l true 0 n k) (mapsP n k l) [] := by
  refine Im.of ?_ fun q hq => u_maps_Take (N := n.toNat + 1) hq
  unfold mapsP
  simp [M_maps_Take]
  refine iter_ex (R := fun r => Im r (mapsG k n.toNat n.toNat none l) []) (fun d => n.toNat - d.1.length) (fun d => ∃ (out : List St) (l2 : List UInt8) (a b c d' m : Int), d = (out, (l2, (true, (0, (a, (b, (c, (d', (m, ())))))))))  ∧ lastO (a, (b, (c, d'))) m = out.getLast? ∧ (out.length ≤ n.toNat) ∧ Len l2 ∧ mapsG k n.toNat n.toNat none l = withP out (mapsG k n.toNat (n.toNat - out.length) out.getLast? l2)) ?_ _ _ ⟨[], l, 0, 0, 0, 0, 0, rfl, rfl, Nat.zero_le _, hl, by simp; cases mapsG k n.toNat n.toNat none l <;> rfl⟩ (by simp)
  rintro _ again ⟨out, l2, a, b, c, d, m, rfl, hlast, ho, hl2, ht⟩ ih
  by_cases hlt : (out.length : Int) < n
  · have hw : wrp .i64 (n - (out.length : Int)) = n - out.length := wi64 (by omega) (by omega)
    have hR := im_mtake (left := n - out.length) (a := a) (b := b) (c := c) (d := d) (m := m) hl2 (by omega) (by omega) hk
    obtain ⟨j, hj⟩ : ∃ j, n.toNat - out.length = j + 1 := ⟨n.toNat - out.length - 1, by omega⟩
    obtain ⟨f, hf⟩ : ∃ f, n.toNat = f + 1 := ⟨n.toNat - 1, by omega⟩
    have hj2 : ((j + 1 : Nat) : Int) = n - out.length := by omega
    have hG : mapsG k n.toNat (n.toNat - out.length) out.getLast? l2 = mapsG k (f + 1) (j + 1) out.getLast? l2 := by rw [hj, hf]
    rw [hG] at ht
    simp only [mapsG, hj2] at ht
    rw [hlast] at hR
    cases hr : groupP (n - out.length) k out.getLast? l2 with
    | error e =>
      rw [hr] at hR ht
      obtain ⟨he, l', x, y, z, w, u, hR⟩ := hR
      rw [ht]
      refine ⟨he, l', ?_⟩
      simp [hlt, hw, hR, he]
    | ok p =>
      obtain ⟨⟨u, x, y, z, w⟩, l'⟩ := p
      obtain ⟨h1, h2, h3⟩ := groupP_len hr
      rw [hr] at hR ht
      simp only at hR ht h2 h3
      obtain ⟨v, rfl⟩ := Int.eq_ofNat_of_zero_le (show 0 ≤ u by omega)
      simp [hlt, hw, hR]
      rw [iter_fill (k := fun o => again (o, (l', (true, (0, (x, (y, (z, (w, ((v : Int), ())))))))))) (by omega) (by omega) (by omega)]
      have hm : 0 < v := by omega
      have e1 : (out ++ List.replicate v (x, y, z, w)).getLast? = some (x, y, z, w) := by simp [List.getLast?_append, List.getLast?_replicate, show ¬v = 0 by omega]
      have e2 : n.toNat - (out ++ List.replicate v (x, y, z, w)).length = j + 1 - ((v : Int)).toNat := by simp; omega
      refine ih _ ⟨_, _, _, _, _, _, _, rfl, by rw [e1, lastO, if_pos h2], by simp; omega, Nat.le_trans h1 hl2, ?_⟩ (by simp; omega)
      rw [ht, e1, e2, mapsG_fuel n.toNat f _ _ _ (by omega) (by omega)]
      cases mapsG k f (j + 1 - ((v : Int)).toNat) (some (x, y, z, w)) l' <;> simp [withP]
  · have : n.toNat - out.length = 0 := by omega
    rw [ht, this]
    simp [hlt, mapsG, withP]
    rfl
theorem ime_maps {l : List UInt8} {e n : Int} {k : Nat} (he : e ≠ 0) (hk : k ≤ 256) : S_maps_Take l true e n k = some (l, (true, (e, ([], ())))) := by
  refine u_maps_Take (N := 1) ?_
  obtain ⟨x, y, z, w, u, h1⟩ := ime_mtake (l := l) (left := wrp .i64 n) (a := 0) (b := 0) (c := 0) (d := 0) (m := 0) he hk
  by_cases h : 0 < n <;> simp [M_maps_Take, iter_s, h1, h, he]
end Go.Proofs.YtkdnbnkbnegckaaGreat
