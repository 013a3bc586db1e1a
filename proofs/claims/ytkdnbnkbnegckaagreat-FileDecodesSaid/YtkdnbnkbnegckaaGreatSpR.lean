/- Rows of runs: what the lifted functions come to. -/
import Derived.Test.YtkdnbnkbnegckaaGreatSpI
namespace Go.Proofs.YtkdnbnkbnegckaaGreat
open Go.RowKit

/-- One run, of at most so many: how many, and the number. -/
def runP (left : Int) (l : List UInt8) : Pr (Int × Int) :=
  match bitsP l with
  | .error e => .error e
  | .ok (u, l) => if u = 0 ∨ left < u then .error 5 else
    match intP l with
    | .error e => .error e
    | .ok (v, l) => .ok ((u, v), l)
theorem runP_len {left : Int} {l l' : List UInt8} {x : Int × Int} (h : runP left l = .ok (x, l')) : l'.length ≤ l.length ∧ 0 < x.1 ∧ x.1 ≤ left := by
  unfold runP at h
  split at h
  · cases h
  · rename_i u l1 hb
    have := bitsP_len hb
    have hu := bitsP_lt hb
    split at h
    · cases h
    · split at h
      · cases h
      · rename_i v l2 hi
        have := intP_len hi
        cases h
        exact ⟨by omega, by simp; omega, by simp; omega⟩
theorem im_run {l : List UInt8} {left : Int} (hl : Len l) (h0 : 0 ≤ left) (hm : left ≤ 1000000) : match runP left l with
    | .ok ((u, v), l') => S_runs_run l true 0 left = some (l', (true, (0, (u, (v, (true, ()))))))
    | .error e => e ≠ 0 ∧ ∃ l' u v, S_runs_run l true 0 left = some (l', (true, (e, (u, (v, (false, ())))))) := by
  have hB := im_Bits hl
  unfold runP
  cases hb : bitsP l with
  | error e =>
    rw [hb] at hB
    obtain ⟨he, l', hB⟩ := hB
    refine ⟨he, l', 0, 0, u_runs_run (N := 0) ?_⟩
    simp [M_runs_run, hB, he, ime_Int he]
  | ok p =>
    obtain ⟨u, l1⟩ := p
    have hu := bitsP_lt hb
    have hl1 : Len l1 := Nat.le_trans (bitsP_len hb) hl
    rw [hb] at hB
    have hB : S_cursor_Cursor_Bits l true 0 = _ := hB
    have hw : wrp .u64 left = left := wu64 h0 (by omega)
    have hI := im_Int hl1
    by_cases hc : u = 0 ∨ left < u
    · simp only [if_pos hc]
      refine ⟨by decide, l1, wrp .i64 u, 0, u_runs_run (N := 0) ?_⟩
      rcases hc with rfl | hc
      · simp [M_runs_run, hB, hw, ime_Int]
      · simp [M_runs_run, hB, hw, hc, ime_Int]
    · simp only [if_neg hc]
      cases hi : intP l1 with
      | error e =>
        rw [hi] at hI
        obtain ⟨he, l', hI⟩ := hI
        refine ⟨he, l', wrp .i64 u, 0, u_runs_run (N := 0) ?_⟩
        simp [M_runs_run, hB, hw, hI, he, show ¬u = 0 by omega, show ¬left < u by omega]
      | ok p =>
        obtain ⟨v, l'⟩ := p
        rw [hi] at hI
        have hI : S_cursor_Cursor_Int l1 true 0 = _ := hI
        refine u_runs_run (N := 0) ?_
        simp (disch := omega) [M_runs_run, hB, hw, hI, show ¬u = 0 by omega, show ¬left < u by omega, wi64]
def runsG (lo hi : Int) : Nat → Nat → Option Int → List UInt8 → Pr (List Int)
  | _, 0, _, l => .ok ([], l)
  | 0, _ + 1, _, _ => .error 1
  | f + 1, n + 1, last, l =>
    match runP ((n + 1 : Nat) : Int) l with
    | .error e => .error e
    | .ok ((u, v), l) => if last = some v then .error 5 else if v < lo ∨ hi < v then .error 2 else
      match runsG lo hi f (n + 1 - u.toNat) (some v) l with
      | .ok (r, l) => .ok (List.replicate u.toNat v ++ r, l)
      | .error e => .error e
/-- More fuel than there need be changes nothing. -/
theorem runsG_fuel {lo hi : Int} : ∀ (f g n : Nat) (last : Option Int) (l : List UInt8), n ≤ f → n ≤ g → runsG lo hi f n last l = runsG lo hi g n last l
  | f, g, 0, last, l, _, _ => by simp [runsG]
  | 0, g, n + 1, last, l, h, _ => by omega
  | f + 1, 0, n + 1, last, l, _, h => by omega
  | f + 1, g + 1, n + 1, last, l, h1, h2 => by
    simp only [runsG]
    cases hr : runP ((n + 1 : Nat) : Int) l with
    | error e => rfl
    | ok p =>
      obtain ⟨⟨u, v⟩, l2⟩ := p
      have hu := runP_len hr
      simp only at hu
      simp only
      rw [runsG_fuel f g (n + 1 - u.toNat) (some v) l2 (by omega) (by omega)]
def runsP (n lo hi : Int) (l : List UInt8) : Pr (List Int) := runsG lo hi n.toNat n.toNat none l
theorem last_test {β : Type} {out : List Int} {v : Int} {k : List Int × (Bool × Unit) → Option β} (ho : out.length ≤ 2000000) :
    joinK (if 0 < out.length then if 0 ≤ wrp .i64 ((out.length : Int) - 1) then if wrp .i64 ((out.length : Int) - 1) < out.length then bnd out[(wrp .i64 ((out.length : Int) - 1)).toNat]? fun x => leftK (out, (decide (x = v), ())) else none else none else leftK (out, (false, ()))) k = k (out, (decide (out.getLast? = some v), ())) := by
  cases h : out.getLast? with
  | none => simp [List.getLast?_eq_none_iff.1 h]
  | some x =>
    obtain ⟨ys, rfl⟩ := List.getLast?_eq_some_iff.1 h
    simp at ho
    have hw : wrp .i64 (ys.length : Int) = ys.length := wi64 (by omega) (by omega)
    simp [hw, show (ys.length : Int) < ys.length + 1 by omega]
theorem iter_fill {α β : Type} {m c : Nat} {v : α} {k : List α → Option β} (hc : c ≤ 1000) {N : Nat} {out : List α} (hN : m < N) (hl : out.length + m ≤ 1000000) :
    iter (fun (d : List α × (Int × Unit)) again => if d.2.1 < (m : Int) then chk (room d.1.length 1 c) (again (d.1 ++ [v], (wrp .i64 (d.2.1 + 1), ()))) else k d.1) N (out, (0, ())) = k (out ++ List.replicate m v) := by
  refine iter_to (fun d => m - d.2.1.toNat) (fun d => ∃ i : Nat, d = (out ++ List.replicate i v, ((i : Int), ())) ∧ i ≤ m) ?_ _ _ ⟨0, by simp, Nat.zero_le _⟩ (by simpa using hN)
  rintro _ again ⟨i, rfl, hi⟩ ih
  by_cases h : i < m
  · have hr := room_t (a := out.length + i) (b := 1) (c := c) (by omega) hc
    have hw : wrp .i64 ((i : Int) + 1) = (i : Int) + 1 := wi64 (by omega) (by omega)
    have := ih (out ++ List.replicate (i + 1) v, ((i : Int) + 1, ())) ⟨i + 1, rfl, h⟩ (by simp; omega)
    rw [List.replicate_succ'] at this
    simpa [h, hr, hw] using this
  · have : i = m := by omega
    subst this
    simp
theorem im_runs {l : List UInt8} {n lo hi : Int} (hl : Len l) (hn : n ≤ 1000000) : Im (S_runs_Take l true 0 n lo hi) (runsP n lo hi l) [] := by
  refine Im.of ?_ fun q hq => u_runs_Take (N := n.toNat + 1) hq
  unfold runsP
  simp [M_runs_Take]
  refine iter_ex (R := fun r => Im r (runsG lo hi n.toNat n.toNat none l) []) (fun d => n.toNat - d.1.length) (fun d => ∃ (out : List Int) (l2 : List UInt8), d = (out, (l2, (true, (0, ())))) ∧ (out.length ≤ n.toNat) ∧ Len l2 ∧ runsG lo hi n.toNat n.toNat none l = withP out (runsG lo hi n.toNat (n.toNat - out.length) out.getLast? l2)) ?_ _ _ ⟨[], l, rfl, Nat.zero_le _, hl, by simp; cases runsG lo hi n.toNat n.toNat none l <;> rfl⟩ (by simp)
  rintro _ again ⟨out, l2, rfl, ho, hl2, ht⟩ ih
  by_cases hlt : (out.length : Int) < n
  · have hw : wrp .i64 (n - (out.length : Int)) = n - out.length := wi64 (by omega) (by omega)
    have hR := im_run (left := n - out.length) hl2 (by omega) (by omega)
    obtain ⟨j, hj⟩ : ∃ j, n.toNat - out.length = j + 1 := ⟨n.toNat - out.length - 1, by omega⟩
    obtain ⟨f, hf⟩ : ∃ f, n.toNat = f + 1 := ⟨n.toNat - 1, by omega⟩
    have hj2 : ((j + 1 : Nat) : Int) = n - out.length := by omega
    have hG : runsG lo hi n.toNat (n.toNat - out.length) out.getLast? l2 = runsG lo hi (f + 1) (j + 1) out.getLast? l2 := by rw [hj, hf]
    rw [hG] at ht
    simp only [runsG, hj2] at ht
    cases hr : runP (n - out.length) l2 with
    | error e =>
      rw [hr] at hR ht
      obtain ⟨he, l', u, v, hR⟩ := hR
      rw [ht]
      refine ⟨he, l', ?_⟩
      simp [hlt, hw, hR]
    | ok p =>
      obtain ⟨⟨u, v⟩, l'⟩ := p
      obtain ⟨h1, h2, h3⟩ := runP_len hr
      rw [hr] at hR ht
      simp only at hR ht
      by_cases h5 : out.getLast? = some v
      · rw [if_pos h5] at ht
        rw [ht]
        refine ⟨by decide, l', ?_⟩
        simp [hlt, hw, hR]
        rw [last_test (by omega)]
        simp [h5]
      · rw [if_neg h5] at ht
        by_cases h6 : v < lo ∨ hi < v
        · rw [if_pos h6] at ht
          rw [ht]
          refine ⟨by decide, l', ?_⟩
          simp [hlt, hw, hR]
          rw [last_test (by omega)]
          by_cases h7 : v < lo
          · simp [h5, h7]
          · simp [h5, h7, show hi < v by omega]
        · rw [if_neg h6] at ht
          simp only at h2 h3
          obtain ⟨m, rfl⟩ := Int.eq_ofNat_of_zero_le (show 0 ≤ u by omega)
          simp [hlt, hw, hR]
          rw [last_test (by omega)]
          simp [h5, show ¬v < lo by omega, show ¬hi < v by omega]
          rw [iter_fill (k := fun o => again (o, (l', (true, (0, ()))))) (by omega) (by omega) (by omega)]
          refine ih _ ⟨_, _, rfl, by simp; omega, Nat.le_trans h1 hl2, ?_⟩ (by simp; omega)
          rw [ht]
          have hm : 0 < m := by omega
          have e1 : (out ++ List.replicate m v).getLast? = some v := by simp [List.getLast?_append, List.getLast?_replicate, show ¬m = 0 by omega]
          have e2 : n.toNat - (out ++ List.replicate m v).length = j + 1 - ((m : Int)).toNat := by simp; omega
          rw [e1, e2, runsG_fuel n.toNat f _ _ _ (by omega) (by omega)]
          cases runsG lo hi f (j + 1 - ((m : Int)).toNat) (some v) l' <;> simp [withP]
  · have : n.toNat - out.length = 0 := by omega
    rw [ht, this]
    simp [hlt, runsG, withP]
    rfl
theorem ime_run {l : List UInt8} {e left : Int} (he : e ≠ 0) : S_runs_run l true e left = some (l, (true, (e, (0, (0, (false, ())))))) := by
  refine u_runs_run (N := 0) ?_
  simp [M_runs_run, ime_Bits he, ime_Int he, he]
theorem ime_runs {l : List UInt8} {e n lo hi : Int} (he : e ≠ 0) : S_runs_Take l true e n lo hi = some (l, (true, (e, ([], ())))) := by
  refine u_runs_Take (N := 1) ?_
  by_cases h : 0 < n <;> simp [M_runs_Take, iter_s, ime_run he, h, he]
theorem iter_fillu {α β : Type} {m c : Nat} {v : α} {k : List α → Option β} (hc : c ≤ 1000) {N : Nat} {out : List α} (hN : m < N) (hl : out.length + m ≤ 1000000) :
    iter (fun (d : List α × (Int × Unit)) again => if d.2.1 < (m : Int) then chk (room d.1.length 1 c) (again (d.1 ++ [v], (wrp .u64 (d.2.1 + 1), ()))) else k d.1) N (out, (0, ())) = k (out ++ List.replicate m v) := by
  refine iter_to (fun d => m - d.2.1.toNat) (fun d => ∃ i : Nat, d = (out ++ List.replicate i v, ((i : Int), ())) ∧ i ≤ m) ?_ _ _ ⟨0, by simp, Nat.zero_le _⟩ (by simpa using hN)
  rintro _ again ⟨i, rfl, hi⟩ ih
  by_cases h : i < m
  · have hr := room_t (a := out.length + i) (b := 1) (c := c) (by omega) hc
    have hw : wrp .u64 ((i : Int) + 1) = (i : Int) + 1 := wu64 (by omega) (by omega)
    have := ih (out ++ List.replicate (i + 1) v, ((i : Int) + 1, ())) ⟨i + 1, rfl, h⟩ (by simp; omega)
    rw [List.replicate_succ'] at this
    simpa [h, hr, hw] using this
  · have : i = m := by omega
    subst this
    simp
theorem rf_runs {l : List UInt8} {n lo hi : Int} (hl : Len l) (hn : n ≤ 1000000) : Rf (S_ref04_Take l 0 n lo hi) (runsP n lo hi l) := by
  refine Rf.of ?_ fun q hq => u_ref04_Take (N := n.toNat + 2) hq
  unfold runsP
  simp [M_ref04_Take]
  refine iter_ex (R := fun r => Rf (joinK r _) (runsG lo hi n.toNat n.toNat none l)) (fun d => if d.2.2.1 = 0 then n.toNat + 1 - d.1.length else 0) (fun d => ∃ (out : List Int) (l2 : List UInt8) (e : Int), d = (out, (l2, (e, (0, ())))) ∧ ((e = 0 ∧ out.length ≤ n.toNat ∧ Len l2 ∧ runsG lo hi n.toNat n.toNat none l = withP out (runsG lo hi n.toNat (n.toNat - out.length) out.getLast? l2)) ∨ (e ≠ 0 ∧ runsG lo hi n.toNat n.toNat none l = .error e))) ?_ _ _ ⟨[], l, 0, rfl, .inl ⟨rfl, Nat.zero_le _, hl, by simp; cases runsG lo hi n.toNat n.toNat none l <;> rfl⟩⟩ (by simp)
  rintro _ again ⟨out, l2, e, rfl, ⟨rfl, ho, hl2, ht⟩ | ⟨he, ht⟩⟩ ih
  · by_cases hlt : (out.length : Int) < n
    · have hw : wrp .i64 (n - (out.length : Int)) = n - out.length := wi64 (by omega) (by omega)
      have hw2 : wrp .u64 (n - (out.length : Int)) = n - out.length := wu64 (by omega) (by omega)
      obtain ⟨j, hj⟩ : ∃ j, n.toNat - out.length = j + 1 := ⟨n.toNat - out.length - 1, by omega⟩
      obtain ⟨f, hf⟩ : ∃ f, n.toNat = f + 1 := ⟨n.toNat - 1, by omega⟩
      have hj2 : ((j + 1 : Nat) : Int) = n - out.length := by omega
      have hG : runsG lo hi n.toNat (n.toNat - out.length) out.getLast? l2 = runsG lo hi (f + 1) (j + 1) out.getLast? l2 := by rw [hj, hf]
      rw [hG] at ht
      simp only [runsG, hj2] at ht
      have hB := rf_Bits hl2
      cases hb : bitsP l2 with
      | error e =>
        rw [hb] at hB
        simp only [runP, hb] at ht
        obtain ⟨he, a, l', hB⟩ := hB
        have hi := ih (out, (l', (e, (0, ())))) ⟨_, _, _, rfl, .inr ⟨he, ht⟩⟩ (by simp [he]; omega)
        simpa [hlt, hw, hw2, hB, he, rfe_Int he, iter_s] using hi
      | ok p =>
        obtain ⟨u, l1⟩ := p
        have hu := bitsP_lt hb
        have hl1 : Len l1 := Nat.le_trans (bitsP_len hb) hl2
        rw [hb] at hB
        have hB : S_ref02_Bits l2 0 = _ := hB
        simp only [runP, hb] at ht
        have hI := rf_Int hl1
        by_cases hc : u = 0 ∨ n - out.length < u
        · rw [if_pos hc] at ht
          rw [ht]
          refine ⟨by decide, [], l1, ?_⟩
          rcases hc with rfl | hc
          · simp [hlt, hw, hw2, hB]
          · simp [hlt, hw, hw2, hB, hc]
        · rw [if_neg hc] at ht
          have hc1 : ¬u = 0 := by omega
          have hc2 : ¬(n - (out.length : Int) < u) := by omega
          cases hv : intP l1 with
          | error e =>
            rw [hv] at hI ht
            obtain ⟨he, a, l', hI⟩ := hI
            have hi := ih (out, (l', (e, (0, ())))) ⟨_, _, _, rfl, .inr ⟨he, ht⟩⟩ (by simp [he]; omega)
            simpa [hlt, hw, hw2, hB, hc1, hc2, hI, he, iter_s] using hi
          | ok p =>
            obtain ⟨v, l'⟩ := p
            have hl' : Len l' := Nat.le_trans (intP_len hv) hl1
            rw [hv] at hI ht
            have hI : S_ref02_Int l1 0 = _ := hI
            simp only at ht
            by_cases h5 : out.getLast? = some v
            · rw [if_pos h5] at ht
              rw [ht]
              refine ⟨by decide, [], l', ?_⟩
              simp [hlt, hw, hw2, hB, hc1, hc2, hI]
              rw [last_test (by omega)]
              simp [h5]
            · rw [if_neg h5] at ht
              by_cases h6 : v < lo ∨ hi < v
              · rw [if_pos h6] at ht
                rw [ht]
                refine ⟨by decide, [], l', ?_⟩
                simp [hlt, hw, hw2, hB, hc1, hc2, hI]
                rw [last_test (by omega)]
                by_cases h7 : v < lo
                · simp [h5, h7]
                · simp [h5, h7, show hi < v by omega]
              · rw [if_neg h6] at ht
                obtain ⟨m, rfl⟩ := Int.eq_ofNat_of_zero_le hu.1
                have hm : 0 < m := by omega
                simp [hlt, hw, hw2, hB, hc1, hc2, hI, show ¬m = 0 by omega]
                rw [last_test (by omega)]
                simp [h5, show ¬v < lo by omega, show ¬hi < v by omega]
                rw [iter_fillu (k := fun o => again (o, (l', (0, (0, ()))))) (by omega) (by omega) (by omega)]
                refine ih _ ⟨_, _, _, rfl, .inl ⟨rfl, by simp; omega, hl', ?_⟩⟩ (by simp; omega)
                rw [ht]
                have e1 : (out ++ List.replicate m v).getLast? = some v := by simp [List.getLast?_append, List.getLast?_replicate, show ¬m = 0 by omega]
                have e2 : n.toNat - (out ++ List.replicate m v).length = j + 1 - ((m : Int)).toNat := by simp; omega
                rw [e1, e2, runsG_fuel n.toNat f _ _ _ (by omega) (by omega)]
                cases runsG lo hi f (j + 1 - ((m : Int)).toNat) (some v) l' <;> simp [withP]
    · have : n.toNat - out.length = 0 := by omega
      rw [ht, this]
      simp [hlt, runsG, withP]
      rfl
  · rw [ht]
    refine ⟨he, [], l2, ?_⟩
    simp [he]
theorem rfe_runs {l : List UInt8} {e n lo hi : Int} (he : e ≠ 0) : S_ref04_Take l e n lo hi = some ([], (l, (e, ()))) := by
  refine u_ref04_Take (N := 1) ?_
  by_cases h : 0 < n <;> simp [M_ref04_Take, iter_s, h, he]
/-! Lines -/
theorem im_lines {l : List UInt8} {n : Int} (hl : Len l) (hn : n ≤ 1000000) : Im (S_lines_Take l true 0 n) (runsP n 0 65535 l) [] :=
  Im.of (im_runs hl hn) fun q hq => u_lines_Take (N := 0) (by simp [M_lines_Take, hq])
theorem ime_lines {l : List UInt8} {e n : Int} (he : e ≠ 0) : S_lines_Take l true e n = some (l, (true, (e, ([], ())))) := u_lines_Take (N := 0) (by simp [M_lines_Take, ime_runs he])
theorem rf_lines {l : List UInt8} {n : Int} (hl : Len l) (hn : n ≤ 1000000) : Rf (S_ref12_Take l 0 n) (runsP n 0 65535 l) :=
  Rf.of (rf_runs hl hn) fun q hq => u_ref12_Take (N := 0) (by simp [M_ref12_Take, hq])
theorem rfe_lines {l : List UInt8} {e n : Int} (he : e ≠ 0) : S_ref12_Take l e n = some ([], (l, (e, ()))) := u_ref12_Take (N := 0) (by simp [M_ref12_Take, rfe_runs he])
end Go.Proofs.YtkdnbnkbnegckaaGreat
