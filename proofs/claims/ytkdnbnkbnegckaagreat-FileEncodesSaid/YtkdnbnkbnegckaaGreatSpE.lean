/- Instructions: what the lifted functions come to. Rows of runs: what the lifted functions come to. Trees: what the lifted functions come to. -/
import Derived.Test.YtkdnbnkbnegckaaGreatSpT
namespace Go.Proofs.YtkdnbnkbnegckaaGreat
open Go.RowKit

/-- The kind of an instruction's number, and how great it may be. -/
def kindN (n : Int) : Int := if n = 1 then 1 else if n = 2 ∨ n = 3 then 2 else if n = 21 ∨ n = 22 then 3 else if n = 23 ∨ n = 24 then 4 else if n = 28 ∨ n = 29 then 5 else if n = 33 ∨ n = 34 then 6 else 0
def mostN (k : Int) : Int := if k = 2 then 255 else if k = 3 then 1999 else if k = 4 then 39 else if k = 5 then 3 else if k = 6 then 119 else 0
def rightN (n a : Int) : Bool := decide (0 ≤ n ∧ n < 35 ∧ (kindN n = 1 ∨ 0 ≤ a ∧ a ≤ mostN (kindN n)))
theorem kindN_le (n : Int) : 0 ≤ kindN n ∧ kindN n ≤ 6 := by
  unfold kindN
  repeat' split
  all_goals omega
theorem sp_rOperand {n : Int} : S_ref09_Operand n = some (kindN n, ()) := by
  refine u_ref09_Operand (N := 0) ?_
  simp [M_ref09_Operand]
  unfold kindN
  by_cases h1 : n = 1
  · simp [h1]
  · by_cases h2 : n = 2 ∨ n = 3
    · rcases h2 with rfl | rfl <;> simp
    · by_cases h3 : n = 21 ∨ n = 22
      · rcases h3 with rfl | rfl <;> simp
      · by_cases h4 : n = 23 ∨ n = 24
        · rcases h4 with rfl | rfl <;> simp
        · by_cases h5 : n = 28 ∨ n = 29
          · rcases h5 with rfl | rfl <;> simp
          · by_cases h6 : n = 33 ∨ n = 34
            · rcases h6 with rfl | rfl <;> simp
            · have : ¬n = 2 ∧ ¬n = 3 ∧ ¬n = 21 ∧ ¬n = 22 ∧ ¬n = 23 ∧ ¬n = 24 ∧ ¬n = 28 ∧ ¬n = 29 ∧ ¬n = 33 ∧ ¬n = 34 := by omega
              simp [h1, this]
@[simp] theorem sp_opsIs {n : Int} : S_ops_is n = some (decide (0 ≤ n ∧ n < 35), ()) := by
  refine u_ops_is (N := 0) ?_
  by_cases h : 0 ≤ n <;> simp [M_ops_is, h]
theorem sp_Operand {n : Int} : S_ops_Operand n = some (kindN n, ()) := by
  refine u_ops_Operand (N := 0) ?_
  by_cases h : 0 ≤ n ∧ n < 35
  · have : n = 0 ∨ n = 1 ∨ n = 2 ∨ n = 3 ∨ n = 4 ∨ n = 5 ∨ n = 6 ∨ n = 7 ∨ n = 8 ∨ n = 9 ∨ n = 10 ∨ n = 11 ∨ n = 12 ∨ n = 13 ∨ n = 14 ∨ n = 15 ∨ n = 16 ∨ n = 17 ∨ n = 18 ∨ n = 19 ∨ n = 20 ∨ n = 21 ∨ n = 22 ∨ n = 23 ∨ n = 24 ∨ n = 25 ∨ n = 26 ∨ n = 27 ∨ n = 28 ∨ n = 29 ∨ n = 30 ∨ n = 31 ∨ n = 32 ∨ n = 33 ∨ n = 34 := by omega
    rcases this with rfl | rfl | rfl | rfl | rfl | rfl | rfl | rfl | rfl | rfl | rfl | rfl | rfl | rfl | rfl | rfl | rfl | rfl | rfl | rfl | rfl | rfl | rfl | rfl | rfl | rfl | rfl | rfl | rfl | rfl | rfl | rfl | rfl | rfl | rfl <;> simp [M_ops_Operand, kindN]
  · have h2 : kindN n = 0 := by
      unfold kindN
      repeat' split
      all_goals first | rfl | (exfalso; omega)
    by_cases h3 : 0 ≤ n
    · have h4 : ¬n < 35 := fun h4 => h ⟨h3, h4⟩
      simp [M_ops_Operand, h2, h3, h4]
    · simp [M_ops_Operand, h2, h3]
theorem sp_most {n : Int} : S__instr_operand_most n = some (mostN n, ()) := by
  refine u__instr_operand_most (N := 0) ?_
  simp [M__instr_operand_most]
  unfold mostN
  repeat' split
  all_goals first | rfl | (exfalso; omega)
theorem sp_imay {n a : Int} : S__instr_operand_may n a = some (decide (n = 1 ∨ 0 ≤ a ∧ a ≤ mostN n), ()) := by
  refine u__instr_operand_may (N := 0) ?_
  by_cases h1 : n = 1 <;> by_cases h2 : 0 ≤ a <;> simp [M__instr_operand_may, sp_most, h1, h2]
theorem sp_iRight {n a : Int} : S_instr_Right n a = some (rightN n a, ()) := by
  refine u_instr_Right (N := 0) ?_
  unfold rightN
  by_cases h1 : 0 ≤ n <;> by_cases h2 : n < 35 <;> simp [M_instr_Right, sp_Operand, sp_imay, h1, h2]
theorem sp_rmost {n : Int} (h0 : 0 ≤ n) (h6 : n ≤ 6) : S_ref10_most n = some (mostN n, ()) := by
  refine u_ref10_most (N := 0) ?_
  have : n = 0 ∨ n = 1 ∨ n = 2 ∨ n = 3 ∨ n = 4 ∨ n = 5 ∨ n = 6 := by omega
  rcases this with rfl | rfl | rfl | rfl | rfl | rfl | rfl <;> simp [M_ref10_most, mostN]
theorem sp_rRight {n a : Int} : S_ref10_Right n a = some (rightN n a, ()) := by
  refine u_ref10_Right (N := 0) ?_
  obtain ⟨k1, k2⟩ := kindN_le n
  unfold rightN
  by_cases h1 : n < 0
  · simp [M_ref10_Right, h1]; omega
  · by_cases h2 : 35 ≤ n
    · simp [M_ref10_Right, h1, h2]; omega
    · have h3 : 0 ≤ n := by omega
      have h4 : n < 35 := by omega
      by_cases h5 : kindN n = 1
      · simp [M_ref10_Right, sp_rOperand, h1, h2, h3, h4, h5]
      · by_cases h6 : 0 ≤ a <;> simp [M_ref10_Right, sp_rOperand, sp_rmost k1 k2, h1, h2, h3, h4, h5, h6]
@[simp] theorem sp_has {n : Int} : S_instr_has n = some (decide (kindN n ≠ 0), ()) := by
  refine u_instr_has (N := 0) ?_
  simp [M_instr_has, sp_Operand]
def instrP (l : List UInt8) : Pr (Int × Int) :=
  match byteP l with
  | .error e => .error e
  | .ok (x, l) => if 35 ≤ u8I x then .error 8 else if kindN (u8I x) = 0 then .ok ((u8I x, 0), l) else
    match intP l with
    | .error e => .error e
    | .ok (a, l) => if rightN (u8I x) a then .ok ((u8I x, a), l) else .error 2
theorem intP_len {l l' : List UInt8} {x : Int} (h : intP l = .ok (x, l')) : l'.length ≤ l.length := by
  unfold intP at h
  split at h
  · rename_i u l2 hb
    simp only [Except.ok.injEq, Prod.mk.injEq] at h
    obtain ⟨_, rfl⟩ := h
    exact bitsP_len hb
  · cases h
theorem instrP_len {l l' : List UInt8} {x : Int × Int} (h : instrP l = .ok (x, l')) : l'.length ≤ l.length := by
  cases l with
  | nil => simp [instrP, byteP] at h
  | cons y l =>
    simp only [instrP, byteP] at h
    split at h
    · cases h
    · split at h
      · cases h; simp
      · split at h
        · cases h
        · rename_i a l2 hi
          have := intP_len hi
          split at h
          · cases h; simp; omega
          · cases h
def two (p : Pr (Int × Int)) : Pr (Int × (Int × Unit)) :=
  match p with
  | .ok ((n, a), l) => .ok ((n, (a, ())), l)
  | .error e => .error e
theorem im_instr {l : List UInt8} (hl : Len l) : ImT (S_instr_Take l true 0) (two (instrP l)) (0, (0, ())) := by
  cases l with
  | nil =>
    obtain ⟨he, l', hB⟩ := im_Byte (l := [])
    refine ⟨by decide, l', u_instr_Take (N := 0) ?_⟩
    simp [M_instr_Take, hB, show u8I 0 = 0 from rfl, show kindN 0 = 0 from rfl]
  | cons x l =>
    have hB : S_cursor_Cursor_Byte (x :: l) true 0 = _ := im_Byte (l := x :: l)
    have hl2 : Len l := by unfold Len at hl ⊢; simp at hl; omega
    have hI := im_Int hl2
    simp only [instrP, byteP]
    by_cases h1 : 35 ≤ u8I x
    · rw [if_pos h1]
      refine ⟨by decide, l, u_instr_Take (N := 0) ?_⟩
      have hk : kindN (u8I x) = 0 := by
        unfold kindN
        repeat' split
        all_goals first | rfl | (exfalso; omega)
      simp [M_instr_Take, hB, h1, hk]
    · rw [if_neg h1]
      by_cases h2 : kindN (u8I x) = 0
      · rw [if_pos h2]
        refine u_instr_Take (N := 0) ?_
        have h3 : rightN (u8I x) 0 = true := by
          refine decide_eq_true ⟨u8_ge, by omega, .inr ⟨Int.le_refl _, ?_⟩⟩
          rw [h2]; decide
        simp [M_instr_Take, hB, h1, h2, sp_iRight, h3]
      · rw [if_neg h2]
        cases hi : intP l with
        | error e =>
          rw [hi] at hI
          obtain ⟨he, l', hI⟩ := hI
          refine ⟨he, l', u_instr_Take (N := 0) ?_⟩
          simp [M_instr_Take, hB, h1, h2, sp_iRight, hI, he]
        | ok p =>
          obtain ⟨a, l'⟩ := p
          rw [hi] at hI
          have hI : S_cursor_Cursor_Int l true 0 = _ := hI
          cases h3 : rightN (u8I x) a with
          | true =>
            simp only [h3, if_true]
            refine u_instr_Take (N := 0) ?_
            simp [M_instr_Take, hB, h1, h2, sp_iRight, hI, h3]
          | false =>
            simp only [h3, Bool.false_eq_true, if_false]
            refine ⟨by decide, l', u_instr_Take (N := 0) ?_⟩
            simp [M_instr_Take, hB, h1, h2, sp_iRight, hI, h3]
theorem ime_instr {l : List UInt8} {e : Int} (he : e ≠ 0) : S_instr_Take l true e = some (l, (true, (e, (0, (0, ()))))) := by
  refine u_instr_Take (N := 0) ?_
  simp [M_instr_Take, ime_Byte he, show u8I 0 = 0 from rfl, show kindN 0 = 0 from rfl, he]
end Go.Proofs.YtkdnbnkbnegckaaGreat
namespace Go.Proofs.YtkdnbnkbnegckaaGreat
open Go.RowKit

/-- One run, of at most so many: how many, and the number. -/
def runP (left : Int) (l : List UInt8) : Pr (Int × Int) :=
  match bitsP l with
  | .error e => .error e
  | .ok (u, l) => if u = 0 ∨ left < u then .error 5 else
    match intP l with
    | .error e => .error e
    | .ok (v, l) => .ok ((u, v), l)
theorem runP_len {left : Int} {l l' : List UInt8} {x : Int × Int} (h : runP left l = .ok (x, l')) : l'.length ≤ l.length ∧ 0 < x.1 ∧ x.1 ≤ left := by
  unfold runP at h
  split at h
  · cases h
  · rename_i u l1 hb
    have := bitsP_len hb
    have hu := bitsP_lt hb
    split at h
    · cases h
    · split at h
      · cases h
      · rename_i v l2 hi
        have := intP_len hi
        cases h
        exact ⟨by omega, by simp; omega, by simp; omega⟩
theorem im_run {l : List UInt8} {left : Int} (hl : Len l) (h0 : 0 ≤ left) (hm : left ≤ 1000000) : match runP left l with
    | .ok ((u, v), l') => S_runs_run l true 0 left = some (l', (true, (0, (u, (v, (true, ()))))))
    | .error e => e ≠ 0 ∧ ∃ l' u v, S_runs_run l true 0 left = some (l', (true, (e, (u, (v, (false, ())))))) := by
  have hB := im_Bits hl
  unfold runP
  cases hb : bitsP l with
  | error e =>
    rw [hb] at hB
    obtain ⟨he, l', hB⟩ := hB
    refine ⟨he, l', 0, 0, u_runs_run (N := 0) ?_⟩
    simp [M_runs_run, hB, he, ime_Int he]
  | ok p =>
    obtain ⟨u, l1⟩ := p
    have hu := bitsP_lt hb
    have hl1 : Len l1 := Nat.le_trans (bitsP_len hb) hl
    rw [hb] at hB
    have hB : S_cursor_Cursor_Bits l true 0 = _ := hB
    have hw : wrp .u64 left = left := wu64 h0 (by omega)
    have hI := im_Int hl1
    by_cases hc : u = 0 ∨ left < u
    · simp only [if_pos hc]
      refine ⟨by decide, l1, wrp .i64 u, 0, u_runs_run (N := 0) ?_⟩
      rcases hc with rfl | hc
      · simp [M_runs_run, hB, hw, ime_Int]
      · simp [M_runs_run, hB, hw, hc, ime_Int]
    · simp only [if_neg hc]
      cases hi : intP l1 with
      | error e =>
        rw [hi] at hI
        obtain ⟨he, l', hI⟩ := hI
        refine ⟨he, l', wrp .i64 u, 0, u_runs_run (N := 0) ?_⟩
        simp [M_runs_run, hB, hw, hI, he, show ¬u = 0 by omega, show ¬left < u by omega]
      | ok p =>
        obtain ⟨v, l'⟩ := p
        rw [hi] at hI
        have hI : S_cursor_Cursor_Int l1 true 0 = _ := hI
        refine u_runs_run (N := 0) ?_
        simp (disch := omega) [M_runs_run, hB, hw, hI, show ¬u = 0 by omega, show ¬left < u by omega, wi64]
def runsG (lo hi : Int) : Nat → Nat → Option Int → List UInt8 → Pr (List Int)
  | _, 0, _, l => .ok ([], l)
  | 0, _ + 1, _, _ => .error 1
  | f + 1, n + 1, last, l =>
    match runP ((n + 1 : Nat) : Int) l with
    | .error e => .error e
    | .ok ((u, v), l) => if last = some v then .error 5 else if v < lo ∨ hi < v then .error 2 else
      match runsG lo hi f (n + 1 - u.toNat) (some v) l with
      | .ok (r, l) => .ok (List.replicate u.toNat v ++ r, l)
      | .error e => .error e
/-- More fuel than there need be changes nothing. -/
theorem runsG_fuel {lo hi : Int} : ∀ (f g n : Nat) (last : Option Int) (l : List UInt8), n ≤ f → n ≤ g → runsG lo hi f n last l = runsG lo hi g n last l
  | f, g, 0, last, l, _, _ => by simp [runsG]
  | 0, g, n + 1, last, l, h, _ => by omega
  | f + 1, 0, n + 1, last, l, _, h => by omega
  | f + 1, g + 1, n + 1, last, l, h1, h2 => by
    simp only [runsG]
    cases hr : runP ((n + 1 : Nat) : Int) l with
    | error e => rfl
    | ok p =>
      obtain ⟨⟨u, v⟩, l2⟩ := p
      have hu := runP_len hr
      simp only at hu
      simp only
      rw [runsG_fuel f g (n + 1 - u.toNat) (some v) l2 (by omega) (by omega)]
def runsP (n lo hi : Int) (l : List UInt8) : Pr (List Int) := runsG lo hi n.toNat n.toNat none l
theorem last_test {β : Type} {out : List Int} {v : Int} {k : List Int × (Bool × Unit) → Option β} (ho : out.length ≤ 2000000) :
    joinK (if 0 < out.length then if 0 ≤ wrp .i64 ((out.length : Int) - 1) then if wrp .i64 ((out.length : Int) - 1) < out.length then bnd out[(wrp .i64 ((out.length : Int) - 1)).toNat]? fun x => leftK (out, (decide (x = v), ())) else none else none else leftK (out, (false, ()))) k = k (out, (decide (out.getLast? = some v), ())) := by
  cases h : out.getLast? with
  | none => simp [List.getLast?_eq_none_iff.1 h]
  | some x =>
    obtain ⟨ys, rfl⟩ := List.getLast?_eq_some_iff.1 h
    simp at ho
    have hw : wrp .i64 (ys.length : Int) = ys.length := wi64 (by omega) (by omega)
    simp [hw, show (ys.length : Int) < ys.length + 1 by omega]
theorem iter_fill {α β : Type} {m c : Nat} {v : α} {k : List α → Option β} (hc : c ≤ 1000) {N : Nat} {out : List α} (hN : m < N) (hl : out.length + m ≤ 1000000) :
    iter (fun (d : List α × (Int × Unit)) again => if d.2.1 < (m : Int) then chk (room d.1.length 1 c) (again (d.1 ++ [v], (wrp .i64 (d.2.1 + 1), ()))) else k d.1) N (out, (0, ())) = k (out ++ List.replicate m v) := by
  refine iter_to (fun d => m - d.2.1.toNat) (fun d => ∃ i : Nat, d = (out ++ List.replicate i v, ((i : Int), ())) ∧ i ≤ m) ?_ _ _ ⟨0, by simp, Nat.zero_le _⟩ (by simpa using hN)
  rintro _ again ⟨i, rfl, hi⟩ ih
  by_cases h : i < m
  · have hr := room_t (a := out.length + i) (b := 1) (c := c) (by omega) hc
    have hw : wrp .i64 ((i : Int) + 1) = (i : Int) + 1 := wi64 (by omega) (by omega)
    have := ih (out ++ List.replicate (i + 1) v, ((i : Int) + 1, ())) ⟨i + 1, rfl, h⟩ (by simp; omega)
    rw [List.replicate_succ'] at this
    simpa [h, hr, hw] using this
  · have : i = m := by omega
    subst this
    simp
theorem im_runs {l : List UInt8} {n lo hi : Int} (hl : Len l) (hn : n ≤ 1000000) : Im (S_runs_Take l true 0 n lo hi) (runsP n lo hi l) [] := by
  refine Im.of ?_ fun q hq => u_runs_Take (N := n.toNat + 1) hq
  unfold runsP
  simp [M_runs_Take]
  refine iter_ex (R := fun r => Im r (runsG lo hi n.toNat n.toNat none l) []) (fun d => n.toNat - d.1.length) (fun d => ∃ (out : List Int) (l2 : List UInt8), d = (out, (l2, (true, (0, ())))) ∧ (out.length ≤ n.toNat) ∧ Len l2 ∧ runsG lo hi n.toNat n.toNat none l = withP out (runsG lo hi n.toNat (n.toNat - out.length) out.getLast? l2)) ?_ _ _ ⟨[], l, rfl, Nat.zero_le _, hl, by simp; cases runsG lo hi n.toNat n.toNat none l <;> rfl⟩ (by simp)
  rintro _ again ⟨out, l2, rfl, ho, hl2, ht⟩ ih
  by_cases hlt : (out.length : Int) < n
  · have hw : wrp .i64 (n - (out.length : Int)) = n - out.length := wi64 (by omega) (by omega)
    have hR := im_run (left := n - out.length) hl2 (by omega) (by omega)
    obtain ⟨j, hj⟩ : ∃ j, n.toNat - out.length = j + 1 := ⟨n.toNat - out.length - 1, by omega⟩
    obtain ⟨f, hf⟩ : ∃ f, n.toNat = f + 1 := ⟨n.toNat - 1, by omega⟩
    have hj2 : ((j + 1 : Nat) : Int) = n - out.length := by omega
    have hG : runsG lo hi n.toNat (n.toNat - out.length) out.getLast? l2 = runsG lo hi (f + 1) (j + 1) out.getLast? l2 := by rw [hj, hf]
    rw [hG] at ht
    simp only [runsG, hj2] at ht
    cases hr : runP (n - out.length) l2 with
    | error e =>
      rw [hr] at hR ht
      obtain ⟨he, l', u, v, hR⟩ := hR
      rw [ht]
      refine ⟨he, l', ?_⟩
      simp [hlt, hw, hR]
    | ok p =>
      obtain ⟨⟨u, v⟩, l'⟩ := p
      obtain ⟨h1, h2, h3⟩ := runP_len hr
      rw [hr] at hR ht
      simp only at hR ht
      by_cases h5 : out.getLast? = some v
      · rw [if_pos h5] at ht
        rw [ht]
        refine ⟨by decide, l', ?_⟩
        simp [hlt, hw, hR]
        rw [last_test (by omega)]
        simp [h5]
      · rw [if_neg h5] at ht
        by_cases h6 : v < lo ∨ hi < v
        · rw [if_pos h6] at ht
          rw [ht]
          refine ⟨by decide, l', ?_⟩
          simp [hlt, hw, hR]
          rw [last_test (by omega)]
          by_cases h7 : v < lo
          · simp [h5, h7]
          · simp [h5, h7, show hi < v by omega]
        · rw [if_neg h6] at ht
          simp only at h2 h3
          obtain ⟨m, rfl⟩ := Int.eq_ofNat_of_zero_le (show 0 ≤ u by omega)
          simp [hlt, hw, hR]
          rw [last_test (by omega)]
          simp [h5, show ¬v < lo by omega, show ¬hi < v by omega]
          rw [iter_fill (k := fun o => again (o, (l', (true, (0, ()))))) (by omega) (by omega) (by omega)]
          refine ih _ ⟨_, _, rfl, by simp; omega, Nat.le_trans h1 hl2, ?_⟩ (by simp; omega)
          rw [ht]
          have hm : 0 < m := by omega
          have e1 : (out ++ List.replicate m v).getLast? = some v := by simp [List.getLast?_append, List.getLast?_replicate, show ¬m = 0 by omega]
          have e2 : n.toNat - (out ++ List.replicate m v).length = j + 1 - ((m : Int)).toNat := by simp; omega
          rw [e1, e2, runsG_fuel n.toNat f _ _ _ (by omega) (by omega)]
          cases runsG lo hi f (j + 1 - ((m : Int)).toNat) (some v) l' <;> simp [withP]
  · have : n.toNat - out.length = 0 := by omega
    rw [ht, this]
    simp [hlt, runsG, withP]
    rfl
theorem ime_run {l : List UInt8} {e left : Int} (he : e ≠ 0) : S_runs_run l true e left = some (l, (true, (e, (0, (0, (false, ())))))) := by
  refine u_runs_run (N := 0) ?_
  simp [M_runs_run, ime_Bits he, ime_Int he, he]
theorem ime_runs {l : List UInt8} {e n lo hi : Int} (he : e ≠ 0) : S_runs_Take l true e n lo hi = some (l, (true, (e, ([], ())))) := by
  refine u_runs_Take (N := 1) ?_
  by_cases h : 0 < n <;> simp [M_runs_Take, iter_s, ime_run he, h, he]
/-! Lines -/
theorem im_lines {l : List UInt8} {n : Int} (hl : Len l) (hn : n ≤ 1000000) : Im (S_lines_Take l true 0 n) (runsP n 0 65535 l) [] :=
  Im.of (im_runs hl hn) fun q hq => u_lines_Take (N := 0) (by simp [M_lines_Take, hq])
theorem ime_lines {l : List UInt8} {e n : Int} (he : e ≠ 0) : S_lines_Take l true e n = some (l, (true, (e, ([], ())))) := u_lines_Take (N := 0) (by simp [M_lines_Take, ime_runs he])
end Go.Proofs.YtkdnbnkbnegckaaGreat
namespace Go.Proofs.YtkdnbnkbnegckaaGreat
open Go.RowKit
abbrev Nd := Int × (Int × (Int × (Int × (Int × (Int × Int)))))
def nodeB (p : Nd) (i to : Int) : Bool := decide (0 ≤ p.2.1 ∧ p.2.1 ≤ 39 ∧ 0 ≤ p.2.2.1 ∧ p.2.2.1 ≤ 65535 ∧ 0 ≤ p.2.2.2.2.1 ∧ p.2.2.2.2.1 ≤ 8 ∧ to ≤ p.2.2.2.1 ∧ p.2.2.2.1 ≤ 256 ∧ p.2.2.2.1 + p.2.2.2.2.1 ≤ p.2.2.2.2.2.1 ∧ p.2.2.2.2.2.1 ≤ 256 ∧
  (if i = 0 then p.1 = -1 ∧ p.2.2.1 = 0 ∧ p.2.2.2.1 = 0 ∧ p.2.2.2.2.2.2 = 0 else 0 ≤ p.1 ∧ p.1 < i ∧ 1 ≤ p.2.2.2.2.2.2 ∧ p.2.2.2.2.2.2 ≤ 1999))
def treeB : Int → Int → List Nd → Bool
  | _, _, [] => true
  | i, to, p :: l => nodeB p i to && treeB (i + 1) p.2.2.2.2.2.1 l
def rightT (l : List Nd) : Bool := decide (1 ≤ l.length ∧ l.length ≤ 120) && treeB 0 0 l
@[simp] theorem sp_within {a b c : Int} : S_tree_within a b c = some (decide (b ≤ a) && decide (a ≤ c), ()) := by
  refine u_tree_within (N := 0) ?_
  by_cases h : b ≤ a <;> simp [M_tree_within, h]
section
variable {α : Type} {p q : Prop} [Decidable p] [Decidable q] {F X : α}
theorem ite_m1 : (if p then F else if q then F else X) = if p ∨ q then F else X := by by_cases h : p <;> by_cases h2 : q <;> simp [h, h2]
theorem ite_m2 : (if p then (if q then X else F) else F) = if p ∧ q then X else F := by by_cases h : p <;> by_cases h2 : q <;> simp [h, h2]
theorem ite_m3 : (if p then F else if q then X else F) = if ¬p ∧ q then X else F := by by_cases h : p <;> by_cases h2 : q <;> simp [h, h2]
theorem ite_b {u : α} : (if p then some (true, u) else some (false, u)) = some (decide p, u) := by by_cases h : p <;> simp [h]
end
theorem sp_tmay {p : Nd} {i to : Int} (hi : 0 ≤ i) (hi2 : i ≤ 1000000) (h0 : 0 ≤ to) : S_tree_may p.1 p.2.1 p.2.2.1 p.2.2.2.1 p.2.2.2.2.1 p.2.2.2.2.2.1 p.2.2.2.2.2.2 i to = some (nodeB p i to, ()) := by
  refine u_tree_may (N := 0) ?_
  obtain ⟨a, b, c, d, e, f, g⟩ := p
  have hL : eqL [a, b, c, d, e, f, g] [-1, b, 0, 0, e, f, 0] = decide (a = -1 ∧ c = 0 ∧ d = 0 ∧ g = 0) := by simp [eqL]
  have hw : wrp .i64 (i - 1) = i - 1 := wi64 (by omega) (by omega)
  simp [M_tree_may]
  rw [hL, hw]
  simp only [joinK_if, joinK_l, joinK_r]
  have hW : to ≤ d ∧ d ≤ 256 ∧ 0 ≤ e ∧ e ≤ 8 → wrp .i64 (d + e) = d + e := fun h => wi64 (by omega) (by omega)
  generalize wrp .i64 (d + e) = W at *
  simp only [nodeB, ← Bool.decide_and, ← ite_b, ite_m2]
  by_cases h0 : i = 0
  · simp only [h0, if_true, ite_m2]
    split
    · rw [if_pos (by omega)]
    · rw [if_neg (by omega)]
  · simp only [h0, if_false, ite_m2]
    split
    · rw [if_pos (by omega)]
    · rw [if_neg (by omega)]
theorem treeB_drop {l : List Nd} {k : Nat} {i to : Int} (h : k < l.length) : treeB i to (l.drop k) = (nodeB l[k] i to && treeB (i + 1) l[k].2.2.2.2.2.1 (l.drop (k + 1))) := by
  rw [List.drop_eq_getElem_cons h]; rfl
theorem sp_rRight13 {l : List Nd} : S_ref13_Right l = some (rightT l, ()) := by
  refine u_ref13_Right (N := l.length + 1) ?_
  simp [M_ref13_Right]
  by_cases h1 : l.length < 1
  · have : l = [] := List.eq_nil_of_length_eq_zero (by omega)
    subst this
    simp [rightT]
  · by_cases h2 : 120 < l.length
    · simp [rightT, show ¬(l.length : Int) < 1 by omega, show (120 : Int) < l.length by omega, show ¬l.length ≤ 120 by omega]
    · simp [show ¬(l.length : Int) < 1 by omega, show ¬(120 : Int) < l.length by omega]
      refine iter_to (fun d => l.length - d.2.1.toNat) (fun d => ∃ (k : Nat) (to : Int), d = (to, ((k : Int), ())) ∧ k ≤ l.length ∧ 0 ≤ to ∧ rightT l = treeB k to (l.drop k)) ?_ _ _ ⟨0, 0, rfl, Nat.zero_le _, Int.le_refl _, by simp [rightT]; omega⟩ (by simp)
      rintro _ again ⟨k, to, rfl, hk, ht, hr⟩ ih
      by_cases hlt : k < l.length
      · have hw : wrp .i64 ((k : Int) + 1) = (k : Int) + 1 := wi64 (by omega) (by omega)
        rw [treeB_drop hlt] at hr
        simp [hlt, bnd_get hlt, hw]
        generalize l[k] = p at *
        obtain ⟨a, b, c, d, e, f, g⟩ := p
        have hgood : nodeB (a, b, c, d, e, f, g) k to = true → again (f, ((k : Int) + 1, ())) = some (rightT l, ()) := fun hg => by
          have := of_decide_eq_true hg
          simp only at this
          refine ih _ ⟨k + 1, f, rfl, hlt, by omega, by rw [hr, hg]; rfl⟩ (by simp; omega)
        have hbad : nodeB (a, b, c, d, e, f, g) k to = false → rightT l = false := fun hg => by rw [hr, hg]; rfl
        have hW : to ≤ d ∧ d ≤ 256 ∧ d ≤ f ∧ f ≤ 256 → wrp .i64 (f - d) = f - d := fun h => wi64 (by omega) (by omega)
        simp only [joinK_if, joinK_l, joinK_r]
        generalize wrp .i64 (f - d) = W at *
        by_cases h0 : k = 0
        · subst h0
          simp only [if_true, Nat.lt_irrefl, if_false, ite_m1, ite_m2, ite_m3]
          cases hg : nodeB (a, b, c, d, e, f, g) (0 : Nat) to with
          | true =>
            have := of_decide_eq_true hg
            simp at this
            rw [if_pos (by omega)]
            exact hgood hg
          | false =>
            have := of_decide_eq_false hg
            simp only [Int.natCast_zero, if_true] at this
            rw [if_neg (by omega), hbad hg]
        · simp only [h0, show 0 < k by omega, if_true, if_false, ite_m1]
          cases hg : nodeB (a, b, c, d, e, f, g) k to with
          | true =>
            have := of_decide_eq_true hg
            simp only [show ¬((k : Int) = 0) by omega, if_false] at this
            rw [if_neg (by omega)]
            exact hgood hg
          | false =>
            have := of_decide_eq_false hg
            simp only [show ¬((k : Int) = 0) by omega, if_false] at this
            rw [if_pos (by omega), hbad hg]
      · have : k = l.length := by omega
        subst this
        rw [hr]
        simp [treeB]
theorem sp_tRight {l : List Nd} (hl : l.length ≤ 1000000) : S_tree_Right l = some (rightT l, ()) := by
  refine u_tree_Right (N := l.length + 1) ?_
  simp [M_tree_Right]
  refine iter_to (fun d => l.length - d.2.1.toNat) (fun d => ∃ (k : Nat) (to : Int), d = (to, ((k : Int), ())) ∧ k ≤ l.length ∧ k ≤ 120 ∧ 0 ≤ to ∧ rightT l = (decide (1 ≤ l.length ∧ l.length ≤ 120) && treeB k to (l.drop k))) ?_ _ _ ⟨0, 0, rfl, Nat.zero_le _, by decide, Int.le_refl _, by simp [rightT]⟩ (by simp)
  rintro _ again ⟨k, to, rfl, hk, hk2, ht, hr⟩ ih
  by_cases hlt : k < l.length
  · have hw : wrp .i64 ((k : Int) + 1) = (k : Int) + 1 := wi64 (by omega) (by omega)
    simp [hlt, bnd_get hlt, hw]
    by_cases h120 : 120 ≤ k
    · have : rightT l = false := by simp [rightT]; omega
      simp [this, show (120 : Int) ≤ k by omega]
    · rw [treeB_drop hlt] at hr
      rw [sp_tmay (by omega) (by omega) ht]
      cases hg : nodeB l[k] k to with
      | true =>
        have := of_decide_eq_true hg
        rw [hg] at hr
        simp [show ¬(120 : Int) ≤ k by omega]
        exact ih _ ⟨k + 1, _, rfl, hlt, by omega, by omega, by rw [hr]; rfl⟩ (by simp; omega)
      | false =>
        rw [hg] at hr
        simp [show ¬(120 : Int) ≤ k by omega, hr]
  · have : k = l.length := by omega
    subst this
    rw [hr]
    simp [treeB]
    rw [← Bool.decide_and]
    exact decide_eq_decide.2 (by omega)
/-- Seven numbers with a sign; many of them. -/
def nodeP (l : List UInt8) : Pr Nd :=
  match intP l with
  | .error e => .error e
  | .ok (a, l) =>
  match intP l with
  | .error e => .error e
  | .ok (b, l) =>
  match intP l with
  | .error e => .error e
  | .ok (c, l) =>
  match intP l with
  | .error e => .error e
  | .ok (d, l) =>
  match intP l with
  | .error e => .error e
  | .ok (f, l) =>
  match intP l with
  | .error e => .error e
  | .ok (g, l) =>
  match intP l with
  | .error e => .error e
  | .ok (h, l) => .ok ((a, b, c, d, f, g, h), l)
def nodesP : Nat → List UInt8 → Pr (List Nd)
  | 0, l => .ok ([], l)
  | n + 1, l =>
    match nodeP l with
    | .error e => .error e
    | .ok (p, l) =>
    match nodesP n l with
    | .ok (r, l) => .ok (p :: r, l)
    | .error e => .error e
def treeP (l : List UInt8) : Pr (List Nd) :=
  match numP 120 l with
  | .error e => .error e
  | .ok (u, l) =>
  match nodesP u.toNat l with
  | .error e => .error e
  | .ok (r, l) => if rightT r then .ok (r, l) else .error 14
theorem im_node {l : List UInt8} (hl : Len l) : match nodeP l with
    | .ok ((a, b, c, d, f, g, h), l') => S_tree_take l true 0 = some (l', (true, (0, (a, (b, (c, (d, (f, (g, (h, ()))))))))))
    | .error e => e ≠ 0 ∧ ∃ l' a b c d f g h, S_tree_take l true 0 = some (l', (true, (e, (a, (b, (c, (d, (f, (g, (h, ())))))))))) := by
  unfold nodeP
  have hI := im_Int hl
  cases h1 : intP l with
  | error e =>
    rw [h1] at hI
    obtain ⟨he, l', hI⟩ := hI
    refine ⟨he, l', 0, 0, 0, 0, 0, 0, 0, u_tree_take (N := 0) ?_⟩
    simp [M_tree_take, hI, ime_Int he]
  | ok p =>
    obtain ⟨a, l1⟩ := p
    dsimp only
    have k1 : Len l1 := Nat.le_trans (intP_len h1) hl
    rw [h1] at hI
    have e1 : S_cursor_Cursor_Int l true 0 = _ := hI
    have hI := im_Int k1
    cases h2 : intP l1 with
    | error e =>
      rw [h2] at hI
      obtain ⟨he, l', hI⟩ := hI
      refine ⟨he, l', a, 0, 0, 0, 0, 0, 0, u_tree_take (N := 0) ?_⟩
      simp [M_tree_take, e1, hI, ime_Int he]
    | ok p =>
      obtain ⟨b, l2⟩ := p
      dsimp only
      have k2 : Len l2 := Nat.le_trans (intP_len h2) k1
      rw [h2] at hI
      have e2 : S_cursor_Cursor_Int l1 true 0 = _ := hI
      have hI := im_Int k2
      cases h3 : intP l2 with
      | error e =>
        rw [h3] at hI
        obtain ⟨he, l', hI⟩ := hI
        refine ⟨he, l', a, b, 0, 0, 0, 0, 0, u_tree_take (N := 0) ?_⟩
        simp [M_tree_take, e1, e2, hI, ime_Int he]
      | ok p =>
        obtain ⟨c, l3⟩ := p
        dsimp only
        have k3 : Len l3 := Nat.le_trans (intP_len h3) k2
        rw [h3] at hI
        have e3 : S_cursor_Cursor_Int l2 true 0 = _ := hI
        have hI := im_Int k3
        cases h4 : intP l3 with
        | error e =>
          rw [h4] at hI
          obtain ⟨he, l', hI⟩ := hI
          refine ⟨he, l', a, b, c, 0, 0, 0, 0, u_tree_take (N := 0) ?_⟩
          simp [M_tree_take, e1, e2, e3, hI, ime_Int he]
        | ok p =>
          obtain ⟨d, l4⟩ := p
          dsimp only
          have k4 : Len l4 := Nat.le_trans (intP_len h4) k3
          rw [h4] at hI
          have e4 : S_cursor_Cursor_Int l3 true 0 = _ := hI
          have hI := im_Int k4
          cases h5 : intP l4 with
          | error e =>
            rw [h5] at hI
            obtain ⟨he, l', hI⟩ := hI
            refine ⟨he, l', a, b, c, d, 0, 0, 0, u_tree_take (N := 0) ?_⟩
            simp [M_tree_take, e1, e2, e3, e4, hI, ime_Int he]
          | ok p =>
            obtain ⟨f, l5⟩ := p
            dsimp only
            have k5 : Len l5 := Nat.le_trans (intP_len h5) k4
            rw [h5] at hI
            have e5 : S_cursor_Cursor_Int l4 true 0 = _ := hI
            have hI := im_Int k5
            cases h6 : intP l5 with
            | error e =>
              rw [h6] at hI
              obtain ⟨he, l', hI⟩ := hI
              refine ⟨he, l', a, b, c, d, f, 0, 0, u_tree_take (N := 0) ?_⟩
              simp [M_tree_take, e1, e2, e3, e4, e5, hI, ime_Int he]
            | ok p =>
              obtain ⟨g, l6⟩ := p
              dsimp only
              have k6 : Len l6 := Nat.le_trans (intP_len h6) k5
              rw [h6] at hI
              have e6 : S_cursor_Cursor_Int l5 true 0 = _ := hI
              have hI := im_Int k6
              cases h7 : intP l6 with
              | error e =>
                rw [h7] at hI
                obtain ⟨he, l', hI⟩ := hI
                refine ⟨he, l', a, b, c, d, f, g, 0, u_tree_take (N := 0) ?_⟩
                simp [M_tree_take, e1, e2, e3, e4, e5, e6, hI, ime_Int he]
              | ok p =>
                obtain ⟨h, l7⟩ := p
                dsimp only
                have k7 : Len l7 := Nat.le_trans (intP_len h7) k6
                rw [h7] at hI
                have e7 : S_cursor_Cursor_Int l6 true 0 = _ := hI
                refine u_tree_take (N := 0) ?_
                simp [M_tree_take, e1, e2, e3, e4, e5, e6, e7]
theorem ime_node {l : List UInt8} {e : Int} (he : e ≠ 0) : S_tree_take l true e = some (l, (true, (e, (0, (0, (0, (0, (0, (0, (0, ())))))))))) := by
  refine u_tree_take (N := 0) ?_
  simp [M_tree_take, ime_Int he]
theorem nodeP_len {l l' : List UInt8} {x : Nd} (h : nodeP l = .ok (x, l')) : l'.length ≤ l.length := by
  unfold nodeP at h
  split at h
  · cases h
  · rename_i h1; have i1 := intP_len h1
    split at h
    · cases h
    · rename_i h2; have i2 := intP_len h2
      split at h
      · cases h
      · rename_i h3; have i3 := intP_len h3
        split at h
        · cases h
        · rename_i h4; have i4 := intP_len h4
          split at h
          · cases h
          · rename_i h5; have i5 := intP_len h5
            split at h
            · cases h
            · rename_i h6; have i6 := intP_len h6
              split at h
              · cases h
              · rename_i h7; have i7 := intP_len h7
                cases h
                omega
theorem im_tree {l : List UInt8} (hl : Len l) : Im (S_tree_Take l true 0) (treeP l) [] := by
  have hb := im_Num (m := 120) hl (by omega) (by omega)
  unfold treeP
  cases h : numP 120 l with
  | error e =>
    rw [h] at hb
    obtain ⟨he, l', hb⟩ := hb
    refine ⟨he, l', u_tree_Take (N := 1) ?_⟩
    simp [M_tree_Take, hb, iter_s, he]
  | ok p =>
    obtain ⟨u, l'⟩ := p
    obtain ⟨h1, h2, h3⟩ := numP_ok h
    rw [h] at hb
    obtain ⟨n, rfl⟩ := Int.eq_ofNat_of_zero_le h1
    refine Im.of ?_ fun q hq => u_tree_Take (N := n + 1) hq
    simp [M_tree_Take, show S_cursor_Cursor_Num l true 0 120 = _ from hb]
    refine iter_ex (R := fun r => Im r _ []) (fun d => n - d.2.2.2.2.1.toNat) (fun d => ∃ (k : Nat) (out : List Nd) (l2 : List UInt8) (e : Int), d = (out, (l2, (true, (e, ((k : Int), ()))))) ∧ k ≤ n ∧ out.length = k ∧ ((e = 0 ∧ Len l2 ∧ nodesP n l' = withP out (nodesP (n - k) l2)) ∨ (e ≠ 0 ∧ nodesP n l' = .error e))) ?_ _ _ ⟨0, [], l', 0, rfl, Nat.zero_le _, rfl, .inl ⟨rfl, Nat.le_trans h3 hl, by cases nodesP n l' <;> rfl⟩⟩ (by simp)
    rintro _ again ⟨k, out, l2, e, rfl, hk, ho, hs⟩ ih
    by_cases hlt : k < n
    · have hr := room_t (a := k) (b := 1) (c := 56) (by omega) (by omega)
      have hw : wrp .i64 ((k : Int) + 1) = (k : Int) + 1 := wi64 (by omega) (by omega)
      rcases hs with ⟨rfl, hl2, ht⟩ | ⟨he, ht⟩
      · obtain ⟨j, hj⟩ : ∃ j, n - k = j + 1 := ⟨n - k - 1, by omega⟩
        rw [hj, nodesP] at ht
        have hN := im_node hl2
        cases hp : nodeP l2 with
        | error e =>
          rw [hp] at hN ht
          obtain ⟨he, l3, a, b, c, d, f, g, h, hN⟩ := hN
          have := ih (out ++ [(a, (b, (c, (d, (f, (g, h))))))], (l3, (true, (e, ((k : Int) + 1, ()))))) ⟨k + 1, _, _, _, rfl, hlt, by simp [ho], .inr ⟨he, ht⟩⟩ (by simp; omega)
          simpa [hlt, hN, ho, hr, hw] using this
        | ok q =>
          obtain ⟨⟨a, b, c, d, f, g, h⟩, l3⟩ := q
          rw [hp] at hN ht
          simp only at hN ht
          have := ih (out ++ [(a, (b, (c, (d, (f, (g, h))))))], (l3, (true, (0, ((k : Int) + 1, ()))))) ⟨k + 1, _, _, _, rfl, hlt, by simp [ho], .inl ⟨rfl, Nat.le_trans (nodeP_len hp) hl2, by
            rw [ht, show n - (k + 1) = j by omega]
            cases nodesP j l3 <;> simp [withP]⟩⟩ (by simp; omega)
          simpa [hlt, hN, ho, hr, hw] using this
      · have := ih (out ++ [(0, (0, (0, (0, (0, (0, 0))))))], (l2, (true, (e, ((k : Int) + 1, ()))))) ⟨k + 1, _, _, _, rfl, hlt, by simp [ho], .inr ⟨he, ht⟩⟩ (by simp; omega)
        simpa [hlt, ime_node he, ho, hr, hw] using this
    · have : k = n := by omega
      subst this
      rcases hs with ⟨rfl, hl2, ht⟩ | ⟨he, ht⟩
      · have ht2 : nodesP k l' = .ok (out, l2) := by rw [ht]; simp [nodesP, withP]
        rw [ht2]
        simp only
        cases hr : rightT out with
        | true =>
          simp [sp_tRight (l := out) (by omega), hr]
          rfl
        | false =>
          simp [sp_tRight (l := out) (by omega), hr]
          exact ⟨by decide, l2, rfl⟩
      · rw [ht]
        refine ⟨he, l2, ?_⟩
        simp [he]
theorem nodesP_len : ∀ {n : Nat} {l l' : List UInt8} {x : List Nd}, nodesP n l = .ok (x, l') → l'.length ≤ l.length ∧ x.length = n
  | 0, l, l', x, h => by simp only [nodesP, Except.ok.injEq, Prod.mk.injEq] at h; obtain ⟨rfl, rfl⟩ := h; simp
  | n + 1, l, l', x, h => by
    rw [nodesP] at h
    split at h
    · cases h
    · rename_i p l2 hp
      split at h
      · rename_i r l3 hr
        cases h
        have h1 := nodesP_len hr
        have h2 := nodeP_len hp
        simp; omega
      · cases h
theorem treeP_len {l l' : List UInt8} {x : List Nd} (h : treeP l = .ok (x, l')) : l'.length ≤ l.length ∧ x.length ≤ 120 := by
  unfold treeP at h
  split at h
  · cases h
  · rename_i u l2 hn
    obtain ⟨h1, h2, h3⟩ := numP_ok hn
    split at h
    · cases h
    · rename_i r l3 hr
      have h4 := nodesP_len hr
      split at h
      · cases h; omega
      · cases h
end Go.Proofs.YtkdnbnkbnegckaaGreat
