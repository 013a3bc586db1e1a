/- What was laid is taken again, in plain Lean. -/
import Derived.Test.YtkdnbnkbnegckaaGreatSpG
namespace Go.Proofs.YtkdnbnkbnegckaaGreat
open Go.RowKit
set_option maxRecDepth 8000
theorem getG_put (rest : List UInt8) : ∀ (f i n m : Nat), i + f = 9 → m < 2 ^ (7 * f + 1) → (0 < i → 0 < m) → getG i n (putF f m ++ rest) = (n + m * 2 ^ (7 * i), i + (putF f m).length, 0) := by
  intro f
  induction f with
  | zero =>
    intro i n m hi hm h0
    obtain rfl : i = 9 := by omega
    have hm2 : m < 2 := by simpa using hm
    have hp := h0 (by omega)
    obtain rfl : m = 1 := by omega
    simp [putF, getG]
  | succ f ih =>
    intro i n m hi hm h0
    by_cases h : m < 128
    · rw [putF_lt _ h]
      have e : (UInt8.ofNat m).toNat = m := by simp only [UInt8.toNat_ofNat']; omega
      simp only [List.cons_append, List.nil_append, getG, e, List.length_singleton]
      rw [if_neg (by omega), if_neg (by omega), if_neg (by omega)]
    · rw [putF_ge _ (by omega)]
      have e : (UInt8.ofNat (m % 128 + 128)).toNat = m % 128 + 128 := by simp only [UInt8.toNat_ofNat']; omega
      simp only [List.cons_append, getG, e, List.length_cons]
      have hm3 : m / 128 < 2 ^ (7 * f + 1) := by
        have : 2 ^ (7 * (f + 1) + 1) = 2 ^ (7 * f + 1) * 128 := by rw [show 7 * (f + 1) + 1 = (7 * f + 1) + 7 by omega, Nat.pow_add]
        omega
      rw [if_neg (by omega), if_pos (by omega), ih (i + 1) _ (m / 128) (by omega) hm3 (by omega)]
      have h2 : 2 ^ (7 * (i + 1)) = 128 * 2 ^ (7 * i) := by rw [Nat.mul_add, Nat.pow_add, Nat.mul_comm]
      have h3 : (m % 128 + 128 - 128) * 2 ^ (7 * i) + m / 128 * 2 ^ (7 * (i + 1)) = m * 2 ^ (7 * i) := by
        rw [h2, ← Nat.mul_assoc, ← Nat.add_mul, show m % 128 + 128 - 128 + m / 128 * 128 = m by omega]
      simp only [Prod.mk.injEq, and_true]
      exact ⟨by omega, by omega⟩
theorem getG_put9 {m : Nat} (f : Nat) (hf : f = 9) (hm : m < 2 ^ (7 * f + 1)) (rest : List UInt8) : getG 0 0 (putF f m ++ rest) = (m, (putF f m).length, 0) := by
  rw [getG_put rest f 0 0 m (by omega) hm (fun h => absurd h (Nat.lt_irrefl 0)), Nat.mul_zero, Nat.pow_zero, Nat.mul_one, Nat.zero_add, Nat.zero_add]
theorem getB_put {m : Nat} (hm : m < 2 ^ 64) (rest : List UInt8) : getB (putB m ++ rest) = (m, (putB m).length, 0) := by
  exact getG_put9 9 rfl hm rest
theorem unfold_fold (n : Int) : unfoldI (foldN n) = n := by
  unfold unfoldI
  by_cases h : n < 0
  · have := foldN_neg h
    rw [if_pos (by omega)]; omega
  · have := foldN_nn h
    rw [if_neg (by omega)]; omega
theorem bitsP_put {m : Nat} (hm : m < 18446744073709551616) (r : List UInt8) : bitsP (putB m ++ r) = .ok ((m : Int), r) := by
  have := getB_put (m := m) (by omega) r
  unfold bitsP
  rw [this]
  simp
theorem intP_put {n : Int} (hn : I64 n) (r : List UInt8) : intP (intB n ++ r) = .ok (n, r) := by
  have := foldN_lt hn.1 hn.2
  unfold intP intB
  rw [bitsP_put (by omega)]
  simp [unfold_fold]
theorem numP_put {m : Nat} {mx : Int} (hm : m < 18446744073709551616) (h : (m : Int) ≤ mx) (r : List UInt8) : numP mx (putB m ++ r) = .ok ((m : Int), r) := by
  unfold numP
  rw [bitsP_put hm]
  simp only
  rw [if_neg (by omega)]
theorem textP_put {t : List UInt8} {mx : Int} (hm : t.length < 1000000000) (h : (t.length : Int) ≤ mx) (r : List UInt8) : textP mx (putB t.length ++ (t ++ r)) = .ok (t, r) := by
  unfold textP
  rw [numP_put (by omega) h]
  simp only
  rw [if_neg (by simp; omega)]
  simp
theorem toU8_I {t : Int} (h : 0 ≤ t) (h2 : t < 256) : u8I (toU8 t) = t := inU8_ok (decide_eq_true ⟨h, h2⟩)
theorem tyP_put (r : List UInt8) : ∀ {l : List Int}, l.all typeB = true → tyP l.length (l.flatMap (fun t => [toU8 t]) ++ r) = .ok (l, r)
  | [], _ => rfl
  | t :: l, h => by
    simp only [List.all_cons, Bool.and_eq_true] at h
    have h1 := h.1
    simp only [typeB, Bool.or_eq_true, decide_eq_true_eq] at h1
    have e : u8I (toU8 t) = t := toU8_I (by omega) (by omega)
    simp only [List.flatMap_cons, List.singleton_append, List.cons_append, List.length_cons, tyP, e]
    rw [if_pos h1, List.nil_append, tyP_put r h.2]
theorem sigP_put {l : List Int} {m : Int} (hm : (l.length : Int) ≤ m) (hl : l.length < 1000000000) (h : l.all typeB = true) (r : List UInt8) : sigP m (sigL l ++ r) = .ok (l, r) := by
  unfold sigP sigL
  rw [List.append_assoc, numP_put (by omega) hm]
  exact tyP_put r h
theorem instrP_put {n a : Int} (h : rightN n a = true) (ha : I64 a) (r : List UInt8) : instrP (instrL n a ++ r) = .ok ((n, a), r) := by
  have h1 := h
  simp only [rightN, decide_eq_true_eq] at h1
  have e : u8I (toU8 n) = n := toU8_I (by omega) (by omega)
  unfold instrP instrL
  simp only [List.cons_append, byteP, e]
  rw [if_neg (by omega)]
  by_cases hk : kindN n = 0
  · rw [if_pos hk]
    have ha0 : a = 0 := by
      have hm : mostN (kindN n) = 0 := by rw [hk]; rfl
      rw [hm] at h1
      omega
    simp [hk, ha0]
  · rw [if_neg hk]
    simp only [ne_eq, hk, not_false_eq_true, if_true]
    rw [intP_put ha]
    simp [h]
theorem instrsP_put (r : List UInt8) : ∀ {l : List (Int × Int)}, (l.all fun p => rightN p.1 p.2) = true → (∀ p ∈ l, I64 p.2) → instrsP l.length (l.flatMap (fun p => instrL p.1 p.2) ++ r) = .ok (l, r)
  | [], _, _ => rfl
  | p :: l, h, hI => by
    simp only [List.all_cons, Bool.and_eq_true] at h
    simp only [List.flatMap_cons, List.append_assoc, List.length_cons, instrsP]
    rw [instrP_put h.1 (hI p (by simp))]
    simp only
    rw [instrsP_put r h.2 fun q hq => hI q (by simp [hq])]
/-! Rows -/
theorem runsG_put {lo hi : Int} (r : List UInt8) : ∀ {R : List (Int × Int)} {last : Option Int} {f : Nat}, chainG last R → (∀ p ∈ R, p.1 < 1000000000 ∧ lo ≤ p.2 ∧ p.2 ≤ hi ∧ I64 p.2) → (expandG R).length ≤ f → runsG lo hi f (expandG R).length last (R.flatMap runL ++ r) = .ok (expandG R, r)
  | [], last, f, _, _, _ => by simp [expandG, runsG]
  | p :: R, last, f, hc, hp, hf => by
    obtain ⟨c1, c2, c3⟩ := hc
    obtain ⟨p1, p2, p3, p4⟩ := hp p (by simp)
    obtain ⟨n, v⟩ := p
    obtain ⟨n, rfl⟩ := Int.eq_ofNat_of_zero_le (show 0 ≤ n by simp only at c1; omega)
    simp only at c1 c2 c3 p1 p2 p3 p4
    have hl : (expandG (((n : Int), v) :: R)).length = n + (expandG R).length := by simp [expandG]
    rw [hl] at hf ⊢
    obtain ⟨f, rfl⟩ : ∃ g, f = g + 1 := ⟨f - 1, by omega⟩
    obtain ⟨k, hk⟩ : ∃ k, n + (expandG R).length = k + 1 := ⟨n + (expandG R).length - 1, by omega⟩
    rw [hk, runsG]
    have e : ((n : Int), v) :: R = [((n : Int), v)] ++ R := rfl
    have hr : runP ((k + 1 : Nat) : Int) (runL ((n : Int), v) ++ (R.flatMap runL ++ r)) = .ok (((n : Int), v), R.flatMap runL ++ r) := by
      unfold runP runL
      simp only [Int.toNat_natCast, List.append_assoc]
      rw [bitsP_put (by omega)]
      simp only
      rw [if_neg (by omega), intP_put p4]
    simp only [List.flatMap_cons, List.append_assoc, hr]
    rw [if_neg c2, if_neg (by omega)]
    have h2 : k + 1 - (n : Int).toNat = (expandG R).length := by simp; omega
    rw [h2, runsG_put r c3 (fun q hq => hp q (by simp [hq])) (by omega)]
    simp [expandG]
theorem runsP_put {l : List Int} {lo hi : Int} (hl : l.length < 1000000000) (h : ∀ v ∈ l, lo ≤ v ∧ v ≤ hi ∧ I64 v) (r : List UInt8) : runsP l.length lo hi (runsL l ++ r) = .ok (l, r) := by
  obtain ⟨h1, h2, h3, h4⟩ := groupsG_all l
  have := runsG_put (lo := lo) (hi := hi) r (R := groupsG l) (last := none) (f := (expandG (groupsG l)).length) h2 (fun p hp => by
    have := h4 p hp
    have h5 := h _ this.2.2
    exact ⟨by omega, h5⟩) (Nat.le_refl _)
  rw [h1] at this
  simpa [runsP, runsL] using this
/-! Trees -/
theorem nodeP_put {p : Nd} (h : I64N p) (r : List UInt8) : nodeP (nodeL p ++ r) = .ok (p, r) := by
  obtain ⟨h1, h2, h3, h4, h5, h6, h7⟩ := h
  unfold nodeP nodeL
  simp only [List.append_assoc]
  simp only [intP_put h1, intP_put h2, intP_put h3, intP_put h4, intP_put h5, intP_put h6, intP_put h7]
theorem nodesP_put (r : List UInt8) : ∀ {l : List Nd}, (∀ p ∈ l, I64N p) → nodesP l.length (l.flatMap nodeL ++ r) = .ok (l, r)
  | [], _ => rfl
  | p :: l, h => by
    simp only [List.flatMap_cons, List.append_assoc, List.length_cons, nodesP]
    rw [nodeP_put (h p (by simp))]
    simp only
    rw [nodesP_put r fun q hq => h q (by simp [hq])]
theorem treeP_put {l : List Nd} (h : rightT l = true) (hI : ∀ p ∈ l, I64N p) (r : List UInt8) : treeP (treeL l ++ r) = .ok (l, r) := by
  have h1 := h
  simp only [rightT, Bool.and_eq_true, decide_eq_true_eq] at h1
  unfold treeP treeL
  rw [List.append_assoc, numP_put (by omega) (by omega)]
  simp only [Int.toNat_natCast]
  rw [nodesP_put r hI]
  simp [h]
/-! Tables -/
theorem setP_put {s : St} (h : U64S s) (r : List UInt8) : setP (putB s.1.toNat ++ (putB s.2.1.toNat ++ (putB s.2.2.1.toNat ++ (putB s.2.2.2.toNat ++ r)))) = .ok (s, r) := by
  obtain ⟨a, b, c, d⟩ := s
  obtain ⟨⟨h1, h1'⟩, ⟨h2, h2'⟩, ⟨h3, h3'⟩, h4, h4'⟩ := h
  simp only at h1 h1' h2 h2' h3 h3' h4 h4'
  obtain ⟨a, rfl⟩ := Int.eq_ofNat_of_zero_le h1
  obtain ⟨b, rfl⟩ := Int.eq_ofNat_of_zero_le h2
  obtain ⟨c, rfl⟩ := Int.eq_ofNat_of_zero_le h3
  obtain ⟨d, rfl⟩ := Int.eq_ofNat_of_zero_le h4
  unfold setP
  simp only [Int.toNat_natCast]
  rw [bitsP_put (by omega)]
  simp only
  rw [bitsP_put (by omega)]
  simp only
  rw [bitsP_put (by omega)]
  simp only
  rw [bitsP_put (by omega)]
theorem mapsG_put {k : Nat} (r : List UInt8) : ∀ {R : List (Int × St)} {last : Option St} {f : Nat}, chainG last R → (∀ p ∈ R, p.1 < 1000000000 ∧ belowB p.2 k = true ∧ U64S p.2) → (expandG R).length ≤ f → mapsG k f (expandG R).length last (R.flatMap cntL ++ r) = .ok (expandG R, r)
  | [], last, f, _, _, _ => by simp [expandG, mapsG]
  | p :: R, last, f, hc, hp, hf => by
    obtain ⟨c1, c2, c3⟩ := hc
    obtain ⟨p1, p2, p3⟩ := hp p (by simp)
    obtain ⟨n, v⟩ := p
    obtain ⟨n, rfl⟩ := Int.eq_ofNat_of_zero_le (show 0 ≤ n by simp only at c1; omega)
    simp only at c1 c2 c3 p1 p2 p3
    have hl : (expandG (((n : Int), v) :: R)).length = n + (expandG R).length := by simp [expandG]
    rw [hl] at hf ⊢
    obtain ⟨f, rfl⟩ : ∃ g, f = g + 1 := ⟨f - 1, by omega⟩
    obtain ⟨j, hk⟩ : ∃ k, n + (expandG R).length = k + 1 := ⟨n + (expandG R).length - 1, by omega⟩
    rw [hk, mapsG]
    have hr : groupP ((j + 1 : Nat) : Int) k last (cntL ((n : Int), v) ++ (R.flatMap cntL ++ r)) = .ok (((n : Int), v), R.flatMap cntL ++ r) := by
      unfold groupP cntL
      simp only [Int.toNat_natCast, List.append_assoc]
      rw [bitsP_put (by omega)]
      simp only
      rw [if_neg (by omega), setP_put p3]
      simp only
      rw [if_neg c2, if_pos p2]
    simp only [List.flatMap_cons, List.append_assoc, hr]
    have h2 : j + 1 - (n : Int).toNat = (expandG R).length := by simp; omega
    rw [h2, mapsG_put r c3 (fun q hq => hp q (by simp [hq])) (by omega)]
    simp [expandG]
theorem mapsP_put {l : List St} {k : Nat} (hl : l.length < 1000000000) (h : mapsB l k = true) (hU : ∀ s ∈ l, U64S s) (r : List UInt8) : mapsP l.length k (mapsL l ++ r) = .ok (l, r) := by
  obtain ⟨h1, h2, h3, h4⟩ := groupsG_all l
  simp only [mapsB, Bool.and_eq_true, List.all_eq_true] at h
  have := mapsG_put (k := k) r (R := groupsG l) (last := none) (f := (expandG (groupsG l)).length) h2 (fun p hp => by
    have := h4 p hp
    exact ⟨by omega, h.2 _ this.2.2, hU _ this.2.2⟩) (Nat.le_refl _)
  rw [h1] at this
  simpa [mapsP, mapsL] using this
/-! Functions -/
section
variable {name : List UInt8} {inner : Bool} {outer params results locals lines at' : List Int} {code : List (Int × Int)} {nodes : List Nd} {live : List St}
theorem flag_ok {b : Bool} : u8I (flagU inner b) ≤ 3 ∧ (u8I (flagU inner b) % 2 = 1 ↔ inner = true) ∧ (u8I (flagU inner b) < 2 ↔ b = true) := by
  cases inner <;> cases b <;> decide +kernel
theorem fncP_put (hD : DatF code lines nodes at' live) (h : CanF name inner outer params results locals code lines nodes at' live) (r : List UInt8) : fncP (fncL name inner outer params results locals code lines nodes at' live ++ r) = .ok ((name, inner, outer, params, results, locals, code, lines, nodes, at', live), r) := by
  obtain ⟨n1, n2, n3, n4, n5, n6, n7, n8⟩ := h.len
  obtain ⟨h1, h2, h3, h4, h5, h6, h7, h8, h9⟩ := h
  obtain ⟨d1, d2, d3, d4, d5⟩ := hD
  simp only [typesB, sigB, Bool.and_eq_true, decide_eq_true_eq] at h2
  obtain ⟨⟨⟨⟨⟨s1, t1⟩, s2, t2⟩, s3, t3⟩, s4, t4⟩, hi⟩ := h2
  obtain ⟨f1, f2, f3⟩ := flag_ok (inner := inner) (b := bareB nodes at' live)
  have hH : headP (fncL name inner outer params results locals code lines nodes at' live ++ r) = .ok ((name, (inner, (outer, (params, (results, (locals, flagU inner (bareB nodes at' live))))))), putB code.length ++ (code.flatMap (fun p => instrL p.1 p.2) ++ (runsL lines ++ (tabL nodes at' live ++ r)))) := by
    unfold headP fncL headL
    simp only [List.append_assoc, List.cons_append]
    rw [textP_put (by omega) (by omega)]
    simp only [h1, Bool.true_eq_false, if_false, byteP]
    rw [if_neg (by omega)]
    cases inner with
    | true =>
      simp only [if_true, if_pos (f2.2 rfl)]
      rw [sigP_put s4 (by omega) t4]
      simp only
      rw [sigP_put s1 (by omega) t1]
      simp only
      rw [sigP_put s2 (by omega) t2]
      simp only
      rw [sigP_put s3 (by omega) t3]
      simp only
      rw [if_neg (by omega)]
      simp [f2.2 rfl]
    | false =>
      have hf : ¬u8I (flagU false (bareB nodes at' live)) % 2 = 1 := fun e => by simpa using f2.1 e
      have ho : outer = [] := List.eq_nil_of_length_eq_zero (by simpa using hi)
      subst ho
      simp only [Bool.false_eq_true, if_false, if_neg hf, List.nil_append]
      rw [sigP_put s1 (by omega) t1]
      simp only
      rw [sigP_put s2 (by omega) t2]
      simp only
      rw [sigP_put s3 (by omega) t3]
      simp only
      rw [if_neg (by omega)]
      simp [hf]
  have hC : codeP (putB code.length ++ (code.flatMap (fun p => instrL p.1 p.2) ++ (runsL lines ++ (tabL nodes at' live ++ r)))) = .ok (((code.length : Int), (code, lines)), tabL nodes at' live ++ r) := by
    unfold codeP
    rw [numP_put (by omega) (by omega)]
    simp only
    rw [if_neg (by omega), Int.toNat_natCast, instrsP_put _ h6 d1]
    simp only
    simp only [linesB, Bool.and_eq_true, List.all_eq_true, lineB, decide_eq_true_eq] at h8
    rw [← h7, runsP_put (by omega) (fun v hv => ⟨(h8.2 v hv).1, (h8.2 v hv).2, d2 v hv⟩)]
  have hT : tablesP (flagU inner (bareB nodes at' live)) code.length (params.length + results.length + locals.length) (tabL nodes at' live ++ r) = .ok ((nodes, (at', live)), r) := by
    unfold tablesP tabL
    cases hb : bareB nodes at' live with
    | true =>
      rw [hb] at f3
      rw [if_pos (f3.2 rfl)]
      simp only [bareB, decide_eq_true_eq] at hb
      obtain ⟨b1, b2, b3⟩ := hb
      rw [List.eq_nil_of_length_eq_zero b1, List.eq_nil_of_length_eq_zero b2, List.eq_nil_of_length_eq_zero b3]
      rfl
    | false =>
      rw [hb] at f3
      rw [if_neg (fun e => by simpa using f3.1 e)]
      simp only [tablesB, hb, Bool.false_or, Bool.and_eq_true, decide_eq_true_eq] at h9
      obtain ⟨⟨⟨⟨g1, g2⟩, g3⟩, g4⟩, g5⟩ := h9
      simp only [Bool.false_eq_true, if_false, List.append_assoc]
      rw [treeP_put g1 d3]
      simp only
      simp only [List.all_eq_true, atB, decide_eq_true_eq] at g4
      rw [← g2, runsP_put (by omega) (fun v hv => ⟨(g4 v hv).1, by have := (g4 v hv).2; omega, d4 v hv⟩)]
      simp only
      rw [g2, ← g3, mapsP_put (by omega) g5 d5]
  unfold fncP
  rw [hH]
  simp only
  rw [hC]
  simp only
  rw [hT]
end
end Go.Proofs.YtkdnbnkbnegckaaGreat
