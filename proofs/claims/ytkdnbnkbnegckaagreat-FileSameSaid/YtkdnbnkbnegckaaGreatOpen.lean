/- What was laid is taken again, in plain Lean. How long the parts of a function are that bytes begin with. How data that came in are opened, whatever their type: a relation between an element's cells and a value of Lean's, put together along the type. -/
import Derived.Test.YtkdnbnkbnegckaaGreatSpG
import Derived.Test.YtkdnbnkbnegckaaGreatSpF
import Derived.Test.YtkdnbnkbnegckaaGreatBase
import Derived.Test.YtkdnbnkbnegckaaGreatStrA
import Derived.ProofKit
import Derived.Deep.Slices
namespace Go.Proofs.YtkdnbnkbnegckaaGreat
open Go.RowKit
set_option maxRecDepth 8000
theorem getG_put (rest : List UInt8) : ∀ (f i n m : Nat), i + f = 9 → m < 2 ^ (7 * f + 1) → (0 < i → 0 < m) → getG i n (putF f m ++ rest) = (n + m * 2 ^ (7 * i), i + (putF f m).length, 0) := by
  intro f
  induction f with
  | zero =>
    intro i n m hi hm h0
    obtain rfl : i = 9 := by omega
    have hm2 : m < 2 := by simpa using hm
    have hp := h0 (by omega)
    obtain rfl : m = 1 := by omega
    simp [putF, getG]
  | succ f ih =>
    intro i n m hi hm h0
    by_cases h : m < 128
    · rw [putF_lt _ h]
      have e : (UInt8.ofNat m).toNat = m := by simp only [UInt8.toNat_ofNat']; omega
      simp only [List.cons_append, List.nil_append, getG, e, List.length_singleton]
      rw [if_neg (by omega), if_neg (by omega), if_neg (by omega)]
    · rw [putF_ge _ (by omega)]
      have e : (UInt8.ofNat (m % 128 + 128)).toNat = m % 128 + 128 := by simp only [UInt8.toNat_ofNat']; omega
      simp only [List.cons_append, getG, e, List.length_cons]
      have hm3 : m / 128 < 2 ^ (7 * f + 1) := by
        have : 2 ^ (7 * (f + 1) + 1) = 2 ^ (7 * f + 1) * 128 := by rw [show 7 * (f + 1) + 1 = (7 * f + 1) + 7 by omega, Nat.pow_add]
        omega
      rw [if_neg (by omega), if_pos (by omega), ih (i + 1) _ (m / 128) (by omega) hm3 (by omega)]
      have h2 : 2 ^ (7 * (i + 1)) = 128 * 2 ^ (7 * i) := by rw [Nat.mul_add, Nat.pow_add, Nat.mul_comm]
      have h3 : (m % 128 + 128 - 128) * 2 ^ (7 * i) + m / 128 * 2 ^ (7 * (i + 1)) = m * 2 ^ (7 * i) := by
        rw [h2, ← Nat.mul_assoc, ← Nat.add_mul, show m % 128 + 128 - 128 + m / 128 * 128 = m by omega]
      simp only [Prod.mk.injEq, and_true]
      exact ⟨by omega, by omega⟩
theorem getG_put9 {m : Nat} (f : Nat) (hf : f = 9) (hm : m < 2 ^ (7 * f + 1)) (rest : List UInt8) : getG 0 0 (putF f m ++ rest) = (m, (putF f m).length, 0) := by
  rw [getG_put rest f 0 0 m (by omega) hm (fun h => absurd h (Nat.lt_irrefl 0)), Nat.mul_zero, Nat.pow_zero, Nat.mul_one, Nat.zero_add, Nat.zero_add]
theorem getB_put {m : Nat} (hm : m < 2 ^ 64) (rest : List UInt8) : getB (putB m ++ rest) = (m, (putB m).length, 0) := by
  exact getG_put9 9 rfl hm rest
theorem unfold_fold (n : Int) : unfoldI (foldN n) = n := by
  unfold unfoldI
  by_cases h : n < 0
  · have := foldN_neg h
    rw [if_pos (by omega)]; omega
  · have := foldN_nn h
    rw [if_neg (by omega)]; omega
theorem bitsP_put {m : Nat} (hm : m < 18446744073709551616) (r : List UInt8) : bitsP (putB m ++ r) = .ok ((m : Int), r) := by
  have := getB_put (m := m) (by omega) r
  unfold bitsP
  rw [this]
  simp
theorem intP_put {n : Int} (hn : I64 n) (r : List UInt8) : intP (intB n ++ r) = .ok (n, r) := by
  have := foldN_lt hn.1 hn.2
  unfold intP intB
  rw [bitsP_put (by omega)]
  simp [unfold_fold]
theorem numP_put {m : Nat} {mx : Int} (hm : m < 18446744073709551616) (h : (m : Int) ≤ mx) (r : List UInt8) : numP mx (putB m ++ r) = .ok ((m : Int), r) := by
  unfold numP
  rw [bitsP_put hm]
  simp only
  rw [if_neg (by omega)]
theorem textP_put {t : List UInt8} {mx : Int} (hm : t.length < 1000000000) (h : (t.length : Int) ≤ mx) (r : List UInt8) : textP mx (putB t.length ++ (t ++ r)) = .ok (t, r) := by
  unfold textP
  rw [numP_put (by omega) h]
  simp only
  rw [if_neg (by simp; omega)]
  simp
theorem toU8_I {t : Int} (h : 0 ≤ t) (h2 : t < 256) : u8I (toU8 t) = t := inU8_ok (decide_eq_true ⟨h, h2⟩)
theorem tyP_put (r : List UInt8) : ∀ {l : List Int}, l.all typeB = true → tyP l.length (l.flatMap (fun t => [toU8 t]) ++ r) = .ok (l, r)
  | [], _ => rfl
  | t :: l, h => by
    simp only [List.all_cons, Bool.and_eq_true] at h
    have h1 := h.1
    simp only [typeB, Bool.or_eq_true, decide_eq_true_eq] at h1
    have e : u8I (toU8 t) = t := toU8_I (by omega) (by omega)
    simp only [List.flatMap_cons, List.singleton_append, List.cons_append, List.length_cons, tyP, e]
    rw [if_pos h1, List.nil_append, tyP_put r h.2]
theorem sigP_put {l : List Int} {m : Int} (hm : (l.length : Int) ≤ m) (hl : l.length < 1000000000) (h : l.all typeB = true) (r : List UInt8) : sigP m (sigL l ++ r) = .ok (l, r) := by
  unfold sigP sigL
  rw [List.append_assoc, numP_put (by omega) hm]
  exact tyP_put r h
theorem instrP_put {n a : Int} (h : rightN n a = true) (ha : I64 a) (r : List UInt8) : instrP (instrL n a ++ r) = .ok ((n, a), r) := by
  have h1 := h
  simp only [rightN, decide_eq_true_eq] at h1
  have e : u8I (toU8 n) = n := toU8_I (by omega) (by omega)
  unfold instrP instrL
  simp only [List.cons_append, byteP, e]
  rw [if_neg (by omega)]
  by_cases hk : kindN n = 0
  · rw [if_pos hk]
    have ha0 : a = 0 := by
      have hm : mostN (kindN n) = 0 := by rw [hk]; rfl
      rw [hm] at h1
      omega
    simp [hk, ha0]
  · rw [if_neg hk]
    simp only [ne_eq, hk, not_false_eq_true, if_true]
    rw [intP_put ha]
    simp [h]
theorem instrsP_put (r : List UInt8) : ∀ {l : List (Int × Int)}, (l.all fun p => rightN p.1 p.2) = true → (∀ p ∈ l, I64 p.2) → instrsP l.length (l.flatMap (fun p => instrL p.1 p.2) ++ r) = .ok (l, r)
  | [], _, _ => rfl
  | p :: l, h, hI => by
    simp only [List.all_cons, Bool.and_eq_true] at h
    simp only [List.flatMap_cons, List.append_assoc, List.length_cons, instrsP]
    rw [instrP_put h.1 (hI p (by simp))]
    simp only
    rw [instrsP_put r h.2 fun q hq => hI q (by simp [hq])]
/-! Rows -/
theorem runsG_put {lo hi : Int} (r : List UInt8) : ∀ {R : List (Int × Int)} {last : Option Int} {f : Nat}, chainG last R → (∀ p ∈ R, p.1 < 1000000000 ∧ lo ≤ p.2 ∧ p.2 ≤ hi ∧ I64 p.2) → (expandG R).length ≤ f → runsG lo hi f (expandG R).length last (R.flatMap runL ++ r) = .ok (expandG R, r)
  | [], last, f, _, _, _ => by simp [expandG, runsG]
  | p :: R, last, f, hc, hp, hf => by
    obtain ⟨c1, c2, c3⟩ := hc
    obtain ⟨p1, p2, p3, p4⟩ := hp p (by simp)
    obtain ⟨n, v⟩ := p
    obtain ⟨n, rfl⟩ := Int.eq_ofNat_of_zero_le (show 0 ≤ n by simp only at c1; omega)
    simp only at c1 c2 c3 p1 p2 p3 p4
    have hl : (expandG (((n : Int), v) :: R)).length = n + (expandG R).length := by simp [expandG]
    rw [hl] at hf ⊢
    obtain ⟨f, rfl⟩ : ∃ g, f = g + 1 := ⟨f - 1, by omega⟩
    obtain ⟨k, hk⟩ : ∃ k, n + (expandG R).length = k + 1 := ⟨n + (expandG R).length - 1, by omega⟩
    rw [hk, runsG]
    have e : ((n : Int), v) :: R = [((n : Int), v)] ++ R := rfl
    have hr : runP ((k + 1 : Nat) : Int) (runL ((n : Int), v) ++ (R.flatMap runL ++ r)) = .ok (((n : Int), v), R.flatMap runL ++ r) := by
      unfold runP runL
      simp only [Int.toNat_natCast, List.append_assoc]
      rw [bitsP_put (by omega)]
      simp only
      rw [if_neg (by omega), intP_put p4]
    simp only [List.flatMap_cons, List.append_assoc, hr]
    rw [if_neg c2, if_neg (by omega)]
    have h2 : k + 1 - (n : Int).toNat = (expandG R).length := by simp; omega
    rw [h2, runsG_put r c3 (fun q hq => hp q (by simp [hq])) (by omega)]
    simp [expandG]
theorem runsP_put {l : List Int} {lo hi : Int} (hl : l.length < 1000000000) (h : ∀ v ∈ l, lo ≤ v ∧ v ≤ hi ∧ I64 v) (r : List UInt8) : runsP l.length lo hi (runsL l ++ r) = .ok (l, r) := by
  obtain ⟨h1, h2, h3, h4⟩ := groupsG_all l
  have := runsG_put (lo := lo) (hi := hi) r (R := groupsG l) (last := none) (f := (expandG (groupsG l)).length) h2 (fun p hp => by
    have := h4 p hp
    have h5 := h _ this.2.2
    exact ⟨by omega, h5⟩) (Nat.le_refl _)
  rw [h1] at this
  simpa [runsP, runsL] using this
/-! Trees -/
theorem nodeP_put {p : Nd} (h : I64N p) (r : List UInt8) : nodeP (nodeL p ++ r) = .ok (p, r) := by
  obtain ⟨h1, h2, h3, h4, h5, h6, h7⟩ := h
  unfold nodeP nodeL
  simp only [List.append_assoc]
  simp only [intP_put h1, intP_put h2, intP_put h3, intP_put h4, intP_put h5, intP_put h6, intP_put h7]
theorem nodesP_put (r : List UInt8) : ∀ {l : List Nd}, (∀ p ∈ l, I64N p) → nodesP l.length (l.flatMap nodeL ++ r) = .ok (l, r)
  | [], _ => rfl
  | p :: l, h => by
    simp only [List.flatMap_cons, List.append_assoc, List.length_cons, nodesP]
    rw [nodeP_put (h p (by simp))]
    simp only
    rw [nodesP_put r fun q hq => h q (by simp [hq])]
theorem treeP_put {l : List Nd} (h : rightT l = true) (hI : ∀ p ∈ l, I64N p) (r : List UInt8) : treeP (treeL l ++ r) = .ok (l, r) := by
  have h1 := h
  simp only [rightT, Bool.and_eq_true, decide_eq_true_eq] at h1
  unfold treeP treeL
  rw [List.append_assoc, numP_put (by omega) (by omega)]
  simp only [Int.toNat_natCast]
  rw [nodesP_put r hI]
  simp [h]
/-! Tables -/
theorem setP_put {s : St} (h : U64S s) (r : List UInt8) : setP (putB s.1.toNat ++ (putB s.2.1.toNat ++ (putB s.2.2.1.toNat ++ (putB s.2.2.2.toNat ++ r)))) = .ok (s, r) := by
  obtain ⟨a, b, c, d⟩ := s
  obtain ⟨⟨h1, h1'⟩, ⟨h2, h2'⟩, ⟨h3, h3'⟩, h4, h4'⟩ := h
  simp only at h1 h1' h2 h2' h3 h3' h4 h4'
  obtain ⟨a, rfl⟩ := Int.eq_ofNat_of_zero_le h1
  obtain ⟨b, rfl⟩ := Int.eq_ofNat_of_zero_le h2
  obtain ⟨c, rfl⟩ := Int.eq_ofNat_of_zero_le h3
  obtain ⟨d, rfl⟩ := Int.eq_ofNat_of_zero_le h4
  unfold setP
  simp only [Int.toNat_natCast]
  rw [bitsP_put (by omega)]
  simp only
  rw [bitsP_put (by omega)]
  simp only
  rw [bitsP_put (by omega)]
  simp only
  rw [bitsP_put (by omega)]
theorem mapsG_put {k : Nat} (r : List UInt8) : ∀ {R : List (Int × St)} {last : Option St} {f : Nat}, chainG last R → (∀ p ∈ R, p.1 < 1000000000 ∧ belowB p.2 k = true ∧ U64S p.2) → (expandG R).length ≤ f → mapsG k f (expandG R).length last (R.flatMap cntL ++ r) = .ok (expandG R, r)
  | [], last, f, _, _, _ => by simp [expandG, mapsG]
  | p :: R, last, f, hc, hp, hf => by
    obtain ⟨c1, c2, c3⟩ := hc
    obtain ⟨p1, p2, p3⟩ := hp p (by simp)
    obtain ⟨n, v⟩ := p
    obtain ⟨n, rfl⟩ := Int.eq_ofNat_of_zero_le (show 0 ≤ n by simp only at c1; omega)
    simp only at c1 c2 c3 p1 p2 p3
    have hl : (expandG (((n : Int), v) :: R)).length = n + (expandG R).length := by simp [expandG]
    rw [hl] at hf ⊢
    obtain ⟨f, rfl⟩ : ∃ g, f = g + 1 := ⟨f - 1, by omega⟩
    obtain ⟨j, hk⟩ : ∃ k, n + (expandG R).length = k + 1 := ⟨n + (expandG R).length - 1, by omega⟩
    rw [hk, mapsG]
    have hr : groupP ((j + 1 : Nat) : Int) k last (cntL ((n : Int), v) ++ (R.flatMap cntL ++ r)) = .ok (((n : Int), v), R.flatMap cntL ++ r) := by
      unfold groupP cntL
      simp only [Int.toNat_natCast, List.append_assoc]
      rw [bitsP_put (by omega)]
      simp only
      rw [if_neg (by omega), setP_put p3]
      simp only
      rw [if_neg c2, if_pos p2]
    simp only [List.flatMap_cons, List.append_assoc, hr]
    have h2 : j + 1 - (n : Int).toNat = (expandG R).length := by simp; omega
    rw [h2, mapsG_put r c3 (fun q hq => hp q (by simp [hq])) (by omega)]
    simp [expandG]
theorem mapsP_put {l : List St} {k : Nat} (hl : l.length < 1000000000) (h : mapsB l k = true) (hU : ∀ s ∈ l, U64S s) (r : List UInt8) : mapsP l.length k (mapsL l ++ r) = .ok (l, r) := by
  obtain ⟨h1, h2, h3, h4⟩ := groupsG_all l
  simp only [mapsB, Bool.and_eq_true, List.all_eq_true] at h
  have := mapsG_put (k := k) r (R := groupsG l) (last := none) (f := (expandG (groupsG l)).length) h2 (fun p hp => by
    have := h4 p hp
    exact ⟨by omega, h.2 _ this.2.2, hU _ this.2.2⟩) (Nat.le_refl _)
  rw [h1] at this
  simpa [mapsP, mapsL] using this
/-! Functions -/
section
variable {name : List UInt8} {inner : Bool} {outer params results locals lines at' : List Int} {code : List (Int × Int)} {nodes : List Nd} {live : List St}
theorem flag_ok {b : Bool} : u8I (flagU inner b) ≤ 3 ∧ (u8I (flagU inner b) % 2 = 1 ↔ inner = true) ∧ (u8I (flagU inner b) < 2 ↔ b = true) := by
  cases inner <;> cases b <;> decide +kernel
theorem fncP_put (hD : DatF code lines nodes at' live) (h : CanF name inner outer params results locals code lines nodes at' live) (r : List UInt8) : fncP (fncL name inner outer params results locals code lines nodes at' live ++ r) = .ok ((name, inner, outer, params, results, locals, code, lines, nodes, at', live), r) := by
  obtain ⟨n1, n2, n3, n4, n5, n6, n7, n8⟩ := h.len
  obtain ⟨h1, h2, h3, h4, h5, h6, h7, h8, h9⟩ := h
  obtain ⟨d1, d2, d3, d4, d5⟩ := hD
  simp only [typesB, sigB, Bool.and_eq_true, decide_eq_true_eq] at h2
  obtain ⟨⟨⟨⟨⟨s1, t1⟩, s2, t2⟩, s3, t3⟩, s4, t4⟩, hi⟩ := h2
  obtain ⟨f1, f2, f3⟩ := flag_ok (inner := inner) (b := bareB nodes at' live)
  have hH : headP (fncL name inner outer params results locals code lines nodes at' live ++ r) = .ok ((name, (inner, (outer, (params, (results, (locals, flagU inner (bareB nodes at' live))))))), putB code.length ++ (code.flatMap (fun p => instrL p.1 p.2) ++ (runsL lines ++ (tabL nodes at' live ++ r)))) := by
    unfold headP fncL headL
    simp only [List.append_assoc, List.cons_append]
    rw [textP_put (by omega) (by omega)]
    simp only [h1, Bool.true_eq_false, if_false, byteP]
    rw [if_neg (by omega)]
    cases inner with
    | true =>
      simp only [if_true, if_pos (f2.2 rfl)]
      rw [sigP_put s4 (by omega) t4]
      simp only
      rw [sigP_put s1 (by omega) t1]
      simp only
      rw [sigP_put s2 (by omega) t2]
      simp only
      rw [sigP_put s3 (by omega) t3]
      simp only
      rw [if_neg (by omega)]
      simp [f2.2 rfl]
    | false =>
      have hf : ¬u8I (flagU false (bareB nodes at' live)) % 2 = 1 := fun e => by simpa using f2.1 e
      have ho : outer = [] := List.eq_nil_of_length_eq_zero (by simpa using hi)
      subst ho
      simp only [Bool.false_eq_true, if_false, if_neg hf, List.nil_append]
      rw [sigP_put s1 (by omega) t1]
      simp only
      rw [sigP_put s2 (by omega) t2]
      simp only
      rw [sigP_put s3 (by omega) t3]
      simp only
      rw [if_neg (by omega)]
      simp [hf]
  have hC : codeP (putB code.length ++ (code.flatMap (fun p => instrL p.1 p.2) ++ (runsL lines ++ (tabL nodes at' live ++ r)))) = .ok (((code.length : Int), (code, lines)), tabL nodes at' live ++ r) := by
    unfold codeP
    rw [numP_put (by omega) (by omega)]
    simp only
    rw [if_neg (by omega), Int.toNat_natCast, instrsP_put _ h6 d1]
    simp only
    simp only [linesB, Bool.and_eq_true, List.all_eq_true, lineB, decide_eq_true_eq] at h8
    rw [← h7, runsP_put (by omega) (fun v hv => ⟨(h8.2 v hv).1, (h8.2 v hv).2, d2 v hv⟩)]
  have hT : tablesP (flagU inner (bareB nodes at' live)) code.length (params.length + results.length + locals.length) (tabL nodes at' live ++ r) = .ok ((nodes, (at', live)), r) := by
    unfold tablesP tabL
    cases hb : bareB nodes at' live with
    | true =>
      rw [hb] at f3
      rw [if_pos (f3.2 rfl)]
      simp only [bareB, decide_eq_true_eq] at hb
      obtain ⟨b1, b2, b3⟩ := hb
      rw [List.eq_nil_of_length_eq_zero b1, List.eq_nil_of_length_eq_zero b2, List.eq_nil_of_length_eq_zero b3]
      rfl
    | false =>
      rw [hb] at f3
      rw [if_neg (fun e => by simpa using f3.1 e)]
      simp only [tablesB, hb, Bool.false_or, Bool.and_eq_true, decide_eq_true_eq] at h9
      obtain ⟨⟨⟨⟨g1, g2⟩, g3⟩, g4⟩, g5⟩ := h9
      simp only [Bool.false_eq_true, if_false, List.append_assoc]
      rw [treeP_put g1 d3]
      simp only
      simp only [List.all_eq_true, atB, decide_eq_true_eq] at g4
      rw [← g2, runsP_put (by omega) (fun v hv => ⟨(g4 v hv).1, by have := (g4 v hv).2; omega, d4 v hv⟩)]
      simp only
      rw [g2, ← g3, mapsP_put (by omega) g5 d5]
  unfold fncP
  rw [hH]
  simp only
  rw [hC]
  simp only
  rw [hT]
end
end Go.Proofs.YtkdnbnkbnegckaaGreat
namespace Go.Proofs.YtkdnbnkbnegckaaGreat
open Go.RowKit
set_option maxRecDepth 8000
theorem headP_outer {l l' : List UInt8} {name : List UInt8} {inner : Bool} {outer params results locals : List Int} {fl : UInt8} (h : headP l = .ok ((name, (inner, (outer, (params, (results, (locals, fl)))))), l')) : outer.length ≤ 4 := by
  unfold headP at h
  split at h
  · cases h
  · split at h
    · cases h
    · split at h
      · cases h
      · split at h
        · cases h
        · split at h
          · cases h
          · rename_i outer' l3 h3
            have i3 : outer'.length ≤ 4 := by
              split at h3
              · have := (sigP_len (by omega) h3).2; omega
              · cases h3; simp
            split at h
            · cases h
            · split at h
              · cases h
              · split at h
                · cases h
                · split at h
                  · cases h
                  · cases h
                    exact i3
theorem mapsG_len {k : Nat} : ∀ {f n : Nat} {last : Option St} {l l' : List UInt8} {x : List St}, mapsG k f n last l = .ok (x, l') → l'.length ≤ l.length ∧ x.length = n
  | f, 0, last, l, l', x, h => by simp only [mapsG, Except.ok.injEq, Prod.mk.injEq] at h; obtain ⟨rfl, rfl⟩ := h; simp
  | 0, n + 1, last, l, l', x, h => by simp [mapsG] at h
  | f + 1, n + 1, last, l, l', x, h => by
    simp only [mapsG] at h
    cases hr : groupP ((n + 1 : Nat) : Int) k last l with
    | error e => rw [hr] at h; cases h
    | ok p =>
      obtain ⟨⟨u, v⟩, l2⟩ := p
      rw [hr] at h
      obtain ⟨h1, h2, h3⟩ := groupP_len hr
      simp only at h h2 h3
      split at h
      · rename_i r l3 hq
        have := mapsG_len hq
        cases h
        simp; omega
      · cases h
theorem codeP_len {l l' : List UInt8} {n : Int} {code : List (Int × Int)} {lines : List Int} (h : codeP l = .ok ((n, (code, lines)), l')) : (code.length : Int) = n ∧ (lines.length : Int) = n := by
  unfold codeP at h
  split at h
  · cases h
  · rename_i u l1 h1
    have i1 := numP_ok h1
    split at h
    · cases h
    · split at h
      · cases h
      · rename_i c l2 h2
        have i2 := instrsP_len h2
        split at h
        · cases h
        · rename_i r l3 h3
          have i3 := runsP_len h3
          cases h
          exact ⟨by omega, by omega⟩
theorem tablesP_len {fl : UInt8} {n : Int} {k : Nat} {l l' : List UInt8} {nodes : List Nd} {at' : List Int} {live : List St} (hn : 0 ≤ n) (h : tablesP fl n k l = .ok ((nodes, (at', live)), l')) : l'.length ≤ l.length ∧ nodes.length ≤ 120 ∧ (at'.length : Int) ≤ n ∧ (live.length : Int) ≤ n := by
  unfold tablesP at h
  split at h
  · cases h; simp; omega
  · split at h
    · cases h
    · rename_i nd l1 h1
      have i1 := treeP_len h1
      split at h
      · cases h
      · rename_i a l2 h2
        have i2 := runsP_len h2
        split at h
        · cases h
        · rename_i m l3 h3
          have i3 := mapsG_len h3
          cases h
          exact ⟨by omega, by omega, by omega, by omega⟩
theorem fncP_ok {l l' : List UInt8} {name : List UInt8} {inner : Bool} {outer params results locals lines at' : List Int} {code : List (Int × Int)} {nodes : List Nd} {live : List St}
    (h : fncP l = .ok ((name, inner, outer, params, results, locals, code, lines, nodes, at', live), l')) :
    l'.length ≤ l.length ∧ outer.length ≤ 4 ∧ params.length + results.length + locals.length ≤ 256 ∧ code.length ≤ 2000 ∧ lines.length ≤ 2000 ∧ nodes.length ≤ 120 ∧ at'.length ≤ 2000 ∧ live.length ≤ 2000 := by
  unfold fncP at h
  split at h
  · cases h
  · rename_i nm inn ou pa re lo fl l1 h1
    have i1 := headP_ok h1
    have o1 := headP_outer h1
    split at h
    · cases h
    · rename_i n c li l2 h2
      have i2 := codeP_ok h2
      have o2 := codeP_len h2
      split at h
      · cases h
      · rename_i nd a m l3 h3
        have i3 := tablesP_len (by omega) h3
        cases h
        exact ⟨by omega, o1, i1.2.2, by omega, by omega, by omega, by omega, by omega⟩
end Go.Proofs.YtkdnbnkbnegckaaGreat
namespace Go.Proofs.YtkdnbnkbnegckaaGreat
open Go.RowKit Go.WideShapes

/-- Whatever reads as data of type t stands in the relation R to some value. -/
def Opens (P : Program) (t : TypeId) {α : Type} (R : World → List Value → α → Prop) : Prop :=
  ∀ (H : Type) (enc : TypeId × Value → H) (w : World) (base : Nat) (spare : Nat → Bool) (held : Bool) (fuel : Nat) (cs : List Value) (x : DataW H × List MemPlace),
    DataW.trod enc P w base spare held fuel t cs = some x → ∃ a, R w cs a

def IntR (k : IntKind) : World → List Value → Int → Prop := fun _ cs n => cs = [.int k n] ∧ (Lit.int k n).wf = true
def BoolR : World → List Value → Bool → Prop := fun _ cs b => cs = [.bool b]
def StrR : World → List Value → ByteArray → Prop := fun _ cs s => cs = [.string s] ∧ s.size ≤ maxLen
def NilR : World → List Value → Unit → Prop := fun _ cs _ => cs = []
def ConsR {α β : Type} (n : Nat) (R : World → List Value → α → Prop) (S : World → List Value → β → Prop) : World → List Value → α × β → Prop :=
  fun w cs a => ∃ c d, cs = c ++ d ∧ c.length = n ∧ R w c a.1 ∧ S w d a.2

/-- Lists of elements' cells stand in the relation R to a list, one by one. -/
def AllR {α : Type} (size : Nat) (R : World → List Value → α → Prop) (w : World) : List (List Value) → List α → Prop
  | [], [] => True
  | c :: cs, x :: xs => c.length = size ∧ R w c x ∧ AllR size R w cs xs
  | _, _ => False

def SliceR {α : Type} (size : Nat) (R : World → List Value → α → Prop) : World → List Value → List α → Prop :=
  fun w cs xs => ∃ ao cap ecs, cs = [.slice ao xs.length cap] ∧ xs.length ≤ cap ∧ cap ≤ maxLen ∧ Cells w ao ecs.flatten ∧ AllR size R w ecs xs

theorem add_add (a : Addr) (q r : Nat) : (a.add q).add r = a.add (q + r) := by
  unfold Addr.add
  repeat' split
  all_goals simp_all [Nat.add_assoc]

section
variable {P : Program} {t : TypeId}

theorem Opens.mono {α β : Type} {R : World → List Value → α → Prop} {S : World → List Value → β → Prop} (h : Opens P t R) (g : α → β) (hg : ∀ w cs a, R w cs a → S w cs (g a)) : Opens P t S :=
  fun H enc w base spare held fuel cs x hx => let ⟨a, ha⟩ := h H enc w base spare held fuel cs x hx; ⟨g a, hg w cs a ha⟩

theorem opens_int {k : IntKind} (ht : P.underlying t = some (.int k)) : Opens P t (IntR k) :=
  fun _ _ _ _ _ _ _ _ _ h => let ⟨n, e, _, hw⟩ := DataW.trod_int ht h; ⟨n, e, hw⟩
theorem opens_bool (ht : P.underlying t = some .bool) : Opens P t BoolR :=
  fun _ _ _ _ _ _ _ _ _ h => let ⟨b, e, _⟩ := DataW.trod_bool ht h; ⟨b, e⟩
theorem opens_str (ht : P.underlying t = some .string) : Opens P t StrR :=
  fun _ _ _ _ _ _ _ _ _ h => let ⟨s, e, _, hs⟩ := DataW.trod_string ht h; ⟨s, e, hs⟩

/-- The fields of a struct, from one on. -/
def OpensF (P : Program) (fs : List Field) (off : Nat) {α : Type} (R : World → List Value → α → Prop) : Prop :=
  ∀ (H : Type) (enc : TypeId × Value → H) (w : World) (base : Nat) (spare : Nat → Bool) (held : Bool) (fuel : Nat) (cs : List Value),
    (∀ (i : Nat) (f : Field), fs[i]? = some f → ∃ x, DataW.trod enc P w base spare held fuel f.type ((cs.drop f.offset).take (P.cellsOf f.type)) = some x) → ∃ a, R w (cs.drop off) a

theorem OpensF.cons {f : Field} {fs : List Field} {off n : Nat} {α β : Type} {R : World → List Value → α → Prop} {S : World → List Value → β → Prop} (ho : f.offset = off) (hn : P.cellsOf f.type = n)
    (hR : Opens P f.type R) (hlen : ∀ w c a, R w c a → c.length = n) (hS : OpensF P fs (off + n) S) : OpensF P (f :: fs) off (ConsR n R S) := by
  intro H enc w base spare held fuel cs h
  obtain ⟨x, hx⟩ := h 0 f rfl
  obtain ⟨a, ha⟩ := hR H enc w base spare held fuel _ x hx
  obtain ⟨b, hb⟩ := hS H enc w base spare held fuel cs (fun i g hg => h (i + 1) g (by simpa using hg))
  have hl := hlen _ _ _ ha
  refine ⟨(a, b), _, _, ?_, hl, ha, hb⟩
  rw [ho, hn, ← List.drop_drop]
  exact (List.take_append_drop n _).symm

theorem OpensF.nil {off : Nat} (m : Nat) (hm : m = off) : OpensF P [] off (fun _ cs (_ : Unit) => ∀ (c : Nat), c ≤ m → cs.length = c - off → cs = []) := by
  intro H enc w base spare held fuel cs _
  exact ⟨(), fun c hc hl => List.eq_nil_of_length_eq_zero (by omega)⟩

theorem opens_struct {fs : Array Field} {α : Type} {R : World → List Value → α → Prop} (ht : P.underlying t = some (.struct fs)) (h : OpensF P fs.toList 0 R) :
    Opens P t (fun w cs a => cs.length = P.cellsOf t ∧ R w cs a) := by
  intro H enc w base spare held fuel cs x hx
  obtain ⟨xs, n, _, _, hl, hlen, hf⟩ := DataW.trod_struct ht hx
  obtain ⟨a, ha⟩ := h H enc w base spare held n cs (fun i f hf' => by
    have hi : i < xs.length := by
      have := (List.getElem?_eq_some_iff.1 hf').1
      rw [hlen]; simpa using this
    exact ⟨xs[i], by rw [hf i f (by simpa using hf')]; simp [hi]⟩)
  exact ⟨a, hl, by simpa using ha⟩

theorem AllR.map {α β : Type} {size : Nat} {R : World → List Value → α → Prop} {S : World → List Value → β → Prop} {w : World} {g : α → β} (hg : ∀ cs a, R w cs a → S w cs (g a)) :
    ∀ {ecs : List (List Value)} {xs : List α}, AllR size R w ecs xs → AllR size S w ecs (xs.map g)
  | [], [], _ => trivial
  | _ :: _, _ :: _, ⟨hl, h, hs⟩ => ⟨hl, hg _ _ h, AllR.map hg hs⟩

theorem allR_of {α : Type} {size : Nat} {R : World → List Value → α → Prop} {w : World} (E : Nat → List Value) : ∀ (n : Nat), (∀ i, i < n → (E i).length = size ∧ ∃ a, R w (E i) a) →
    ∃ xs : List α, xs.length = n ∧ AllR size R w ((List.range n).map E) xs := by
  intro n
  induction n generalizing E with
  | zero => intro _; exact ⟨[], rfl, trivial⟩
  | succ n ih =>
    intro h
    obtain ⟨xs, hl, hx⟩ := ih (fun i => E (i + 1)) (fun i hi => h (i + 1) (by omega))
    obtain ⟨h0, a, ha⟩ := h 0 (by omega)
    refine ⟨a :: xs, by simp [hl], ?_⟩
    rw [List.range_succ_eq_map]
    simp only [List.map_cons, List.map_map]
    exact ⟨h0, ha, hx⟩

theorem getElem?_flatten {size : Nat} : ∀ (ecs : List (List Value)) (_ : ∀ c ∈ ecs, c.length = size) (j : Nat) (u : Value), ecs.flatten[j]? = some u →
    0 < size ∧ j / size < ecs.length ∧ ∃ c, ecs[j / size]? = some c ∧ c[j % size]? = some u := by
  intro ecs
  induction ecs with
  | nil => intro _ j u h; simp at h
  | cons c ecs ih =>
    intro hs j u h
    have hc := hs c (by simp)
    rw [List.flatten_cons] at h
    by_cases hj : j < size
    · rw [List.getElem?_append_left (by omega)] at h
      have h1 : j / size = 0 := Nat.div_eq_of_lt hj
      have h2 : j % size = j := Nat.mod_eq_of_lt hj
      exact ⟨by omega, by rw [h1]; simp, c, by rw [h1]; rfl, by rw [h2]; exact h⟩
    · rw [List.getElem?_append_right (by omega), hc] at h
      obtain ⟨h0, h1, c', h2, h3⟩ := ih (fun c hc => hs c (by simp [hc])) (j - size) u h
      have hd : j / size = (j - size) / size + 1 := by rw [← Nat.sub_add_cancel (show size ≤ j by omega), Nat.add_div_right _ h0]; simp
      have hm : j % size = (j - size) % size := by rw [Nat.mod_eq_sub_mod (by omega)]
      exact ⟨h0, by rw [hd]; simp; exact h1, c', by rw [hd]; simpa using h2, by rw [hm]; exact h3⟩

theorem AllR.lens {α : Type} {size : Nat} {R : World → List Value → α → Prop} {w : World} : ∀ {ecs : List (List Value)} {xs : List α}, AllR size R w ecs xs → ecs.length = xs.length ∧ ∀ c ∈ ecs, c.length = size
  | [], [], _ => ⟨rfl, by simp⟩
  | _ :: _, _ :: _, ⟨hl, _, hs⟩ => by
    obtain ⟨h1, h2⟩ := AllR.lens hs
    refine ⟨by simp [h1], ?_⟩
    intro c hc
    rcases List.mem_cons.1 hc with rfl | hc
    · exact hl
    · exact h2 c hc

theorem opens_slice {e : TypeId} {size : Nat} {α : Type} {R : World → List Value → α → Prop} (ht : P.underlying t = some (.slice e)) (hc : P.cellsOf e = size) (he : Opens P e R) : Opens P t (SliceR size R) := by
  intro H enc w base spare held fuel cs x hx
  rcases Deep.open_slice ht hx with ⟨rfl, _⟩ | ⟨a, len, cap, m, n, D, Pl, rfl, hb, hl, hm, hmm, _, hel⟩
  · exact ⟨[], none, 0, [], rfl, Nat.le_refl _, Nat.zero_le _, Cells.nil _ _, trivial⟩
  · have hlm : len ≤ m := by rw [hmm]; split <;> omega
    rw [hc] at hel
    obtain ⟨E, hE⟩ := Deep.choose_lt (α := List Value) (p := fun i cs' => w.cells? base (a.add (i * size)) size = some cs' ∧ ∃ y, DataW.trod enc P w base spare held n e cs' = some y)
      (fun i (hi : i < len) => let ⟨cs', h1, h2⟩ := hel i (by omega); ⟨cs', h1, _, h2⟩)
    obtain ⟨xs, hxl, hall⟩ := allR_of (size := size) (R := R) (w := w) E len (fun i hi => by
      obtain ⟨h1, y, h2⟩ := hE i hi
      exact ⟨(World.cells?_some h1).2.1, he H enc w base spare held n _ y h2⟩)
    refine ⟨xs, some a, cap, (List.range len).map E, by rw [hxl], by omega, hm, ?_, hall⟩
    have hcell : ∀ j u, ((List.range len).map E).flatten[j]? = some u → w.cell? (a.add j) = some u := by
      intro j u hu
      obtain ⟨h0, hlt, c, hc1, hc2⟩ := getElem?_flatten _ (AllR.lens hall).2 j u hu
      simp only [List.length_map, List.length_range] at hlt
      simp only [List.getElem?_map, List.getElem?_range hlt, Option.map_some, Option.some.injEq] at hc1
      subst hc1
      have h3 := (World.cells?_some (hE _ hlt).1).2.2 (j % size) (Nat.mod_lt _ h0)
      rw [hc2] at h3
      rw [← h3]
      congr 1
      have hj : j / size * size + j % size = j := by rw [Nat.mul_comm]; exact Nat.div_add_mod _ _
      generalize j / size * size = q at hj
      generalize j % size = r at hj
      subst hj
      exact (add_add a q r).symm
    refine ⟨fun hne => ?_, fun b off e2 j u hu => ?_⟩
    · cases hfl : ((List.range len).map E).flatten with
      | nil => exact absurd hfl hne
      | cons u us =>
        have := hcell 0 u (by rw [hfl]; rfl)
        obtain ⟨b, off, sp⟩ := a
        have hsp : sp = none := by
          simp only [World.cell?, Addr.add] at this
          cases sp with
          | none => rfl
          | some v => simp at this; split at this <;> simp_all
        exact ⟨b, off, by rw [hsp]⟩
    · obtain rfl := Option.some.inj e2
      have := hcell j u hu
      rwa [Addr.add_lit] at this

end
theorem AllR.flat {α : Type} {size : Nat} {enc : α → List Value} {w : World} : ∀ {ecs : List (List Value)} {xs : List α}, AllR size (fun _ cs a => cs = enc a) w ecs xs → ecs.flatten = xs.flatMap enc
  | [], [], _ => rfl
  | _ :: _, _ :: _, ⟨_, h, hs⟩ => by rw [List.flatten_cons, List.flatMap_cons, h, AllR.flat hs]

/-- A slice whose elements' cells are a function of what they are. -/
theorem open_flat {P : Program} {t : TypeId} {α : Type} {size : Nat} {E : α → List Value} (ho : Opens P t (SliceR size (fun _ cs a => cs = E a))) {H : Type} {enc : TypeId × Value → H} {w : World} {base : Nat} {spare : Nat → Bool} {held : Bool}
    {a : Option Addr} {len cap : Nat} {d : DataW H} {p : List MemPlace} (h : DataW.Trod enc P w base spare held t (.slice a len cap) d p) : ∃ z : List α, len = z.length ∧ Cells w a (z.flatMap E) := by
  obtain ⟨fuel, hf⟩ := h
  obtain ⟨xs, ao, cap', ecs, h1, _, _, hc, hall⟩ := ho H enc w base spare held fuel _ _ hf
  simp [Value.cells] at h1
  obtain ⟨rfl, rfl, rfl⟩ := h1
  exact ⟨xs, rfl, by rw [← AllR.flat hall]; exact hc⟩

/-- A slice of ints. -/
theorem open_ints_flat {P : Program} {t e : TypeId} {k : IntKind} (ht : P.underlying t = some (.slice e)) (he : P.underlying e = some (.int k)) (hc : P.cellsOf e = 1) {H : Type} {enc : TypeId × Value → H} {w : World} {base : Nat} {spare : Nat → Bool} {held : Bool}
    {a : Option Addr} {len cap : Nat} {d : DataW H} {p : List MemPlace} (h : DataW.Trod enc P w base spare held t (.slice a len cap) d p) : ∃ z : List Int, len = z.length ∧ Cells w a (z.map (.int k)) ∧ ∀ n ∈ z, (Lit.int k n).wf = true := by
  obtain ⟨fuel, hf⟩ := h
  obtain ⟨xs, ao, cap', ecs, h1, _, _, hc, hall⟩ := opens_slice ht hc (opens_int he) H enc w base spare held fuel _ _ hf
  simp [Value.cells] at h1
  obtain ⟨rfl, rfl, rfl⟩ := h1
  have key : ∀ {ecs : List (List Value)} {xs : List Int}, AllR 1 (IntR k) w ecs xs → ecs.flatten = xs.map (.int k) ∧ ∀ n ∈ xs, (Lit.int k n).wf = true := by
    intro ecs
    induction ecs with
    | nil => intro xs h; cases xs with | nil => exact ⟨rfl, by simp⟩ | cons => exact h.elim
    | cons c ecs ih =>
      intro xs h
      cases xs with
      | nil => exact h.elim
      | cons x xs =>
        obtain ⟨_, ⟨rfl, hw⟩, hs⟩ := h
        obtain ⟨h1, h2⟩ := ih hs
        exact ⟨by rw [List.flatten_cons, h1]; rfl, by simpa using ⟨hw, h2⟩⟩
  obtain ⟨k1, k2⟩ := key hall
  exact ⟨xs, rfl, by rw [← k1]; exact hc, k2⟩

theorem ints_bounds {l : List Int} (h : ∀ n ∈ l, (Lit.int .i64 n).wf = true) : ∀ n ∈ l, -9223372036854775808 ≤ n ∧ n ≤ 9223372036854775807 := by
  intro n hn
  have := h n hn
  simp [Lit.wf, IntKind.min, IntKind.max, IntKind.signed, IntKind.bits] at this
  omega

/-- A slice of bytes. -/
theorem open_bytes_flat {P : Program} {t e : TypeId} (ht : P.underlying t = some (.slice e)) (he : P.underlying e = some (.int .u8)) (hc : P.cellsOf e = 1) {H : Type} {enc : TypeId × Value → H} {w : World} {base : Nat} {spare : Nat → Bool} {held : Bool}
    {a : Option Addr} {len cap : Nat} {d : DataW H} {p : List MemPlace} (h : DataW.Trod enc P w base spare held t (.slice a len cap) d p) : ∃ z : List UInt8, len = z.length ∧ Cells w a (z.map byteC) := by
  obtain ⟨z, hz, hcells, hwf⟩ := open_ints_flat ht he hc h
  refine ⟨z.map fun n => UInt8.ofNat n.toNat, by simpa using hz, ?_⟩
  have e : (z.map fun n => UInt8.ofNat n.toNat).map byteC = z.map (.int .u8) := by
    rw [List.map_map]
    refine List.map_congr_left fun n hn => ?_
    have := hwf n hn
    simp [Lit.wf, IntKind.min, IntKind.max, IntKind.signed, IntKind.bits] at this
    simp only [Function.comp, byteC, UInt8.toNat_ofNat']
    congr 1
    omega
  rw [e]; exact hcells

/-- Slices of structs of two ints. -/
theorem opens_pair {P : Program} {t f g : TypeId} {a b : Field} (ht : P.underlying t = some (.struct #[a, b])) (h2 : P.cellsOf t = 2) (ha : a.type = f ∧ a.offset = 0) (hb : b.type = g ∧ b.offset = 1)
    (hf : P.underlying f = some (.int .i64)) (hg : P.underlying g = some (.int .i64)) (hcf : P.cellsOf f = 1) (hcg : P.cellsOf g = 1) :
    Opens P t (fun _ cs (p : Int × Int) => cs = pairC p) := by
  intro H enc w base spare held fuel cs x hx
  obtain ⟨y0, y1, n, _, hl, h0, h1⟩ := ChangeShapes.trod_struct2 ht hx
  rw [ha.1, ha.2, hcf] at h0
  rw [hb.1, hb.2, hcg] at h1
  rw [h2] at hl
  obtain ⟨c0, c1, rfl⟩ : ∃ c0 c1, cs = [c0, c1] := by match cs, hl with | [c0, c1], _ => exact ⟨_, _, rfl⟩
  obtain ⟨n0, e0, _⟩ := DataW.trod_int hf h0
  obtain ⟨n1, e1, _⟩ := DataW.trod_int hg h1
  simp at e0 e1
  subst e0 e1
  exact ⟨(n0, n1), rfl⟩
end Go.Proofs.YtkdnbnkbnegckaaGreat
