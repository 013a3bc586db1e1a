/- Trees: what the lifted functions come to. -/
import Derived.Test.YtkdnbnkbnegckaaGreatSpR
namespace Go.Proofs.YtkdnbnkbnegckaaGreat
open Go.RowKit
abbrev Nd := Int × (Int × (Int × (Int × (Int × (Int × Int)))))
def nodeB (p : Nd) (i to : Int) : Bool := decide (0 ≤ p.2.1 ∧ p.2.1 ≤ 39 ∧ 0 ≤ p.2.2.1 ∧ p.2.2.1 ≤ 65535 ∧ 0 ≤ p.2.2.2.2.1 ∧ p.2.2.2.2.1 ≤ 8 ∧ to ≤ p.2.2.2.1 ∧ p.2.2.2.1 ≤ 256 ∧ p.2.2.2.1 + p.2.2.2.2.1 ≤ p.2.2.2.2.2.1 ∧ p.2.2.2.2.2.1 ≤ 256 ∧
  (if i = 0 then p.1 = -1 ∧ p.2.2.1 = 0 ∧ p.2.2.2.1 = 0 ∧ p.2.2.2.2.2.2 = 0 else 0 ≤ p.1 ∧ p.1 < i ∧ 1 ≤ p.2.2.2.2.2.2 ∧ p.2.2.2.2.2.2 ≤ 1999))
def treeB : Int → Int → List Nd → Bool
  | _, _, [] => true
  | i, to, p :: l => nodeB p i to && treeB (i + 1) p.2.2.2.2.2.1 l
def rightT (l : List Nd) : Bool := decide (1 ≤ l.length ∧ l.length ≤ 120) && treeB 0 0 l
@[simp] theorem sp_within {a b c : Int} : S_tree_within a b c = some (decide (b ≤ a) && decide (a ≤ c), ()) := by
  refine u_tree_within (N := 0) ?_
  by_cases h : b ≤ a <;> simp [M_tree_within, h]
section
variable {α : Type} {p q : Prop} [Decidable p] [Decidable q] {F X : α}
theorem ite_m1 : (if p then F else if q then F else X) = if p ∨ q then F else X := by by_cases h : p <;> by_cases h2 : q <;> simp [h, h2]
theorem ite_m2 : (if p then (if q then X else F) else F) = if p ∧ q then X else F := by by_cases h : p <;> by_cases h2 : q <;> simp [h, h2]
theorem ite_m3 : (if p then F else if q then X else F) = if ¬p ∧ q then X else F := by by_cases h : p <;> by_cases h2 : q <;> simp [h, h2]
theorem ite_b {u : α} : (if p then some (true, u) else some (false, u)) = some (decide p, u) := by by_cases h : p <;> simp [h]
end
theorem sp_tmay {p : Nd} {i to : Int} (hi : 0 ≤ i) (hi2 : i ≤ 1000000) (h0 : 0 ≤ to) : S_tree_may p.1 p.2.1 p.2.2.1 p.2.2.2.1 p.2.2.2.2.1 p.2.2.2.2.2.1 p.2.2.2.2.2.2 i to = some (nodeB p i to, ()) := by
  refine u_tree_may (N := 0) ?_
  obtain ⟨a, b, c, d, e, f, g⟩ := p
  have hL : eqL [a, b, c, d, e, f, g] [-1, b, 0, 0, e, f, 0] = decide (a = -1 ∧ c = 0 ∧ d = 0 ∧ g = 0) := by simp [eqL]
  have hw : wrp .i64 (i - 1) = i - 1 := wi64 (by omega) (by omega)
  simp [M_tree_may]
  rw [hL, hw]
  simp only [joinK_if, joinK_l, joinK_r]
  have hW : to ≤ d ∧ d ≤ 256 ∧ 0 ≤ e ∧ e ≤ 8 → wrp .i64 (d + e) = d + e := fun h => wi64 (by omega) (by omega)
  generalize wrp .i64 (d + e) = W at *
  simp only [nodeB, ← Bool.decide_and, ← ite_b, ite_m2]
  by_cases h0 : i = 0
  · simp only [h0, if_true, ite_m2]
    split
    · rw [if_pos (by omega)]
    · rw [if_neg (by omega)]
  · simp only [h0, if_false, ite_m2]
    split
    · rw [if_pos (by omega)]
    · rw [if_neg (by omega)]
theorem treeB_drop {l : List Nd} {k : Nat} {i to : Int} (h : k < l.length) : treeB i to (l.drop k) = (nodeB l[k] i to && treeB (i + 1) l[k].2.2.2.2.2.1 (l.drop (k + 1))) := by
  rw [List.drop_eq_getElem_cons h]; rfl
theorem sp_rRight13 {l : List Nd} : S_ref13_Right l = some (rightT l, ()) := by
  refine u_ref13_Right (N := l.length + 1) ?_
  simp [M_ref13_Right]
  by_cases h1 : l.length < 1
  · have : l = [] := List.eq_nil_of_length_eq_zero (by omega)
    subst this
    simp [rightT]
  · by_cases h2 : 120 < l.length
    · simp [rightT, show ¬(l.length : Int) < 1 by omega, show (120 : Int) < l.length by omega, show ¬l.length ≤ 120 by omega]
    · simp [show ¬(l.length : Int) < 1 by omega, show ¬(120 : Int) < l.length by omega]
      refine iter_to (fun d => l.length - d.2.1.toNat) (fun d => ∃ (k : Nat) (to : Int), d = (to, ((k : Int), ())) ∧ k ≤ l.length ∧ 0 ≤ to ∧ rightT l = treeB k to (l.drop k)) ?_ _ _ ⟨0, 0, rfl, Nat.zero_le _, Int.le_refl _, by simp [rightT]; omega⟩ (by simp)
      rintro _ again ⟨k, to, rfl, hk, ht, hr⟩ ih
      by_cases hlt : k < l.length
      · have hw : wrp .i64 ((k : Int) + 1) = (k : Int) + 1 := wi64 (by omega) (by omega)
        rw [treeB_drop hlt] at hr
        simp [hlt, bnd_get hlt, hw]
        generalize l[k] = p at *
        obtain ⟨a, b, c, d, e, f, g⟩ := p
        have hgood : nodeB (a, b, c, d, e, f, g) k to = true → again (f, ((k : Int) + 1, ())) = some (rightT l, ()) := fun hg => by
          have := of_decide_eq_true hg
          simp only at this
          refine ih _ ⟨k + 1, f, rfl, hlt, by omega, by rw [hr, hg]; rfl⟩ (by simp; omega)
        have hbad : nodeB (a, b, c, d, e, f, g) k to = false → rightT l = false := fun hg => by rw [hr, hg]; rfl
        have hW : to ≤ d ∧ d ≤ 256 ∧ d ≤ f ∧ f ≤ 256 → wrp .i64 (f - d) = f - d := fun h => wi64 (by omega) (by omega)
        simp only [joinK_if, joinK_l, joinK_r]
        generalize wrp .i64 (f - d) = W at *
        by_cases h0 : k = 0
        · subst h0
          simp only [if_true, Nat.lt_irrefl, if_false, ite_m1, ite_m2, ite_m3]
          cases hg : nodeB (a, b, c, d, e, f, g) (0 : Nat) to with
          | true =>
            have := of_decide_eq_true hg
            simp at this
            rw [if_pos (by omega)]
            exact hgood hg
          | false =>
            have := of_decide_eq_false hg
            simp only [Int.natCast_zero, if_true] at this
            rw [if_neg (by omega), hbad hg]
        · simp only [h0, show 0 < k by omega, if_true, if_false, ite_m1]
          cases hg : nodeB (a, b, c, d, e, f, g) k to with
          | true =>
            have := of_decide_eq_true hg
            simp only [show ¬((k : Int) = 0) by omega, if_false] at this
            rw [if_neg (by omega)]
            exact hgood hg
          | false =>
            have := of_decide_eq_false hg
            simp only [show ¬((k : Int) = 0) by omega, if_false] at this
            rw [if_pos (by omega), hbad hg]
      · have : k = l.length := by omega
        subst this
        rw [hr]
        simp [treeB]
theorem sp_tRight {l : List Nd} (hl : l.length ≤ 1000000) : S_tree_Right l = some (rightT l, ()) := by
  refine u_tree_Right (N := l.length + 1) ?_
  simp [M_tree_Right]
  refine iter_to (fun d => l.length - d.2.1.toNat) (fun d => ∃ (k : Nat) (to : Int), d = (to, ((k : Int), ())) ∧ k ≤ l.length ∧ k ≤ 120 ∧ 0 ≤ to ∧ rightT l = (decide (1 ≤ l.length ∧ l.length ≤ 120) && treeB k to (l.drop k))) ?_ _ _ ⟨0, 0, rfl, Nat.zero_le _, by decide, Int.le_refl _, by simp [rightT]⟩ (by simp)
  rintro _ again ⟨k, to, rfl, hk, hk2, ht, hr⟩ ih
  by_cases hlt : k < l.length
  · have hw : wrp .i64 ((k : Int) + 1) = (k : Int) + 1 := wi64 (by omega) (by omega)
    simp [hlt, bnd_get hlt, hw]
    by_cases h120 : 120 ≤ k
    · have : rightT l = false := by simp [rightT]; omega
      simp [this, show (120 : Int) ≤ k by omega]
    · rw [treeB_drop hlt] at hr
      rw [sp_tmay (by omega) (by omega) ht]
      cases hg : nodeB l[k] k to with
      | true =>
        have := of_decide_eq_true hg
        rw [hg] at hr
        simp [show ¬(120 : Int) ≤ k by omega]
        exact ih _ ⟨k + 1, _, rfl, hlt, by omega, by omega, by rw [hr]; rfl⟩ (by simp; omega)
      | false =>
        rw [hg] at hr
        simp [show ¬(120 : Int) ≤ k by omega, hr]
  · have : k = l.length := by omega
    subst this
    rw [hr]
    simp [treeB]
    rw [← Bool.decide_and]
    exact decide_eq_decide.2 (by omega)
/-- Seven numbers with a sign; many of them. -/
def nodeP (l : List UInt8) : Pr Nd :=
  match intP l with
  | .error e => .error e
  | .ok (a, l) =>
  match intP l with
  | .error e => .error e
  | .ok (b, l) =>
  match intP l with
  | .error e => .error e
  | .ok (c, l) =>
  match intP l with
  | .error e => .error e
  | .ok (d, l) =>
  match intP l with
  | .error e => .error e
  | .ok (f, l) =>
  match intP l with
  | .error e => .error e
  | .ok (g, l) =>
  match intP l with
  | .error e => .error e
  | .ok (h, l) => .ok ((a, b, c, d, f, g, h), l)
def nodesP : Nat → List UInt8 → Pr (List Nd)
  | 0, l => .ok ([], l)
  | n + 1, l =>
    match nodeP l with
    | .error e => .error e
    | .ok (p, l) =>
    match nodesP n l with
    | .ok (r, l) => .ok (p :: r, l)
    | .error e => .error e
def treeP (l : List UInt8) : Pr (List Nd) :=
  match numP 120 l with
  | .error e => .error e
  | .ok (u, l) =>
  match nodesP u.toNat l with
  | .error e => .error e
  | .ok (r, l) => if rightT r then .ok (r, l) else .error 14
theorem im_node {l : List UInt8} (hl : Len l) : match nodeP l with
    | .ok ((a, b, c, d, f, g, h), l') => S_tree_take l true 0 = some (l', (true, (0, (a, (b, (c, (d, (f, (g, (h, ()))))))))))
    | .error e => e ≠ 0 ∧ ∃ l' a b c d f g h, S_tree_take l true 0 = some (l', (true, (e, (a, (b, (c, (d, (f, (g, (h, ())))))))))) := by
  unfold nodeP
  have hI := im_Int hl
  cases h1 : intP l with
  | error e =>
    rw [h1] at hI
    obtain ⟨he, l', hI⟩ := hI
    refine ⟨he, l', 0, 0, 0, 0, 0, 0, 0, u_tree_take (N := 0) ?_⟩
    simp [M_tree_take, hI, ime_Int he]
  | ok p =>
    obtain ⟨a, l1⟩ := p
    dsimp only
    have k1 : Len l1 := Nat.le_trans (intP_len h1) hl
    rw [h1] at hI
    have e1 : S_cursor_Cursor_Int l true 0 = _ := hI
    have hI := im_Int k1
    cases h2 : intP l1 with
    | error e =>
      rw [h2] at hI
      obtain ⟨he, l', hI⟩ := hI
      refine ⟨he, l', a, 0, 0, 0, 0, 0, 0, u_tree_take (N := 0) ?_⟩
      simp [M_tree_take, e1, hI, ime_Int he]
    | ok p =>
      obtain ⟨b, l2⟩ := p
      dsimp only
      have k2 : Len l2 := Nat.le_trans (intP_len h2) k1
      rw [h2] at hI
      have e2 : S_cursor_Cursor_Int l1 true 0 = _ := hI
      have hI := im_Int k2
      cases h3 : intP l2 with
      | error e =>
        rw [h3] at hI
        obtain ⟨he, l', hI⟩ := hI
        refine ⟨he, l', a, b, 0, 0, 0, 0, 0, u_tree_take (N := 0) ?_⟩
        simp [M_tree_take, e1, e2, hI, ime_Int he]
      | ok p =>
        obtain ⟨c, l3⟩ := p
        dsimp only
        have k3 : Len l3 := Nat.le_trans (intP_len h3) k2
        rw [h3] at hI
        have e3 : S_cursor_Cursor_Int l2 true 0 = _ := hI
        have hI := im_Int k3
        cases h4 : intP l3 with
        | error e =>
          rw [h4] at hI
          obtain ⟨he, l', hI⟩ := hI
          refine ⟨he, l', a, b, c, 0, 0, 0, 0, u_tree_take (N := 0) ?_⟩
          simp [M_tree_take, e1, e2, e3, hI, ime_Int he]
        | ok p =>
          obtain ⟨d, l4⟩ := p
          dsimp only
          have k4 : Len l4 := Nat.le_trans (intP_len h4) k3
          rw [h4] at hI
          have e4 : S_cursor_Cursor_Int l3 true 0 = _ := hI
          have hI := im_Int k4
          cases h5 : intP l4 with
          | error e =>
            rw [h5] at hI
            obtain ⟨he, l', hI⟩ := hI
            refine ⟨he, l', a, b, c, d, 0, 0, 0, u_tree_take (N := 0) ?_⟩
            simp [M_tree_take, e1, e2, e3, e4, hI, ime_Int he]
          | ok p =>
            obtain ⟨f, l5⟩ := p
            dsimp only
            have k5 : Len l5 := Nat.le_trans (intP_len h5) k4
            rw [h5] at hI
            have e5 : S_cursor_Cursor_Int l4 true 0 = _ := hI
            have hI := im_Int k5
            cases h6 : intP l5 with
            | error e =>
              rw [h6] at hI
              obtain ⟨he, l', hI⟩ := hI
              refine ⟨he, l', a, b, c, d, f, 0, 0, u_tree_take (N := 0) ?_⟩
              simp [M_tree_take, e1, e2, e3, e4, e5, hI, ime_Int he]
            | ok p =>
              obtain ⟨g, l6⟩ := p
              dsimp only
              have k6 : Len l6 := Nat.le_trans (intP_len h6) k5
              rw [h6] at hI
              have e6 : S_cursor_Cursor_Int l5 true 0 = _ := hI
              have hI := im_Int k6
              cases h7 : intP l6 with
              | error e =>
                rw [h7] at hI
                obtain ⟨he, l', hI⟩ := hI
                refine ⟨he, l', a, b, c, d, f, g, 0, u_tree_take (N := 0) ?_⟩
                simp [M_tree_take, e1, e2, e3, e4, e5, e6, hI, ime_Int he]
              | ok p =>
                obtain ⟨h, l7⟩ := p
                dsimp only
                have k7 : Len l7 := Nat.le_trans (intP_len h7) k6
                rw [h7] at hI
                have e7 : S_cursor_Cursor_Int l6 true 0 = _ := hI
                refine u_tree_take (N := 0) ?_
                simp [M_tree_take, e1, e2, e3, e4, e5, e6, e7]
theorem ime_node {l : List UInt8} {e : Int} (he : e ≠ 0) : S_tree_take l true e = some (l, (true, (e, (0, (0, (0, (0, (0, (0, (0, ())))))))))) := by
  refine u_tree_take (N := 0) ?_
  simp [M_tree_take, ime_Int he]
theorem nodeP_len {l l' : List UInt8} {x : Nd} (h : nodeP l = .ok (x, l')) : l'.length ≤ l.length := by
  unfold nodeP at h
  split at h
  · cases h
  · rename_i h1; have i1 := intP_len h1
    split at h
    · cases h
    · rename_i h2; have i2 := intP_len h2
      split at h
      · cases h
      · rename_i h3; have i3 := intP_len h3
        split at h
        · cases h
        · rename_i h4; have i4 := intP_len h4
          split at h
          · cases h
          · rename_i h5; have i5 := intP_len h5
            split at h
            · cases h
            · rename_i h6; have i6 := intP_len h6
              split at h
              · cases h
              · rename_i h7; have i7 := intP_len h7
                cases h
                omega
theorem im_tree {l : List UInt8} (hl : Len l) : Im (S_tree_Take l true 0) (treeP l) [] := by
  have hb := im_Num (m := 120) hl (by omega) (by omega)
  unfold treeP
  cases h : numP 120 l with
  | error e =>
    rw [h] at hb
    obtain ⟨he, l', hb⟩ := hb
    refine ⟨he, l', u_tree_Take (N := 1) ?_⟩
    simp [M_tree_Take, hb, iter_s, he]
  | ok p =>
    obtain ⟨u, l'⟩ := p
    obtain ⟨h1, h2, h3⟩ := numP_ok h
    rw [h] at hb
    obtain ⟨n, rfl⟩ := Int.eq_ofNat_of_zero_le h1
    refine Im.of ?_ fun q hq => u_tree_Take (N := n + 1) hq
    simp [M_tree_Take, show S_cursor_Cursor_Num l true 0 120 = _ from hb]
    refine iter_ex (R := fun r => Im r _ []) (fun d => n - d.2.2.2.2.1.toNat) (fun d => ∃ (k : Nat) (out : List Nd) (l2 : List UInt8) (e : Int), d = (out, (l2, (true, (e, ((k : Int), ()))))) ∧ k ≤ n ∧ out.length = k ∧ ((e = 0 ∧ Len l2 ∧ nodesP n l' = withP out (nodesP (n - k) l2)) ∨ (e ≠ 0 ∧ nodesP n l' = .error e))) ?_ _ _ ⟨0, [], l', 0, rfl, Nat.zero_le _, rfl, .inl ⟨rfl, Nat.le_trans h3 hl, by cases nodesP n l' <;> rfl⟩⟩ (by simp)
    rintro _ again ⟨k, out, l2, e, rfl, hk, ho, hs⟩ ih
    by_cases hlt : k < n
    · have hr := room_t (a := k) (b := 1) (c := 56) (by omega) (by omega)
      have hw : wrp .i64 ((k : Int) + 1) = (k : Int) + 1 := wi64 (by omega) (by omega)
      rcases hs with ⟨rfl, hl2, ht⟩ | ⟨he, ht⟩
      · obtain ⟨j, hj⟩ : ∃ j, n - k = j + 1 := ⟨n - k - 1, by omega⟩
        rw [hj, nodesP] at ht
        have hN := im_node hl2
        cases hp : nodeP l2 with
        | error e =>
          rw [hp] at hN ht
          obtain ⟨he, l3, a, b, c, d, f, g, h, hN⟩ := hN
          have := ih (out ++ [(a, (b, (c, (d, (f, (g, h))))))], (l3, (true, (e, ((k : Int) + 1, ()))))) ⟨k + 1, _, _, _, rfl, hlt, by simp [ho], .inr ⟨he, ht⟩⟩ (by simp; omega)
          simpa [hlt, hN, ho, hr, hw] using this
        | ok q =>
          obtain ⟨⟨a, b, c, d, f, g, h⟩, l3⟩ := q
          rw [hp] at hN ht
          simp only at hN ht
          have := ih (out ++ [(a, (b, (c, (d, (f, (g, h))))))], (l3, (true, (0, ((k : Int) + 1, ()))))) ⟨k + 1, _, _, _, rfl, hlt, by simp [ho], .inl ⟨rfl, Nat.le_trans (nodeP_len hp) hl2, by
            rw [ht, show n - (k + 1) = j by omega]
            cases nodesP j l3 <;> simp [withP]⟩⟩ (by simp; omega)
          simpa [hlt, hN, ho, hr, hw] using this
      · have := ih (out ++ [(0, (0, (0, (0, (0, (0, 0))))))], (l2, (true, (e, ((k : Int) + 1, ()))))) ⟨k + 1, _, _, _, rfl, hlt, by simp [ho], .inr ⟨he, ht⟩⟩ (by simp; omega)
        simpa [hlt, ime_node he, ho, hr, hw] using this
    · have : k = n := by omega
      subst this
      rcases hs with ⟨rfl, hl2, ht⟩ | ⟨he, ht⟩
      · have ht2 : nodesP k l' = .ok (out, l2) := by rw [ht]; simp [nodesP, withP]
        rw [ht2]
        simp only
        cases hr : rightT out with
        | true =>
          simp [sp_tRight (l := out) (by omega), hr]
          rfl
        | false =>
          simp [sp_tRight (l := out) (by omega), hr]
          exact ⟨by decide, l2, rfl⟩
      · rw [ht]
        refine ⟨he, l2, ?_⟩
        simp [he]
theorem rf_node {β : Type} {l : List UInt8} (hl : Len l) (k : Nd → List UInt8 → Int → Option β) : match nodeP l with
    | .ok (p, l') => (bnd (S_ref02_Int l 0) fun p14 => bnd (S_ref02_Int p14.2.1 p14.2.2.1) fun p16 => bnd (S_ref02_Int p16.2.1 p16.2.2.1) fun p18 => bnd (S_ref02_Int p18.2.1 p18.2.2.1) fun p20 =>
  bnd (S_ref02_Int p20.2.1 p20.2.2.1) fun p22 => bnd (S_ref02_Int p22.2.1 p22.2.2.1) fun p24 => bnd (S_ref02_Int p24.2.1 p24.2.2.1) fun p26 => k (p14.1, p16.1, p18.1, p20.1, p22.1, p24.1, p26.1) p26.2.1 p26.2.2.1) = k p l' 0
    | .error e => e ≠ 0 ∧ ∃ p l', (bnd (S_ref02_Int l 0) fun p14 => bnd (S_ref02_Int p14.2.1 p14.2.2.1) fun p16 => bnd (S_ref02_Int p16.2.1 p16.2.2.1) fun p18 => bnd (S_ref02_Int p18.2.1 p18.2.2.1) fun p20 =>
  bnd (S_ref02_Int p20.2.1 p20.2.2.1) fun p22 => bnd (S_ref02_Int p22.2.1 p22.2.2.1) fun p24 => bnd (S_ref02_Int p24.2.1 p24.2.2.1) fun p26 => k (p14.1, p16.1, p18.1, p20.1, p22.1, p24.1, p26.1) p26.2.1 p26.2.2.1) = k p l' e := by
  unfold nodeP
  have hI := rf_Int hl
  cases h1 : intP l with
  | error e =>
    rw [h1] at hI
    obtain ⟨he, a', l', hI⟩ := hI
    exact ⟨he, (a', 0, 0, 0, 0, 0, 0), l', by simp [hI, rfe_Int he]⟩
  | ok p =>
    obtain ⟨a, l1⟩ := p
    dsimp only
    have k1 : Len l1 := Nat.le_trans (intP_len h1) hl
    rw [h1] at hI
    have e1 : S_ref02_Int l 0 = _ := hI
    have hI := rf_Int k1
    cases h2 : intP l1 with
    | error e =>
      rw [h2] at hI
      obtain ⟨he, a', l', hI⟩ := hI
      exact ⟨he, (a, a', 0, 0, 0, 0, 0), l', by simp [e1, hI, rfe_Int he]⟩
    | ok p =>
      obtain ⟨b, l2⟩ := p
      dsimp only
      have k2 : Len l2 := Nat.le_trans (intP_len h2) k1
      rw [h2] at hI
      have e2 : S_ref02_Int l1 0 = _ := hI
      have hI := rf_Int k2
      cases h3 : intP l2 with
      | error e =>
        rw [h3] at hI
        obtain ⟨he, a', l', hI⟩ := hI
        exact ⟨he, (a, b, a', 0, 0, 0, 0), l', by simp [e1, e2, hI, rfe_Int he]⟩
      | ok p =>
        obtain ⟨c, l3⟩ := p
        dsimp only
        have k3 : Len l3 := Nat.le_trans (intP_len h3) k2
        rw [h3] at hI
        have e3 : S_ref02_Int l2 0 = _ := hI
        have hI := rf_Int k3
        cases h4 : intP l3 with
        | error e =>
          rw [h4] at hI
          obtain ⟨he, a', l', hI⟩ := hI
          exact ⟨he, (a, b, c, a', 0, 0, 0), l', by simp [e1, e2, e3, hI, rfe_Int he]⟩
        | ok p =>
          obtain ⟨d, l4⟩ := p
          dsimp only
          have k4 : Len l4 := Nat.le_trans (intP_len h4) k3
          rw [h4] at hI
          have e4 : S_ref02_Int l3 0 = _ := hI
          have hI := rf_Int k4
          cases h5 : intP l4 with
          | error e =>
            rw [h5] at hI
            obtain ⟨he, a', l', hI⟩ := hI
            exact ⟨he, (a, b, c, d, a', 0, 0), l', by simp [e1, e2, e3, e4, hI, rfe_Int he]⟩
          | ok p =>
            obtain ⟨f, l5⟩ := p
            dsimp only
            have k5 : Len l5 := Nat.le_trans (intP_len h5) k4
            rw [h5] at hI
            have e5 : S_ref02_Int l4 0 = _ := hI
            have hI := rf_Int k5
            cases h6 : intP l5 with
            | error e =>
              rw [h6] at hI
              obtain ⟨he, a', l', hI⟩ := hI
              exact ⟨he, (a, b, c, d, f, a', 0), l', by simp [e1, e2, e3, e4, e5, hI, rfe_Int he]⟩
            | ok p =>
              obtain ⟨g, l6⟩ := p
              dsimp only
              have k6 : Len l6 := Nat.le_trans (intP_len h6) k5
              rw [h6] at hI
              have e6 : S_ref02_Int l5 0 = _ := hI
              have hI := rf_Int k6
              cases h7 : intP l6 with
              | error e =>
                rw [h7] at hI
                obtain ⟨he, a', l', hI⟩ := hI
                exact ⟨he, (a, b, c, d, f, g, a'), l', by simp [e1, e2, e3, e4, e5, e6, hI, rfe_Int he]⟩
              | ok p =>
                obtain ⟨h, l7⟩ := p
                dsimp only
                have k7 : Len l7 := Nat.le_trans (intP_len h7) k6
                rw [h7] at hI
                have e7 : S_ref02_Int l6 0 = _ := hI
                simp [e1, e2, e3, e4, e5, e6, e7]
theorem rf_tree {l : List UInt8} (hl : Len l) : Rf (S_ref13_Take l 0) (treeP l) := by
  have hb := rf_Num (m := 120) hl (by omega) (by omega)
  unfold treeP
  cases h : numP 120 l with
  | error e =>
    rw [h] at hb
    obtain ⟨he, a, l', hb⟩ := hb
    refine ⟨he, [], l', u_ref13_Take (N := 1) ?_⟩
    simp [M_ref13_Take, hb, iter_s, he]
  | ok p =>
    obtain ⟨u, l'⟩ := p
    obtain ⟨h1, h2, h3⟩ := numP_ok h
    rw [h] at hb
    obtain ⟨n, rfl⟩ := Int.eq_ofNat_of_zero_le h1
    refine Rf.of ?_ fun q hq => u_ref13_Take (N := n + 2) hq
    simp [M_ref13_Take, show S_ref02_Num l 0 120 = _ from hb]
    refine iter_ex (R := fun r => Rf (joinK r _) _) (fun d => if d.2.2.1 = 0 then n + 1 - d.2.2.2.2.1.toNat else 0) (fun d => ∃ (k : Nat) (out : List Nd) (l2 : List UInt8) (e : Int), d = (out, (l2, (e, (0, ((k : Int), ()))))) ∧ ((e = 0 ∧ k ≤ n ∧ out.length = k ∧ Len l2 ∧ nodesP n l' = withP out (nodesP (n - k) l2)) ∨ (e ≠ 0 ∧ nodesP n l' = .error e))) ?_ _ _ ⟨0, [], l', 0, rfl, .inl ⟨rfl, Nat.zero_le _, rfl, Nat.le_trans h3 hl, by cases nodesP n l' <;> rfl⟩⟩ (by simp)
    rintro _ again ⟨k, out, l2, e, rfl, ⟨rfl, hk, ho, hl2, ht⟩ | ⟨he, ht⟩⟩ ih
    · by_cases hlt : k < n
      · have hr := room_t (a := k) (b := 1) (c := 56) (by omega) (by omega)
        have hw : wrp .i64 ((k : Int) + 1) = (k : Int) + 1 := wi64 (by omega) (by omega)
        obtain ⟨j, hj⟩ : ∃ j, n - k = j + 1 := ⟨n - k - 1, by omega⟩
        rw [hj, nodesP] at ht
        have hN := rf_node hl2 (k := fun p l e => again (out ++ [p], (l, (e, (0, ((k : Int) + 1, ()))))))
        simp [hlt, ho, hr, hw]
        cases hp : nodeP l2 with
        | error e =>
          rw [hp] at hN ht
          obtain ⟨he, p, l3, hN⟩ := hN
          rw [hN]
          exact ih _ ⟨k + 1, _, _, _, rfl, .inr ⟨he, ht⟩⟩ (by simp [he]; omega)
        | ok q =>
          obtain ⟨p, l3⟩ := q
          rw [hp] at hN ht
          simp only at hN ht
          rw [hN]
          exact ih _ ⟨k + 1, _, _, _, rfl, .inl ⟨rfl, hlt, by simp [ho], Nat.le_trans (nodeP_len hp) hl2, by
            rw [ht, show n - (k + 1) = j by omega]
            cases nodesP j l3 <;> simp [withP]⟩⟩ (by simp; omega)
      · have : k = n := by omega
        subst this
        have ht2 : nodesP k l' = .ok (out, l2) := by rw [ht]; simp [nodesP, withP]
        rw [ht2]
        simp only
        cases hr : rightT out with
        | true =>
          simp [sp_rRight13, hr]
          rfl
        | false =>
          simp [sp_rRight13, hr]
          exact ⟨by decide, [], l2, rfl⟩
    · rw [ht]
      refine ⟨he, [], l2, ?_⟩
      simp [he]
theorem rfe_tree {l : List UInt8} {e : Int} (he : e ≠ 0) : S_ref13_Take l e = some ([], (l, (e, ()))) := by
  refine u_ref13_Take (N := 1) ?_
  simp [M_ref13_Take, rfe_Num he, iter_s, he]
theorem nodesP_len : ∀ {n : Nat} {l l' : List UInt8} {x : List Nd}, nodesP n l = .ok (x, l') → l'.length ≤ l.length ∧ x.length = n
  | 0, l, l', x, h => by simp only [nodesP, Except.ok.injEq, Prod.mk.injEq] at h; obtain ⟨rfl, rfl⟩ := h; simp
  | n + 1, l, l', x, h => by
    rw [nodesP] at h
    split at h
    · cases h
    · rename_i p l2 hp
      split at h
      · rename_i r l3 hr
        cases h
        have h1 := nodesP_len hr
        have h2 := nodeP_len hp
        simp; omega
      · cases h
theorem treeP_len {l l' : List UInt8} {x : List Nd} (h : treeP l = .ok (x, l')) : l'.length ≤ l.length ∧ x.length ≤ 120 := by
  unfold treeP at h
  split at h
  · cases h
  · rename_i u l2 hn
    obtain ⟨h1, h2, h3⟩ := numP_ok hn
    split at h
    · cases h
    · rename_i r l3 hr
      have h4 := nodesP_len hr
      split at h
      · cases h; omega
      · cases h
end Go.Proofs.YtkdnbnkbnegckaaGreat
