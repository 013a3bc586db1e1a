/- What functions come to: templates, and contracts. Functions, lifted: what the program comes to by them. All lifted functions. What functions come to: templates, and contracts. Functions, lifted: what the program comes to by them. All lifted functions. How a function that came in is opened, as the second machine's data. The law FileSame: what it comes to. What is read off bytes is read off longer bytes as well. The law FileCuts: what it comes to. file.Copy and the reference's Decode: what they come to. The reference's Decode: what it comes to. What is taken is laid again as just these bytes, in plain Lean. The law FileDecodes: what it comes to. FileDecodes: every input, by the walk of the law. -/
import Derived.Test.YtkdnbnkbnegckaaGreatSmC
import Derived.Test.YtkdnbnkbnegckaaGreatDec
import Derived.Test.YtkdnbnkbnegckaaGreatLr
import Derived.Test.YtkdnbnkbnegckaaGreatLq
import Derived.Test.YtkdnbnkbnegckaaGreatSpX
import Derived.Test.YtkdnbnkbnegckaaGreatLiv
import Derived.ProofKit
import Derived.OpenShut
import Derived.ShutString
import Derived.SizedLaws
import Derived.Deep.Slices
namespace Go.Proofs.YtkdnbnkbnegckaaGreat
open Go.RowKit
set_option maxRecDepth 100000
end Go.Proofs.YtkdnbnkbnegckaaGreat
namespace Go.Proofs.YtkdnbnkbnegckaaGreat
open Go.RowKit
set_option maxRecDepth 100000
set_option linter.unusedVariables false
end Go.Proofs.YtkdnbnkbnegckaaGreat

namespace Go.Proofs.YtkdnbnkbnegckaaGreat
open Go.RowKit
set_option maxRecDepth 100000
end Go.Proofs.YtkdnbnkbnegckaaGreat
namespace Go.Proofs.YtkdnbnkbnegckaaGreat
open Go.RowKit
set_option maxRecDepth 100000
set_option linter.unusedVariables false
end Go.Proofs.YtkdnbnkbnegckaaGreat

namespace Go.Proofs.YtkdnbnkbnegckaaGreat
open Go.RowKit Go.WideShapes
set_option maxRecDepth 20000
end Go.Proofs.YtkdnbnkbnegckaaGreat
namespace Go.Proofs.YtkdnbnkbnegckaaGreat
open Go.RowKit
set_option maxRecDepth 20000
end Go.Proofs.YtkdnbnkbnegckaaGreat
namespace Go.Proofs.YtkdnbnkbnegckaaGreat
open Go.RowKit
end Go.Proofs.YtkdnbnkbnegckaaGreat
namespace Go.Proofs.YtkdnbnkbnegckaaGreat
open Go.RowKit
set_option maxRecDepth 20000
theorem fncsP_err : ∀ {n : Nat} {l : List UInt8} {e : Int}, Len l → fncsP n l = .error e → e ≠ 0
  | 0, l, e, _, h => by cases h
  | n + 1, l, e, hl, h => by
    rw [fncsP] at h
    split at h
    · rename_i e1 h1
      have hT := im_Take hl
      rw [h1] at hT
      cases h
      exact hT.1
    · rename_i p l1 h1
      obtain ⟨q1, q2, q3, q4, q5, q6, q7, q8, q9, q10, q11⟩ := p
      split at h
      · cases h
      · rename_i e2 h2
        cases h
        exact fncsP_err (Nat.le_trans (fncP_ok h1).1 hl) h2
theorem decodeP_err {b : List UInt8} {e : Int} (hl : b.length ≤ 140737488351232) (h : decodeP b = .error e) : e ≠ 0 := by
  unfold decodeP at h
  split at h
  · have kb : Len (b.drop 4) := by unfold Len; rw [List.length_drop]; omega
    split at h
    · rename_i e1 h1
      have hN := im_Num (l := b.drop 4) (m := 40) kb (by omega) (by omega)
      rw [h1] at hN
      cases h
      exact hN.1
    · rename_i n l1 h1
      split at h
      · cases h; decide
      · split at h
        · rename_i e2 h2
          cases h
          exact fncsP_err (Nat.le_trans (numP_ok h1).2.2 kb) h2
        · split at h
          · split at h
            · cases h
            · cases h; decide
          · cases h; decide
  · cases h; decide
end Go.Proofs.YtkdnbnkbnegckaaGreat
namespace Go.Proofs.YtkdnbnkbnegckaaGreat
open Go.RowKit
set_option maxRecDepth 20000
@[simp] theorem sp_rEnd {l : List UInt8} {e : Int} : S_ref02_End l e = some ((if e = 0 ∧ l ≠ [] then 4 else e), ()) := by
  refine u_ref02_End (N := 0) ?_
  by_cases h : e = 0
  · cases l <;> simp [M_ref02_End, h]
  · simp [M_ref02_End, h]
end Go.Proofs.YtkdnbnkbnegckaaGreat
namespace Go.Proofs.YtkdnbnkbnegckaaGreat
open Go.RowKit
set_option maxRecDepth 20000
theorem canP_len {fs : List Fn} (h : fs.length ≤ 1000000) : (fs.map (·.1)).length ≤ 1000000 := by rw [List.length_map]; exact h
theorem sp_rDecode {b : List UInt8} (hl : b.length ≤ 140737488351232) : S_ref16_Decode b = some ((decodeR b).1, (decodeR b).2, ()) := by
  by_cases h4 : 4 ≤ b.length ∧ b.take 4 = [73, 78, 76, 49]
  case neg =>
    refine u_ref16_Decode (N := 0) ?_
    rw [decodeR, decodeP, if_neg h4]
    by_cases h5 : b.length < 4
    · simp [M_ref16_Decode, show (b.length : Int) < 4 by omega]
    · have h6 : ¬b.take 4 = [73, 78, 76, 49] := fun e => h4 ⟨by omega, e⟩
      simp [M_ref16_Decode, show ¬(b.length : Int) < 4 by omega, show (4 : Int) ≤ b.length by omega, h6]
  obtain ⟨h5, h6⟩ := h4
  have c1 : ¬(b.length : Int) < 4 := by omega
  have c2 : (4 : Int) ≤ b.length := by omega
  have kb : Len (b.drop 4) := by unfold Len; rw [List.length_drop]; omega
  have hN := rf_Num (l := b.drop 4) (m := 40) kb (by omega) (by omega)
  have hT : (b.drop 4).take ((b.length : Int) - 4).toNat = b.drop 4 := List.take_of_length_le (by rw [List.length_drop]; omega)
  rw [decodeR, decodeP, if_pos ⟨h5, h6⟩]
  cases h1 : numP 40 (b.drop 4) with
  | error e =>
    rw [h1] at hN
    obtain ⟨he, a, l', hN⟩ := hN
    refine u_ref16_Decode (N := 1) ?_
    simp [M_ref16_Decode, c1, c2, h6, hT, hN, he, iter_s]
  | ok p =>
    obtain ⟨n, l1⟩ := p
    have hn := numP_ok h1
    rw [h1] at hN
    have hN : S_ref02_Num (b.drop 4) 0 40 = _ := hN
    have k1 : Len l1 := Nat.le_trans hn.2.2 kb
    by_cases h0 : n = 0
    · refine u_ref16_Decode (N := 1) ?_
      simp [M_ref16_Decode, c1, c2, h6, hT, hN, h0, iter_s]
    obtain ⟨n, rfl⟩ := Int.eq_ofNat_of_zero_le hn.1
    refine u_ref16_Decode (N := n + 1) ?_
    have h0 : ¬n = 0 := by omega
    simp [M_ref16_Decode, c1, c2, h6, hT, hN, h0]
    refine iter_join (fun d => n - d.2.2.2.1.toNat) (fun d => ∃ (k : Nat) (out : List Fn) (l2 : List UInt8) (e : Int), d = (out, l2, e, (k : Int), ()) ∧ k ≤ n ∧ out.length = k ∧ ((e = 0 ∧ Len l2 ∧ fncsP n l1 = withP out (fncsP (n - k) l2)) ∨ (e ≠ 0 ∧ fncsP n l1 = .error e))) ?_ _ _ ⟨0, [], l1, 0, rfl, Nat.zero_le _, rfl, .inl ⟨rfl, k1, by cases fncsP n l1 <;> rfl⟩⟩ (by simp)
    rintro _ again ⟨k, out, l2, e, rfl, hk, ho, hs⟩ ih
    rcases hs with ⟨rfl, hl2, ht⟩ | ⟨he, ht⟩
    · by_cases hlt : k < n
      · have hr := room_t (a := k) (b := 1) (c := 240) (by omega) (by omega)
        have hw : wrp .i64 ((k : Int) + 1) = (k : Int) + 1 := wi64 (by omega) (by omega)
        obtain ⟨j, hj⟩ : ∃ j, n - k = j + 1 := ⟨n - k - 1, by omega⟩
        rw [hj, fncsP] at ht
        have hF := rf_Take hl2
        cases hp : fncP l2 with
        | error e =>
          rw [hp] at hF ht
          obtain ⟨he, l3, hF⟩ := hF
          have := ih (out ++ [([], false, [], [], [], [], [], [], [], [], [])], l3, e, (k : Int) + 1, ()) ⟨k + 1, _, _, _, rfl, hlt, by simp [ho], .inr ⟨he, ht⟩⟩ (by simp; omega)
          simpa [hlt, hF, ho, hr, hw] using this
        | ok q =>
          obtain ⟨⟨q1, q2, q3, q4, q5, q6, q7, q8, q9, q10, q11⟩, l3⟩ := q
          rw [hp] at hF ht
          have hF : S_ref15_Take l2 0 = _ := hF
          simp only at ht
          have := ih (out ++ [(q1, q2, q3, q4, q5, q6, q7, q8, q9, q10, q11)], l3, 0, (k : Int) + 1, ()) ⟨k + 1, _, _, _, rfl, hlt, by simp [ho], .inl ⟨rfl, Nat.le_trans (fncP_ok hp).1 hl2, by
            rw [ht, show n - (k + 1) = j by omega]
            cases fncsP j l3 <;> simp [withP]⟩⟩ (by simp; omega)
          simpa [hlt, hF, ho, hr, hw] using this
      · have : k = n := by omega
        subst this
        have ht2 : fncsP k l1 = .ok (out, l2) := by rw [ht]; simp [fncsP, withP]
        have hS := sp_Names (fs := out) (by omega)
        have hU := sp_Unlike5 (l := out.map (·.1)) (canP_len (by omega))
        rw [ht2]
        by_cases hd : (out.map (·.1)).Nodup
        · by_cases hnil : l2 = []
          · simp [hS, hU, hd, hnil, h0]
          · simp [hS, hU, hd, hnil, h0]
        · simp [hS, hU, hd, h0]
    · rw [ht]
      by_cases hlt : k < n
      · simp [hlt, he, h0]
      · simp [hlt, he, h0]
end Go.Proofs.YtkdnbnkbnegckaaGreat
namespace Go.Proofs.YtkdnbnkbnegckaaGreat
open Go.RowKit
set_option maxRecDepth 8000
theorem getG_back : ∀ (bs : List UInt8) (i n : Nat), i ≤ 9 → (getG i n bs).2.2 = 0 → ∃ m, m < 2 ^ (7 * (9 - i) + 1) ∧ (0 < i → 0 < m) ∧ getG i n bs = (n + m * 2 ^ (7 * i), i + (putF (9 - i) m).length, 0) ∧ bs = putF (9 - i) m ++ bs.drop (putF (9 - i) m).length := by
  intro bs
  induction bs with
  | nil => intro i n _ h; simp [getG] at h
  | cons c cs ih =>
    intro i n hi h
    have hc : c.toNat < 256 := c.toNat_lt
    unfold getG at h ⊢
    by_cases h1 : i = 9 ∧ 1 < c.toNat
    · rw [if_pos h1] at h; cases h
    · rw [if_neg h1] at h ⊢
      by_cases h128 : 128 ≤ c.toNat
      · rw [if_pos h128] at h ⊢
        obtain ⟨m, m1, m2, m3, m4⟩ := ih (i + 1) _ (by omega) h
        have m2 := m2 (by omega)
        obtain ⟨f, hf⟩ : ∃ f, 9 - i = f + 1 := ⟨8 - i, by omega⟩
        have hf2 : 9 - (i + 1) = f := by omega
        rw [hf2] at m1 m3 m4
        rw [hf]
        have e1 : (c.toNat - 128 + m * 128) / 128 = m := by omega
        have e2 : (c.toNat - 128 + m * 128) % 128 + 128 = c.toNat := by omega
        have e3 : putF (f + 1) (c.toNat - 128 + m * 128) = c :: putF f m := by
          rw [putF_ge f (by omega), e1, e2]
          simp
        refine ⟨c.toNat - 128 + m * 128, ?_, fun _ => by omega, ?_, ?_⟩
        · have : 2 ^ (7 * (f + 1) + 1) = 2 ^ (7 * f + 1) * 128 := by rw [show 7 * (f + 1) + 1 = (7 * f + 1) + 7 by omega, Nat.pow_add]
          omega
        · rw [m3, e3]
          have h2 : 2 ^ (7 * (i + 1)) = 128 * 2 ^ (7 * i) := by rw [Nat.mul_add, Nat.pow_add, Nat.mul_comm]
          have h3 : (c.toNat - 128) * 2 ^ (7 * i) + m * 2 ^ (7 * (i + 1)) = (c.toNat - 128 + m * 128) * 2 ^ (7 * i) := by
            rw [h2, ← Nat.mul_assoc, ← Nat.add_mul]
          simp only [Prod.mk.injEq, List.length_cons, and_true]
          exact ⟨by omega, by omega⟩
        · rw [e3, List.length_cons, List.drop_succ_cons, List.cons_append, ← m4]
      · rw [if_neg h128] at h ⊢
        by_cases h0 : c.toNat = 0 ∧ 0 < i
        · rw [if_pos h0] at h; cases h
        · rw [if_neg h0]
          have e3 : putF (9 - i) c.toNat = [c] := by rw [putF_lt _ (by omega)]; simp
          refine ⟨c.toNat, ?_, fun _ => by omega, ?_, ?_⟩
          · by_cases h9 : i = 9
            · subst h9; simp; omega
            · have : 2 ^ 8 ≤ 2 ^ (7 * (9 - i) + 1) := Nat.pow_le_pow_right (by decide) (by omega)
              omega
          · rw [e3]; rfl
          · rw [e3]; rfl
theorem bitsP_back {l l' : List UInt8} {u : Int} (h : bitsP l = .ok (u, l')) : 0 ≤ u ∧ u < 18446744073709551616 ∧ putB u.toNat ++ l' = l := by
  have hl := bitsP_lt h
  unfold bitsP at h
  split at h
  · rename_i h0
    obtain ⟨m, m1, -, m3, m4⟩ := getG_back l 0 0 (by omega) h0
    have hg : getB l = (m, (putB m).length, 0) := by
      show getG 0 0 l = _
      rw [m3]; simp [putB]
    rw [hg] at h
    cases h
    refine ⟨hl.1, hl.2, ?_⟩
    rw [Int.toNat_natCast]
    exact m4.symm
  · cases h
theorem fold_unfold {u : Nat} (h : u < 18446744073709551616) : foldN (unfoldI u) = u ∧ I64 (unfoldI u) := by
  have hf : foldN (unfoldI u) = u := by
    unfold unfoldI
    split
    · have := foldN_neg (n := -((u / 2 : Nat) : Int) - 1) (by omega)
      omega
    · have := foldN_nn (n := ((u / 2 : Nat) : Int)) (by omega)
      omega
  refine ⟨hf, ?_⟩
  unfold I64 unfoldI
  split <;> omega
theorem intP_back {l l' : List UInt8} {x : Int} (h : intP l = .ok (x, l')) : I64 x ∧ intB x ++ l' = l := by
  unfold intP at h
  split at h
  · rename_i u l2 hb
    obtain ⟨h1, h2, h3⟩ := bitsP_back hb
    cases h
    obtain ⟨f1, f2⟩ := fold_unfold (u := u.toNat) (by omega)
    exact ⟨f2, by rw [intB, f1]; exact h3⟩
  · cases h
theorem numP_back {m u : Int} {l l' : List UInt8} (h : numP m l = .ok (u, l')) : 0 ≤ u ∧ u ≤ m ∧ u < 18446744073709551616 ∧ putB u.toNat ++ l' = l := by
  have h0 := numP_ok h
  unfold numP at h
  split at h
  · rename_i v l2 hb
    split at h
    · cases h
    · cases h
      have := bitsP_back hb
      exact ⟨h0.1, h0.2.1, this.2.1, this.2.2⟩
  · cases h
theorem textP_back {m : Int} {l l' x : List UInt8} (h : textP m l = .ok (x, l')) : (x.length : Int) ≤ m ∧ putB x.length ++ (x ++ l') = l := by
  unfold textP at h
  split at h
  · rename_i u l2 hn
    obtain ⟨h1, h2, h3, h4⟩ := numP_back hn
    split at h
    · cases h
    · cases h
      have e : (l2.take u.toNat).length = u.toNat := by rw [List.length_take]; omega
      refine ⟨by rw [e]; omega, ?_⟩
      rw [e, List.take_append_drop]
      exact h4
  · cases h
theorem tyP_back : ∀ {n : Nat} {l l' : List UInt8} {r : List Int}, tyP n l = .ok (r, l') → r.length = n ∧ r.all typeB = true ∧ r.flatMap (fun t => [toU8 t]) ++ l' = l
  | 0, l, l', r, h => by simp only [tyP, Except.ok.injEq, Prod.mk.injEq] at h; obtain ⟨rfl, rfl⟩ := h; simp
  | n + 1, [], l', r, h => by simp [tyP] at h
  | n + 1, x :: l, l', r, h => by
    rw [tyP] at h
    split at h
    · rename_i hx
      split at h
      · rename_i r2 l2 h2
        simp only [Except.ok.injEq, Prod.mk.injEq] at h
        obtain ⟨rfl, rfl⟩ := h
        obtain ⟨h3, h4, h5⟩ := tyP_back h2
        refine ⟨by simp [h3], ?_, ?_⟩
        · rw [List.all_cons, h4, Bool.and_true]
          simpa [typeB] using hx
        · rw [List.flatMap_cons, List.append_assoc, h5, toU8_u8]; rfl
      · cases h
    · cases h
theorem sigP_back {m : Int} {l l' : List UInt8} {r : List Int} (h : sigP m l = .ok (r, l')) : sigB r m = true ∧ sigL r ++ l' = l := by
  unfold sigP at h
  split at h
  · rename_i u l2 hn
    obtain ⟨h1, h2, h3, h4⟩ := numP_back hn
    obtain ⟨h5, h6, h7⟩ := tyP_back h
    refine ⟨?_, ?_⟩
    · simp only [sigB, Bool.and_eq_true, decide_eq_true_eq]
      exact ⟨by omega, h6⟩
    · rw [sigL, List.append_assoc, h7, h5]
      exact h4
  · cases h
theorem instrP_back {l l' : List UInt8} {n a : Int} (h : instrP l = .ok ((n, a), l')) : rightN n a = true ∧ I64 a ∧ instrL n a ++ l' = l := by
  cases l with
  | nil => simp [instrP, byteP] at h
  | cons y l =>
    have hy := u8_ge (x := y)
    simp only [instrP, byteP] at h
    split at h
    · cases h
    · rename_i h35
      split at h
      · rename_i hk
        cases h
        refine ⟨?_, by unfold I64; omega, ?_⟩
        · simp only [rightN, decide_eq_true_eq, hk]
          exact ⟨hy, by omega, .inr ⟨by omega, by decide⟩⟩
        · rw [instrL, toU8_u8]; simp [hk]
      · rename_i hk
        split at h
        · cases h
        · rename_i a2 l2 hi
          obtain ⟨i1, i2⟩ := intP_back hi
          split at h
          · rename_i hr
            cases h
            refine ⟨hr, i1, ?_⟩
            rw [instrL, toU8_u8, if_pos hk, List.cons_append, i2]
          · cases h
theorem instrsP_back : ∀ {n : Nat} {l l' : List UInt8} {x : List (Int × Int)}, instrsP n l = .ok (x, l') → x.length = n ∧ (x.all fun p => rightN p.1 p.2) = true ∧ (∀ p ∈ x, I64 p.2) ∧ x.flatMap (fun p => instrL p.1 p.2) ++ l' = l
  | 0, l, l', x, h => by simp only [instrsP, Except.ok.injEq, Prod.mk.injEq] at h; obtain ⟨rfl, rfl⟩ := h; simp
  | n + 1, l, l', x, h => by
    rw [instrsP] at h
    split at h
    · cases h
    · rename_i p l2 hp
      split at h
      · rename_i r l3 hr
        cases h
        obtain ⟨h1, h2, h3, h4⟩ := instrsP_back hr
        obtain ⟨p1, p2, p3⟩ := instrP_back (n := p.1) (a := p.2) hp
        refine ⟨by simp [h1], by rw [List.all_cons, p1, h2]; rfl, ?_, ?_⟩
        · intro q hq
          rcases List.mem_cons.1 hq with rfl | hq
          · exact p2
          · exact h3 q hq
        · rw [List.flatMap_cons, List.append_assoc, h4, p3]
      · cases h
/-! Rows -/
section
variable {α : Type} [DecidableEq α]
theorem foldG_same {acc : List (Int × α)} {v : α} (h : (acc.getLast?.map (·.2)) ≠ some v) : ∀ k : Nat, (List.replicate (k + 1) v).foldl stepG acc = acc ++ [(((k + 1 : Nat) : Int), v)]
  | 0 => by
    show stepG acc v = _
    cases hl : acc.getLast? with
    | none =>
      have : acc = [] := List.getLast?_eq_none_iff.1 hl
      subst this
      rfl
    | some p =>
      obtain ⟨ys, rfl⟩ := List.getLast?_eq_some_iff.1 hl
      rw [hl] at h
      rw [stepG_new (fun e => h (by simp [e]))]
      rfl
  | k + 1 => by
    rw [List.replicate_succ', List.foldl_append, foldG_same h k]
    show stepG (acc ++ [(((k + 1 : Nat) : Int), v)]) v = _
    have := stepG_same (ys := acc) (p := (((k + 1 : Nat) : Int), v))
    rw [this]
    simp
theorem foldG_expand : ∀ {R acc : List (Int × α)}, chainG (acc.getLast?.map (·.2)) R → (expandG R).foldl stepG acc = acc ++ R
  | [], acc, _ => by simp [expandG]
  | p :: R, acc, h => by
    obtain ⟨h1, h2, h3⟩ := h
    obtain ⟨n, v⟩ := p
    obtain ⟨k, rfl⟩ : ∃ k : Nat, n = ((k + 1 : Nat) : Int) := ⟨n.toNat - 1, by simp only at h1; omega⟩
    have e : expandG ((((k + 1 : Nat) : Int), v) :: R) = List.replicate (k + 1) v ++ expandG R := by
      rw [expandG, List.flatMap_cons, Int.toNat_natCast]; rfl
    rw [e, List.foldl_append, foldG_same h2 k, foldG_expand (by rw [List.getLast?_concat]; exact h3)]
    simp
theorem groupsG_expand {R : List (Int × α)} (h : chainG none R) : groupsG (expandG R) = R := by
  have := foldG_expand (R := R) (acc := []) h
  simpa [groupsG] using this
omit [DecidableEq α] in
theorem expandG_mem {R : List (Int × α)} {v : α} (h : v ∈ expandG R) : ∃ p ∈ R, p.2 = v := by
  obtain ⟨p, hp, hv⟩ := List.mem_flatMap.1 h
  exact ⟨p, hp, (List.eq_of_mem_replicate hv).symm⟩
end
theorem runP_back {left : Int} {l l' : List UInt8} {u v : Int} (h : runP left l = .ok ((u, v), l')) : 1 ≤ u ∧ u ≤ left ∧ I64 v ∧ runL (u, v) ++ l' = l := by
  unfold runP at h
  split at h
  · cases h
  · rename_i u2 l1 hb
    obtain ⟨b1, b2, b3⟩ := bitsP_back hb
    split at h
    · cases h
    · split at h
      · cases h
      · rename_i v2 l2 hi
        obtain ⟨i1, i2⟩ := intP_back hi
        cases h
        refine ⟨by omega, by omega, i1, ?_⟩
        rw [runL, List.append_assoc, i2]
        exact b3
theorem runsG_back {lo hi : Int} : ∀ {f n : Nat} {last : Option Int} {l l' : List UInt8} {x : List Int}, runsG lo hi f n last l = .ok (x, l') → ∃ R, chainG last R ∧ x = expandG R ∧ R.flatMap runL ++ l' = l ∧ ∀ p ∈ R, lo ≤ p.2 ∧ p.2 ≤ hi ∧ I64 p.2
  | f, 0, last, l, l', x, h => by
    simp only [runsG, Except.ok.injEq, Prod.mk.injEq] at h
    obtain ⟨rfl, rfl⟩ := h
    exact ⟨[], trivial, rfl, rfl, by simp⟩
  | 0, n + 1, last, l, l', x, h => by cases h
  | f + 1, n + 1, last, l, l', x, h => by
    rw [runsG] at h
    split at h
    · cases h
    · rename_i u v l1 hr
      obtain ⟨r1, r2, r3, r4⟩ := runP_back hr
      split at h
      · cases h
      · rename_i hne
        split at h
        · cases h
        · rename_i hb
          split at h
          · rename_i r l2 hg
            cases h
            obtain ⟨R, R1, R2, R3, R4⟩ := runsG_back hg
            refine ⟨(u, v) :: R, ⟨r1, hne, R1⟩, ?_, ?_, ?_⟩
            · rw [R2]; rfl
            · rw [List.flatMap_cons, List.append_assoc, R3, r4]
            · intro p hp
              rcases List.mem_cons.1 hp with rfl | hp
              · exact ⟨by simp only; omega, by simp only; omega, r3⟩
              · exact R4 p hp
          · cases h
theorem runsP_back {n lo hi : Int} {l l' : List UInt8} {x : List Int} (h : runsP n lo hi l = .ok (x, l')) : x.length = n.toNat ∧ (∀ v ∈ x, lo ≤ v ∧ v ≤ hi ∧ I64 v) ∧ runsL x ++ l' = l := by
  obtain ⟨R, R1, R2, R3, R4⟩ := runsG_back h
  refine ⟨(runsP_len h).2, ?_, ?_⟩
  · intro v hv
    rw [R2] at hv
    obtain ⟨p, hp, rfl⟩ := expandG_mem hv
    exact R4 p hp
  · rw [runsL, R2, groupsG_expand R1]
    exact R3
/-! Trees -/
theorem nodeP_back {l l' : List UInt8} {x : Nd} (h : nodeP l = .ok (x, l')) : I64N x ∧ nodeL x ++ l' = l := by
  unfold nodeP at h
  split at h
  · cases h
  rename_i h1; obtain ⟨i1, j1⟩ := intP_back h1
  split at h
  · cases h
  rename_i h2; obtain ⟨i2, j2⟩ := intP_back h2
  split at h
  · cases h
  rename_i h3; obtain ⟨i3, j3⟩ := intP_back h3
  split at h
  · cases h
  rename_i h4; obtain ⟨i4, j4⟩ := intP_back h4
  split at h
  · cases h
  rename_i h5; obtain ⟨i5, j5⟩ := intP_back h5
  split at h
  · cases h
  rename_i h6; obtain ⟨i6, j6⟩ := intP_back h6
  split at h
  · cases h
  rename_i h7; obtain ⟨i7, j7⟩ := intP_back h7
  cases h
  refine ⟨⟨i1, i2, i3, i4, i5, i6, i7⟩, ?_⟩
  simp only [nodeL, List.append_assoc]
  rw [j7, j6, j5, j4, j3, j2, j1]
theorem nodesP_back : ∀ {n : Nat} {l l' : List UInt8} {x : List Nd}, nodesP n l = .ok (x, l') → x.length = n ∧ (∀ p ∈ x, I64N p) ∧ x.flatMap nodeL ++ l' = l
  | 0, l, l', x, h => by simp only [nodesP, Except.ok.injEq, Prod.mk.injEq] at h; obtain ⟨rfl, rfl⟩ := h; simp
  | n + 1, l, l', x, h => by
    rw [nodesP] at h
    split at h
    · cases h
    · rename_i p l2 hp
      split at h
      · rename_i r l3 hr
        cases h
        obtain ⟨h1, h2, h3⟩ := nodesP_back hr
        obtain ⟨p1, p2⟩ := nodeP_back hp
        refine ⟨by simp [h1], ?_, ?_⟩
        · intro q hq
          rcases List.mem_cons.1 hq with rfl | hq
          · exact p1
          · exact h2 q hq
        · rw [List.flatMap_cons, List.append_assoc, h3, p2]
      · cases h
theorem treeP_back {l l' : List UInt8} {x : List Nd} (h : treeP l = .ok (x, l')) : rightT x = true ∧ (∀ p ∈ x, I64N p) ∧ treeL x ++ l' = l := by
  unfold treeP at h
  split at h
  · cases h
  · rename_i u l2 hn
    obtain ⟨n1, n2, n3, n4⟩ := numP_back hn
    split at h
    · cases h
    · rename_i r l3 hr
      obtain ⟨h1, h2, h3⟩ := nodesP_back hr
      split at h
      · rename_i ht
        cases h
        refine ⟨ht, h2, ?_⟩
        rw [treeL, List.append_assoc, h3, h1]
        exact n4
      · cases h
/-! Tables -/
theorem setP_back {l l' : List UInt8} {s : St} (h : setP l = .ok (s, l')) : U64S s ∧ putB s.1.toNat ++ (putB s.2.1.toNat ++ (putB s.2.2.1.toNat ++ (putB s.2.2.2.toNat ++ l'))) = l := by
  unfold setP at h
  split at h
  · cases h
  rename_i h1; obtain ⟨a1, b1, c1⟩ := bitsP_back h1
  split at h
  · cases h
  rename_i h2; obtain ⟨a2, b2, c2⟩ := bitsP_back h2
  split at h
  · cases h
  rename_i h3; obtain ⟨a3, b3, c3⟩ := bitsP_back h3
  split at h
  · cases h
  rename_i h4; obtain ⟨a4, b4, c4⟩ := bitsP_back h4
  cases h
  refine ⟨⟨⟨a1, b1⟩, ⟨a2, b2⟩, ⟨a3, b3⟩, a4, b4⟩, ?_⟩
  simp only
  rw [c4, c3, c2, c1]
theorem groupP_back {left : Int} {k : Nat} {last : Option St} {l l' : List UInt8} {u : Int} {s : St} (h : groupP left k last l = .ok ((u, s), l')) : 1 ≤ u ∧ last ≠ some s ∧ belowB s k = true ∧ U64S s ∧ cntL (u, s) ++ l' = l := by
  unfold groupP at h
  split at h
  · cases h
  · rename_i u2 l1 hb
    obtain ⟨b1, b2, b3⟩ := bitsP_back hb
    split at h
    · cases h
    · split at h
      · cases h
      · rename_i s2 l2 hs
        obtain ⟨s1, s3⟩ := setP_back hs
        split at h
        · cases h
        · rename_i hne
          split at h
          · rename_i hB
            cases h
            refine ⟨by omega, hne, hB, s1, ?_⟩
            simp only [cntL, List.append_assoc]
            rw [s3]
            exact b3
          · cases h
theorem mapsG_back {k : Nat} : ∀ {f n : Nat} {last : Option St} {l l' : List UInt8} {x : List St}, mapsG k f n last l = .ok (x, l') → ∃ R, chainG last R ∧ x = expandG R ∧ R.flatMap cntL ++ l' = l ∧ ∀ p ∈ R, belowB p.2 k = true ∧ U64S p.2
  | f, 0, last, l, l', x, h => by
    simp only [mapsG, Except.ok.injEq, Prod.mk.injEq] at h
    obtain ⟨rfl, rfl⟩ := h
    exact ⟨[], trivial, rfl, rfl, by simp⟩
  | 0, n + 1, last, l, l', x, h => by cases h
  | f + 1, n + 1, last, l, l', x, h => by
    rw [mapsG] at h
    split at h
    · cases h
    · rename_i u s l1 hr
      obtain ⟨r1, r2, r3, r4, r5⟩ := groupP_back hr
      split at h
      · rename_i r l2 hg
        cases h
        obtain ⟨R, R1, R2, R3, R4⟩ := mapsG_back hg
        refine ⟨(u, s) :: R, ⟨r1, r2, R1⟩, ?_, ?_, ?_⟩
        · rw [R2]; rfl
        · rw [List.flatMap_cons, List.append_assoc, R3, r5]
        · intro p hp
          rcases List.mem_cons.1 hp with rfl | hp
          · exact ⟨r3, r4⟩
          · exact R4 p hp
      · cases h
theorem mapsP_back {n : Int} {k : Nat} {l l' : List UInt8} {x : List St} (h : mapsP n k l = .ok (x, l')) : x.length = n.toNat ∧ (∀ s ∈ x, belowB s k = true ∧ U64S s) ∧ mapsL x ++ l' = l := by
  obtain ⟨R, R1, R2, R3, R4⟩ := mapsG_back h
  refine ⟨(mapsG_len h).2, ?_, ?_⟩
  · intro v hv
    rw [R2] at hv
    obtain ⟨p, hp, rfl⟩ := expandG_mem hv
    exact R4 p hp
  · rw [mapsL, R2, groupsG_expand R1]
    exact R3
/-! Functions -/
theorem headP_back {l l' : List UInt8} {name : List UInt8} {inner : Bool} {outer params results locals : List Int} {fl : UInt8} (h : headP l = .ok ((name, (inner, (outer, (params, (results, (locals, fl)))))), l')) :
    mayB name = true ∧ typesB inner outer params results locals = true ∧ params.length + results.length + locals.length ≤ 256 ∧ u8I fl ≤ 3 ∧ (inner = true ↔ u8I fl % 2 = 1) ∧
    putB name.length ++ (name ++ (fl :: ((if inner = true then sigL outer else []) ++ (sigL params ++ (sigL results ++ (sigL locals ++ l')))))) = l := by
  unfold headP at h
  split at h
  · cases h
  rename_i nm l1 h1
  obtain ⟨t1, t2⟩ := textP_back h1
  split at h
  · cases h
  rename_i hm
  split at h
  · cases h
  rename_i x l2 h2
  have hx : l1 = x :: l2 := by
    cases l1 with
    | nil => cases h2
    | cons y l => cases h2; rfl
  subst hx
  split at h
  · cases h
  rename_i h3
  split at h
  · cases h
  rename_i outer' l3 ho
  split at h
  · cases h
  rename_i params' l4 hp
  obtain ⟨p1, p2⟩ := sigP_back hp
  split at h
  · cases h
  rename_i results' l5 hr
  obtain ⟨r1, r2⟩ := sigP_back hr
  split at h
  · cases h
  rename_i locals' l6 hl
  obtain ⟨l1', l2'⟩ := sigP_back hl
  split at h
  · cases h
  rename_i hs
  cases h
  have hm2 : mayB name = true := by
    cases hq : mayB name with
    | true => rfl
    | false => exact absurd hq hm
  by_cases hi : u8I fl % 2 = 1
  · rw [if_pos hi] at ho
    obtain ⟨o1, o2⟩ := sigP_back ho
    refine ⟨hm2, ?_, by omega, by omega, by simp [hi], ?_⟩
    · simp only [typesB, p1, r1, l1', o1, hi, decide_true, Bool.true_or, Bool.and_self]
    · simp only [hi, decide_true, if_true]
      rw [l2', r2, p2, o2, t2]
  · rw [if_neg hi] at ho
    cases ho
    refine ⟨hm2, ?_, by omega, by omega, by simp [hi], ?_⟩
    · have : sigB [] 4 = true := rfl
      simp [typesB, p1, r1, l1', this]
    · simp only [hi, decide_false, Bool.false_eq_true, if_false, List.nil_append]
      rw [l2', r2, p2, t2]
theorem codeP_back {l l' : List UInt8} {n : Int} {code : List (Int × Int)} {lines : List Int} (h : codeP l = .ok ((n, (code, lines)), l')) :
    n = (code.length : Int) ∧ 1 ≤ code.length ∧ code.length ≤ 2000 ∧ (code.all fun p => rightN p.1 p.2) = true ∧ (∀ p ∈ code, I64 p.2) ∧ lines.length = code.length ∧ linesB lines = true ∧ (∀ v ∈ lines, I64 v) ∧
    putB code.length ++ (code.flatMap (fun p => instrL p.1 p.2) ++ (runsL lines ++ l')) = l := by
  unfold codeP at h
  split at h
  · cases h
  rename_i n' l1 h1
  obtain ⟨n1, n2, n3, n4⟩ := numP_back h1
  split at h
  · cases h
  rename_i hn
  split at h
  · cases h
  rename_i code' l2 h2
  obtain ⟨c1, c2, c3, c4⟩ := instrsP_back h2
  split at h
  · cases h
  rename_i lines' l3 h3
  obtain ⟨r1, r2, r3⟩ := runsP_back h3
  cases h
  refine ⟨by omega, by omega, by omega, c2, c3, by omega, ?_, fun v hv => (r2 v hv).2.2, ?_⟩
  · simp only [linesB, Bool.and_eq_true, decide_eq_true_eq, List.all_eq_true, lineB]
    exact ⟨by omega, fun v hv => ⟨(r2 v hv).1, (r2 v hv).2.1⟩⟩
  · rw [r3, c4, c1]
    exact n4
theorem tablesP_back {fl : UInt8} {n : Int} {k : Nat} {l l' : List UInt8} {code : List (Int × Int)} {nodes : List Nd} {at' : List Int} {live : List St} (hn : n = (code.length : Int)) (hc : code.length ≤ 2000) (h : tablesP fl n k l = .ok ((nodes, (at', live)), l')) :
    tablesB code nodes at' live k = true ∧ (u8I fl < 2 ↔ bareB nodes at' live = true) ∧ (∀ p ∈ nodes, I64N p) ∧ (∀ v ∈ at', I64 v) ∧ (∀ s ∈ live, U64S s) ∧ tabL nodes at' live ++ l' = l := by
  unfold tablesP at h
  split at h
  · rename_i hf
    cases h
    refine ⟨rfl, by simp [hf, bareB], by simp, by simp, by simp, rfl⟩
  rename_i hf
  split at h
  · cases h
  rename_i nodes' l1 h1
  obtain ⟨t1, t2, t3⟩ := treeP_back h1
  split at h
  · cases h
  rename_i at'' l2 h2
  obtain ⟨r1, r2, r3⟩ := runsP_back h2
  split at h
  · cases h
  rename_i live' l3 h3
  obtain ⟨m1, m2, m3⟩ := mapsP_back h3
  cases h
  have h4 : 1 ≤ nodes.length := by
    simp only [rightT, Bool.and_eq_true, decide_eq_true_eq] at t1
    omega
  have hb : bareB nodes at' live = false := by
    simp only [bareB, decide_eq_false_iff_not]
    omega
  refine ⟨?_, by rw [hb]; simp only [Bool.false_eq_true, iff_false]; exact hf, t2, fun v hv => (r2 v hv).2.2, fun s hs => (m2 s hs).2, ?_⟩
  · simp only [tablesB, hb, Bool.false_or, Bool.and_eq_true, decide_eq_true_eq, List.all_eq_true, atB, mapsB]
    refine ⟨⟨⟨⟨t1, by omega⟩, by omega⟩, fun v hv => ?_⟩, by omega, fun s hs => (m2 s hs).1⟩
    have := r2 v hv
    exact ⟨this.1, by omega⟩
  · rw [tabL, hb]
    simp only [Bool.false_eq_true, if_false, List.append_assoc]
    rw [m3, r3, t3]
theorem flag_back {fl : UInt8} {inner bare : Bool} (h : u8I fl ≤ 3) (h1 : inner = true ↔ u8I fl % 2 = 1) (h2 : u8I fl < 2 ↔ bare = true) : flagU inner bare = fl := by
  have key : ∀ k : Nat, k < 4 → fl = UInt8.ofNat k → flagU inner bare = fl := by
    intro k hk e
    subst e
    have e : u8I (UInt8.ofNat k) = (k : Int) := (ofNat_lt (by omega)).symm
    rw [e] at h1 h2
    match k, hk with
    | 0, _ => cases inner <;> cases bare <;> simp at h1 h2 <;> rfl
    | 1, _ => cases inner <;> cases bare <;> simp at h1 h2 <;> rfl
    | 2, _ => cases inner <;> cases bare <;> simp at h1 h2 <;> rfl
    | 3, _ => cases inner <;> cases bare <;> simp at h1 h2 <;> rfl
  refine key fl.toNat ?_ (by simp)
  have : u8I fl = (fl.toNat : Int) := rfl
  omega
theorem fncP_back {l l' : List UInt8} {f : Fn} (h : fncP l = .ok (f, l')) : CanV f ∧ DatV f ∧ fncV f ++ l' = l := by
  obtain ⟨name, inner, outer, params, results, locals, code, lines, nodes, at', live⟩ := f
  unfold fncP at h
  split at h
  · cases h
  rename_i name' inner' outer' params' results' locals' fl l1 h1
  obtain ⟨a1, a2, a3, a4, a5, a6⟩ := headP_back h1
  split at h
  · cases h
  rename_i n code' lines' l2 h2
  obtain ⟨b1, b2, b3, b4, b5, b6, b7, b8, b9⟩ := codeP_back h2
  split at h
  · cases h
  rename_i nodes' at'' live' l3 h3
  obtain ⟨c1, c2, c3, c4, c5, c6⟩ := tablesP_back b1 b3 h3
  cases h
  refine ⟨⟨a1, a2, a3, b2, b3, b4, b6, b7, c1⟩, ⟨b5, b8, c3, c4, c5⟩, ?_⟩
  show fncL name inner outer params results locals code lines nodes at' live ++ l' = l
  unfold fncL headL
  rw [flag_back a4 a5 c2]
  simp only [List.append_assoc, List.cons_append]
  rw [c6, b9]
  exact a6
theorem fncsP_back : ∀ {n : Nat} {l l' : List UInt8} {fs : List Fn}, fncsP n l = .ok (fs, l') → fs.length = n ∧ (∀ f ∈ fs, CanV f ∧ DatV f) ∧ (fs.map fncV).flatten ++ l' = l
  | 0, l, l', x, h => by simp only [fncsP, Except.ok.injEq, Prod.mk.injEq] at h; obtain ⟨rfl, rfl⟩ := h; simp
  | n + 1, l, l', x, h => by
    rw [fncsP] at h
    split at h
    · cases h
    · rename_i p l2 hp
      split at h
      · rename_i r l3 hr
        cases h
        obtain ⟨h1, h2, h3⟩ := fncsP_back hr
        obtain ⟨p1, p2, p3⟩ := fncP_back hp
        refine ⟨by simp [h1], ?_, ?_⟩
        · intro q hq
          rcases List.mem_cons.1 hq with rfl | hq
          · exact ⟨p1, p2⟩
          · exact h2 q hq
        · rw [List.map_cons, List.flatten_cons, List.append_assoc, h3, p3]
      · cases h
theorem lenV_can {f : Fn} (h : CanV f) : LenV f := by
  obtain ⟨h1, h2, h3, h4, h5, h6, h7, h8⟩ := CanF.len h
  refine ⟨by unfold Len; omega, ?_, by omega⟩
  unfold LenF
  omega
theorem decodeP_back {b : List UInt8} {fs : List Fn} (h : decodeP b = .ok fs) : fs.length ≤ 40 ∧ canP fs = 0 ∧ (∀ f ∈ fs, LenV f) ∧ (∀ f ∈ fs, DatV f) ∧ (encodeR fs).1 = b := by
  unfold decodeP at h
  split at h
  case isFalse => cases h
  rename_i h4
  split at h
  · cases h
  rename_i n l1 h1
  obtain ⟨n1, n2, n3, n4⟩ := numP_back h1
  split at h
  · cases h
  rename_i hn
  split at h
  · cases h
  rename_i fs' l2 h2
  obtain ⟨f1, f2, f3⟩ := fncsP_back h2
  split at h
  case isFalse => cases h
  rename_i hd
  split at h
  case isFalse => cases h
  rename_i hl
  cases h
  subst hl
  have hc : canP fs = 0 := by
    rw [canP, if_neg (by omega), if_pos (firstE_zero.2 fun f hf => (f2 f hf).1), if_pos hd]
  refine ⟨by omega, hc, fun f hf => lenV_can (f2 f hf).1, fun f hf => (f2 f hf).2, ?_⟩
  rw [encodeR, if_pos hc]
  show [73, 78, 76, 49] ++ putB fs.length ++ (fs.map fncV).flatten = b
  rw [List.append_nil] at f3
  rw [f3, f1, List.append_assoc, n4, ← h4.2, List.take_append_drop]
end Go.Proofs.YtkdnbnkbnegckaaGreat
namespace Go.Proofs.YtkdnbnkbnegckaaGreat
open Go.RowKit
set_option maxRecDepth 20000
theorem law_FileDecodes {b : List UInt8} (hl : b.length ≤ 140737488351232) : S_law16_FileDecodes b = some (true, ()) := by
  refine u_law16_FileDecodes (N := 0) ?_
  have h1 := sp_Decode hl
  have h2 := sp_rDecode hl
  cases hD : decodeP b with
  | error e =>
    have he := decodeP_err hl hD
    rw [decodeR, hD] at h1 h2
    have a1 := sp_ref16Same (l := []) (m := []) (by simp) (by simp)
    rw [eqD_s] at a1
    simp [M_law16_FileDecodes, h1, h2, a1, he, S_law16_lives]
  | ok fs =>
    obtain ⟨n1, n2, n3, n4, n5⟩ := decodeP_back hD
    rw [decodeR, hD] at h1 h2
    have a1 := sp_ref16Same (m := fs) n3 (by omega)
    rw [eqD_s] at a1
    have hE := sp_Encode n3 n4 (by omega)
    rw [n5, show (encodeR fs).2 = 0 by rw [encodeR, if_pos n2]] at hE
    simp [M_law16_FileDecodes, h1, h2, a1, hE, S_law16_lives]
theorem FileDecodes_walk (ao0 : Option Addr) (cap0 : Nat) (b0 : List UInt8) (w : World) (hl0 : Cells w ao0 (b0.map byteC) ∧ b0.length ≤ cap0 ∧ b0.length ≤ 140737488351232) :
    Calls Tryz.prog 6 #[.slice ao0 b0.length cap0] w fun e w' => e = .returned (.bool true) ∧ Ext w w' := by
  obtain ⟨hc0, hcap, hlen⟩ := hl0
  refine law_walkY (args0 := [⟨.one, [.c (.fz 1 (b0.map fun n => [.v (.int .u8 n.toNat)]))]⟩]) (law_FileDecodes hlen) (by kernel_rfl) rfl rfl fun i t v h1 h2 => ?_
  match i with
  | 0 =>
    cases h1
    cases h2
    exact repT_bytes hc0 hcap
  | i + 1 => simp at h1
end Go.Proofs.YtkdnbnkbnegckaaGreat
namespace Go.Proofs.YtkdnbnkbnegckaaGreat.fileDecodes
open Go.ChangeShapes Go.WideShapes Go.ChangeAt Go.RowKit
open Go.ChangeMaps (open_string shut_string)
set_option linter.unusedVariables false

theorem own : ownKnob Tryz.prog.godebug = none := by kernel_rfl
theorem laidOut : laidOutB Tryz.prog = true := by kernel_rfl

set_option maxRecDepth 100000 in
theorem lifted (os : Os) (started : os.Started) (H : Type) (enc : TypeId × Value → H) :
    ReturnsInHanded {} Tryz.checked os 6 .any (Rows.fileDecodesSpec.pre6 enc Tryz.prog Tryz.f6 Rows.fileDecodesRow.domain false) (Rows.fileDecodesSpec.post enc Tryz.prog Tryz.f6 false true false false) := by
  refine returnsInHanded_of_change_sized (C := Tryz.checked) own started (by kernel_rfl) Tryz.func6
    (ChangeSpec.witness6 (enc := enc) (C := Tryz.checked) false ⟨#[], #[.slice none 0 0], []⟩ 8 (by kernel_rfl) (by kernel_rfl) (by kernel_rfl) (by kernel_rfl)) ?_
  intro W base args ds gs before hval0 hW hcnd hsz0 hholds
  have hval : ∀ (j : Nat) t v, Tryz.f6.params[j]? = some t → args[j]? = some v → Value.okWide Tryz.prog W .any base t v := hval0
  have hsz : (DataW.weightsEach Tryz.prog (Tryz.f6.params.toList ++ Rows.fileDecodesSpec.plain.varTypes Tryz.prog) (ds ++ gs)).all (· ≤ reachBytes) = true := hsz0
  have hW' := hW
  obtain ⟨p, q, hA0, hV, rfl, hfz, hnd⟩ := hW
  have hA : DataW.TrodAll enc Tryz.prog W 0 (fun _ => true) true Tryz.f6.params.toList args.toList ds p := hA0
  rw [Tryz.params6] at hA hval hsz
  obtain ⟨v0, vs0, d0, ds0, p0, q0, hargs, rfl, rfl, h0, r0⟩ := trodAll_cons hA
  obtain ⟨rfl, rfl, rfl⟩ := trodAll_nil r0
  obtain rfl : args = #[v0] := by cases args; simp_all
  obtain ⟨rfl, rfl⟩ := trodVars_none hV
  have k0 := h0
  have lt0 : ∀ x ∈ p0, x.block < W.heap.size := by obtain ⟨m, hm⟩ := k0; exact DataW.trod_lt m _ _ _ hm
  obtain ⟨a0, len0, cap0, rfl⟩ := okWide_slice Tryz.underlying22 (hval 0 22 v0 rfl rfl)
  obtain ⟨z0, rfl, w0⟩ := open_bytes_sized Tryz.underlying22 Tryz.underlying5 (by kernel_rfl) (by kernel_rfl) hsz (j := 0) rfl rfl h0
  clear hA0 hval0
  refine (FileDecodes_walk (w := W) (ao0 := a0) (cap0 := cap0) (b0 := z0) (hl0 := w0)).mono fun e W' ⟨he, bel⟩ => ?_
  subst he
  exact ⟨_, rfl, _, _, _, [], _, [], hW', trodAll_mk1 (shut_bool Tryz.underlying4 _), (trodAll_cons_mk (Below.trod laidOut (by kernel_rfl) (of_decide_eq_true (by kernel_rfl)) k0 bel.b lt0) trodAll_mk0), rfl, bel.b.frame _, fun h => by cases h⟩

theorem FileDecodes_holds : Rows.FileDecodesSaid :=
  OpenClaim.holds_of_wide 6 Tryz.f6 rfl rfl rfl rfl rfl rfl rfl ⟨rfl, rfl, rfl, rfl, rfl⟩ rfl rfl rfl rfl rfl (by kernel_rfl) Tryz.func6 (by kernel_rfl)
    (of_decide_eq_true (by kernel_rfl)) (by unfold Func.isWrapper; first | (rw [if_pos (by decide +kernel)]; kernel_rfl) | (rw [if_neg (by decide +kernel)]; exact ⟨rfl, rfl⟩))
    (fun os started H enc _ => lifted os started H enc)
end Go.Proofs.YtkdnbnkbnegckaaGreat.fileDecodes

namespace Go.Proofs.YtkdnbnkbnegckaaGreat
theorem FileDecodes_proved : Rows.FileDecodesSaid := fileDecodes.FileDecodes_holds
#print axioms FileDecodes_proved
end Go.Proofs.YtkdnbnkbnegckaaGreat
