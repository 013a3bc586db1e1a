/- Functions: what the lifted functions come to. -/
import Derived.Test.YtkdnbnkbnegckaaGreatSpM
namespace Go.Proofs.YtkdnbnkbnegckaaGreat
open Go.RowKit
set_option maxRecDepth 4000
@[simp] theorem sp_many {a : List UInt8} {b : Bool} {c d e f : List Int} {g : List (Int × Int)} {h : List Int} {i : List Nd} {j : List Int} {k : List St} (hd : d.length ≤ 1000000) (he : e.length ≤ 1000000) (hf : f.length ≤ 1000000) : S_fnc_many a b c d e f g h i j k = some ((d.length : Int) + e.length + f.length, ()) := by
  refine u_fnc_many (N := 0) ?_
  simp [M_fnc_many, wi64 (n := (d.length : Int) + e.length) (by omega) (by omega), wi64 (n := (d.length : Int) + e.length + f.length) (by omega) (by omega)]
@[simp] theorem sp_ask {a0 : List UInt8} {a1 : Bool} {a2 a3 a4 a5 a6 : List Int} {a7 : List Nd} {a8 : List Int} {a9 : List St} {a10 : UInt8} {a11 : Int} {l : List UInt8} {e : Int} {b : Bool} {x : Int} :
    S_fnc_reader_ask a0 a1 a2 a3 a4 a5 a6 a7 a8 a9 a10 a11 l true e b x = some (a0, (a1, (a2, (a3, (a4, (a5, (a6, (a7, (a8, (a9, (a10, (a11, (l, (true, ((if b = false ∧ e = 0 then x else e), ()))))))))))))))) := by
  refine u_fnc_reader_ask (N := 0) ?_
  cases b <;> simp [M_fnc_reader_ask]
/-- What stands ahead of the code: the name, whether it is an inner one, the types, the function's byte. -/
abbrev Hd := List UInt8 × (Bool × (List Int × (List Int × (List Int × (List Int × UInt8)))))
def headP (l : List UInt8) : Pr Hd :=
  match textP 12 l with
  | .error e => .error e
  | .ok (name, l) => if mayB name = false then .error 7 else
  match byteP l with
  | .error e => .error e
  | .ok (fl, l) => if 3 < u8I fl then .error 5 else
  match (if u8I fl % 2 = 1 then sigP 4 l else .ok ([], l)) with
  | .error e => .error e
  | .ok (outer, l) =>
  match sigP 8 l with
  | .error e => .error e
  | .ok (params, l) =>
  match sigP 4 l with
  | .error e => .error e
  | .ok (results, l) =>
  match sigP 256 l with
  | .error e => .error e
  | .ok (locals, l) => if 256 < params.length + results.length + locals.length then .error 6 else .ok ((name, (u8I fl % 2 = 1, (outer, (params, (results, (locals, fl)))))), l)
theorem and1 : ∀ n : Nat, n < 256 → bitI .and .u8 (n : Int) 1 = ((n % 2 : Nat) : Int) := by decide +kernel
theorem and2 : ∀ n : Nat, n < 4 → bitI .and .u8 (n : Int) 2 = (if 2 ≤ n then 2 else 0) := by decide +kernel
theorem u8and1 {x : UInt8} : bitI .and .u8 (u8I x) 1 = u8I x % 2 := by
  have := and1 x.toNat x.toNat_lt
  simp only [u8I]
  rw [this]; omega
theorem sigP_len {m : Int} {l l' : List UInt8} {x : List Int} (h0 : 0 ≤ m) (h : sigP m l = .ok (x, l')) : l'.length ≤ l.length ∧ (x.length : Int) ≤ m := by
  unfold sigP at h
  split at h
  · rename_i u l2 hn
    obtain ⟨h1, h2, h3⟩ := numP_ok hn
    obtain ⟨h4, h5, _⟩ := tyP_ok h
    omega
  · cases h
theorem textP_len {m : Int} {l l' : List UInt8} {x : List UInt8} (h : textP m l = .ok (x, l')) : l'.length ≤ l.length ∧ x.length ≤ l.length := by
  unfold textP at h
  split at h
  · rename_i u l2 hn
    obtain ⟨h1, h2, h3⟩ := numP_ok hn
    split at h
    · cases h
    · cases h
      simp
      omega
  · cases h
abbrev HdR := List UInt8 × (Bool × (List Int × (List Int × (List Int × (List Int × (List Int × (List Nd × (List Int × (List St × (UInt8 × (Int × (List UInt8 × (Bool × (Int × Unit))))))))))))))
def ErrH (o : Option HdR) (e : Int) : Prop := ∃ r, o = some r ∧ r.2.2.2.2.2.2.2.2.2.2.2.2.2.1 = true ∧ r.2.2.2.2.2.2.2.2.2.2.2.2.2.2.1 = e
theorem im_head {l : List UInt8} (hl : Len l) : match headP l with
    | .ok ((name, (inner, (outer, (params, (results, (locals, fl)))))), l') => S_fnc_reader_head [] false [] [] [] [] [] [] [] [] 0 0 l true 0 = some (name, (inner, (outer, (params, (results, (locals, ([], ([], ([], ([], (fl, (0, (l', (true, (0, ()))))))))))))))) 
    | .error e => e ≠ 0 ∧ ErrH (S_fnc_reader_head [] false [] [] [] [] [] [] [] [] 0 0 l true 0) e := by
  have hE : ∀ e, ErrH (M_fnc_reader_head 0 [] false [] [] [] [] [] [] [] [] 0 0 l true 0) e → ErrH (S_fnc_reader_head [] false [] [] [] [] [] [] [] [] 0 0 l true 0) e := fun e ⟨r, h, h1⟩ => ⟨r, u_fnc_reader_head h, h1⟩
  unfold headP
  have hT := im_Text (m := 12) hl (by omega) (by omega)
  have hm0 : mayB [] = false := rfl
  cases h1 : textP 12 l with
  | error e =>
    rw [h1] at hT
    obtain ⟨he, l', hT⟩ := hT
    refine ⟨he, hE _ ?_⟩
    simp [M_fnc_reader_head, ErrH, hT, sp_May (l := []) (by decide), hm0, he, ime_Byte he, ime_sigTake he, u8and1, show u8I 0 = 0 from rfl]
  | ok p =>
    obtain ⟨name, l1⟩ := p
    have hn := textP_len h1
    have k1 : Len l1 := Nat.le_trans hn.1 hl
    have kn : Len name := Nat.le_trans hn.2 hl
    rw [h1] at hT
    have e1 : S_cursor_Cursor_Text l true 0 12 = _ := hT
    dsimp only
    cases h2 : mayB name with
    | false =>
      simp only [if_true]
      refine ⟨by decide, hE _ ?_⟩
      simp [M_fnc_reader_head, ErrH, e1, sp_May kn, h2, ime_Byte, ime_sigTake, u8and1, show u8I 0 = 0 from rfl]
    | true =>
      simp only [Bool.true_eq_false, if_false]
      cases l1 with
      | nil =>
        obtain ⟨he, l', hB⟩ := im_Byte (l := [])
        refine ⟨by decide, hE _ ?_⟩
        simp [M_fnc_reader_head, ErrH, e1, sp_May kn, h2, hB, ime_sigTake, u8and1, show u8I 0 = 0 from rfl]
      | cons fl l2 =>
        have e2 : S_cursor_Cursor_Byte (fl :: l2) true 0 = _ := im_Byte (l := fl :: l2)
        have k2 : Len l2 := by unfold Len at k1 ⊢; simp at k1; omega
        simp only [byteP]
        by_cases h3 : 3 < u8I fl
        · rw [if_pos h3]
          refine ⟨by decide, hE _ ?_⟩
          simp [M_fnc_reader_head, ErrH, e1, sp_May kn, h2, e2, ime_sigTake, show ¬u8I fl ≤ 3 by omega]
        · rw [if_neg h3]
          have h3l : u8I fl ≤ 3 := by omega
          have hg := u8_ge (x := fl)
          -- what is taken if it is an inner one
          have hO : match (if u8I fl % 2 = 1 then sigP 4 l2 else .ok ([], l2)) with
              | .ok (outer, l') => outer.length ≤ 4 ∧ Len l' ∧ ((u8I fl % 2 = 0 ∧ outer = [] ∧ l' = l2) ∨ (u8I fl % 2 = 1 ∧ S_sig_Take l2 true 0 4 = some (l', (true, (0, (outer, ()))))))
              | .error e => e ≠ 0 ∧ u8I fl % 2 = 1 ∧ ∃ l', S_sig_Take l2 true 0 4 = some (l', (true, (e, ([], ())))) := by
            by_cases ho : u8I fl % 2 = 1
            · rw [if_pos ho]
              have hs := im_sigTake (m := 4) k2 (by omega) (by omega)
              cases hq : sigP 4 l2 with
              | ok q =>
                rw [hq] at hs
                have := sigP_len (by omega) hq
                exact ⟨by omega, Nat.le_trans this.1 k2, .inr ⟨ho, hs⟩⟩
              | error e =>
                rw [hq] at hs
                exact ⟨hs.1, ho, hs.2⟩
            · rw [if_neg ho]
              exact ⟨by simp, k2, .inl ⟨by omega, rfl, rfl⟩⟩
          cases h4 : (if u8I fl % 2 = 1 then sigP 4 l2 else .ok ([], l2) : Pr (List Int)) with
          | error e =>
            rw [h4] at hO
            obtain ⟨he, ho, l', hS⟩ := hO
            refine ⟨he, hE _ ?_⟩
            simp [M_fnc_reader_head, ErrH, e1, sp_May kn, h2, e2, h3l, u8and1, ho, hS, ime_sigTake he, he]
          | ok p =>
            obtain ⟨outer, l3⟩ := p
            rw [h4] at hO
            obtain ⟨ol, k3, hO⟩ := hO
            dsimp only
            have hS1 := im_sigTake (m := 8) k3 (by omega) (by omega)
            cases h5 : sigP 8 l3 with
            | error e =>
              rw [h5] at hS1
              obtain ⟨he, l', hS1⟩ := hS1
              refine ⟨he, hE _ ?_⟩
              rcases hO with ⟨ho, rfl, rfl⟩ | ⟨ho, hO⟩
              · simp [M_fnc_reader_head, ErrH, e1, sp_May kn, h2, e2, h3l, u8and1, ho, hS1, ime_sigTake he, he]
              · simp [M_fnc_reader_head, ErrH, e1, sp_May kn, h2, e2, h3l, u8and1, ho, hO, hS1, ime_sigTake he, he]
            | ok p =>
              obtain ⟨params, l4⟩ := p
              have n5 := sigP_len (by omega) h5
              have k4 : Len l4 := Nat.le_trans n5.1 k3
              rw [h5] at hS1
              have e5 : S_sig_Take l3 true 0 8 = _ := hS1
              dsimp only
              have hS2 := im_sigTake (m := 4) k4 (by omega) (by omega)
              cases h6 : sigP 4 l4 with
              | error e =>
                rw [h6] at hS2
                obtain ⟨he, l', hS2⟩ := hS2
                refine ⟨he, hE _ ?_⟩
                rcases hO with ⟨ho, rfl, rfl⟩ | ⟨ho, hO⟩
                · simp [M_fnc_reader_head, ErrH, e1, sp_May kn, h2, e2, h3l, u8and1, ho, e5, hS2, ime_sigTake he, he, sp_many (d := params) (e := []) (f := []) (by omega) (by simp) (by simp)]
                · simp [M_fnc_reader_head, ErrH, e1, sp_May kn, h2, e2, h3l, u8and1, ho, hO, e5, hS2, ime_sigTake he, he, sp_many (d := params) (e := []) (f := []) (by omega) (by simp) (by simp)]
              | ok p =>
                obtain ⟨results, l5⟩ := p
                have n6 := sigP_len (by omega) h6
                have k5 : Len l5 := Nat.le_trans n6.1 k4
                rw [h6] at hS2
                have e6 : S_sig_Take l4 true 0 4 = _ := hS2
                dsimp only
                have hS3 := im_sigTake (m := 256) k5 (by omega) (by omega)
                cases h7 : sigP 256 l5 with
                | error e =>
                  rw [h7] at hS3
                  obtain ⟨he, l', hS3⟩ := hS3
                  refine ⟨he, hE _ ?_⟩
                  rcases hO with ⟨ho, rfl, rfl⟩ | ⟨ho, hO⟩
                  · simp [M_fnc_reader_head, ErrH, e1, sp_May kn, h2, e2, h3l, u8and1, ho, e5, e6, hS3, he, sp_many (d := params) (e := results) (f := []) (by omega) (by omega) (by simp)]
                  · simp [M_fnc_reader_head, ErrH, e1, sp_May kn, h2, e2, h3l, u8and1, ho, hO, e5, e6, hS3, he, sp_many (d := params) (e := results) (f := []) (by omega) (by omega) (by simp)]
                | ok p =>
                  obtain ⟨locals, l6⟩ := p
                  have n7 := sigP_len (by omega) h7
                  rw [h7] at hS3
                  have e7 : S_sig_Take l5 true 0 256 = _ := hS3
                  have hM := fun {a b c g h i j k} => sp_many (a := a) (b := b) (c := c) (d := params) (e := results) (f := locals) (g := g) (h := h) (i := i) (j := j) (k := k) (by omega) (by omega) (by omega)
                  dsimp only
                  by_cases h8 : 256 < params.length + results.length + locals.length
                  · rw [if_pos h8]
                    have h8' : ¬((params.length : Int) + results.length + locals.length ≤ 256) := by omega
                    refine ⟨by decide, hE _ ?_⟩
                    rcases hO with ⟨ho, rfl, rfl⟩ | ⟨ho, hO⟩
                    · simp [M_fnc_reader_head, ErrH, e1, sp_May kn, h2, e2, h3l, u8and1, ho, e5, e6, e7, hM, h8']
                    · simp [M_fnc_reader_head, ErrH, e1, sp_May kn, h2, e2, h3l, u8and1, ho, hO, e5, e6, e7, hM, h8']
                  · rw [if_neg h8]
                    have h8' : (params.length : Int) + results.length + locals.length ≤ 256 := by omega
                    refine u_fnc_reader_head (N := 0) ?_
                    rcases hO with ⟨ho, rfl, rfl⟩ | ⟨ho, hO⟩
                    · simp [M_fnc_reader_head, e1, sp_May kn, h2, e2, h3l, u8and1, ho, e5, e6, e7, hM, h8']
                    · simp [M_fnc_reader_head, e1, sp_May kn, h2, e2, h3l, u8and1, ho, hO, e5, e6, e7, hM, h8']
def instrsP : Nat → List UInt8 → Pr (List (Int × Int))
  | 0, l => .ok ([], l)
  | n + 1, l =>
    match instrP l with
    | .error e => .error e
    | .ok (p, l) =>
    match instrsP n l with
    | .ok (r, l) => .ok (p :: r, l)
    | .error e => .error e
theorem instrsP_len : ∀ {n : Nat} {l l' : List UInt8} {x : List (Int × Int)}, instrsP n l = .ok (x, l') → l'.length ≤ l.length ∧ x.length = n
  | 0, l, l', x, h => by simp only [instrsP, Except.ok.injEq, Prod.mk.injEq] at h; obtain ⟨rfl, rfl⟩ := h; simp
  | n + 1, l, l', x, h => by
    rw [instrsP] at h
    split at h
    · cases h
    · rename_i p l2 hp
      split at h
      · rename_i r l3 hr
        cases h
        have h1 := instrsP_len hr
        have h2 := instrP_len hp
        simp; omega
      · cases h
def codeP (l : List UInt8) : Pr (Int × (List (Int × Int) × List Int)) :=
  match numP 2000 l with
  | .error e => .error e
  | .ok (n, l) => if n = 0 then .error 6 else
  match instrsP n.toNat l with
  | .error e => .error e
  | .ok (code, l) =>
  match runsP n 0 65535 l with
  | .error e => .error e
  | .ok (lines, l) => .ok ((n, (code, lines)), l)
abbrev CdR := List (Int × Int) × HdR
def ErrC (o : Option CdR) (e : Int) : Prop := ∃ r, o = some r ∧ r.2.2.2.2.2.2.2.2.2.2.2.2.2.2.1 = true ∧ r.2.2.2.2.2.2.2.2.2.2.2.2.2.2.2.1 = e
section
variable {name : List UInt8} {inner : Bool} {outer params results locals : List Int} {fl : UInt8}
theorem im_code {l : List UInt8} (hl : Len l) : match codeP l with
    | .ok ((n, (code, lines)), l') => S_fnc_reader_code name inner outer params results locals [] [] [] [] fl 0 l true 0 = some (code, name, inner, outer, params, results, locals, lines, [], [], [], fl, n, l', true, 0, ())
    | .error e => e ≠ 0 ∧ ErrC (S_fnc_reader_code name inner outer params results locals [] [] [] [] fl 0 l true 0) e := by
  have hE : ∀ N e, ErrC (M_fnc_reader_code N name inner outer params results locals [] [] [] [] fl 0 l true 0) e → ErrC (S_fnc_reader_code name inner outer params results locals [] [] [] [] fl 0 l true 0) e := fun N e ⟨r, h, h1⟩ => ⟨r, u_fnc_reader_code h, h1⟩
  have hN := im_Num (m := 2000) hl (by omega) (by omega)
  unfold codeP
  cases h1 : numP 2000 l with
  | error e =>
    rw [h1] at hN
    obtain ⟨he, l', hN⟩ := hN
    refine ⟨he, hE 1 _ ?_⟩
    simp [M_fnc_reader_code, ErrC, hN, he, iter_s, ime_lines he]
  | ok p =>
    obtain ⟨u, l1⟩ := p
    obtain ⟨g1, g2, g3⟩ := numP_ok h1
    have k1 : Len l1 := Nat.le_trans g3 hl
    rw [h1] at hN
    have hN : S_cursor_Cursor_Num l true 0 2000 = _ := hN
    obtain ⟨n, rfl⟩ := Int.eq_ofNat_of_zero_le g1
    dsimp only
    by_cases hn : (n : Int) = 0
    · rw [if_pos hn]
      have : n = 0 := by omega
      subst this
      refine ⟨by decide, hE 1 _ ?_⟩
      simp [M_fnc_reader_code, ErrC, hN, iter_s, ime_lines]
    · rw [if_neg hn]
      have hn2 : 0 < n := by omega
      simp only [Int.toNat_natCast]
      -- what the rounds come to
      let Fin : Option CdR → Prop := fun r => match (match instrsP n l1 with
          | .error e => .error e
          | .ok (code, l) => match runsP n 0 65535 l with
            | .error e => .error e
            | .ok (lines, l) => .ok (((n : Int), (code, lines)), l) : Pr (Int × (List (Int × Int) × List Int))) with
        | .ok ((n, (code, lines)), l') => r = some (code, name, inner, outer, params, results, locals, lines, [], [], [], fl, n, l', true, 0, ())
        | .error e => e ≠ 0 ∧ ErrC r e
      have key : Fin (M_fnc_reader_code (n + 1) name inner outer params results locals [] [] [] [] fl 0 l true 0) := by
        simp [M_fnc_reader_code, hN, hn2]
        refine iter_ex (R := Fin) (fun d => n - d.2.2.2.2.2.2.2.2.2.2.2.2.2.2.2.2.1.toNat) (fun d => ∃ (k : Nat) (out : List (Int × Int)) (l2 : List UInt8) (e : Int), d = (out, name, inner, outer, params, results, locals, [], [], [], [], fl, (n : Int), l2, true, e, (k : Int), ()) ∧ k ≤ n ∧ out.length = k ∧ ((e = 0 ∧ Len l2 ∧ instrsP n l1 = withP out (instrsP (n - k) l2)) ∨ (e ≠ 0 ∧ instrsP n l1 = .error e))) ?_ _ _ ⟨0, [], l1, 0, rfl, Nat.zero_le _, rfl, .inl ⟨rfl, k1, by cases instrsP n l1 <;> rfl⟩⟩ (by simp)
        rintro _ again ⟨k, out, l2, e, rfl, hk, ho, hs⟩ ih
        by_cases hlt : k < n
        · have hr := room_t (a := k) (b := 1) (c := 16) (by omega) (by omega)
          have hw : wrp .i64 ((k : Int) + 1) = (k : Int) + 1 := wi64 (by omega) (by omega)
          rcases hs with ⟨rfl, hl2, ht⟩ | ⟨he, ht⟩
          · obtain ⟨j, hj⟩ : ∃ j, n - k = j + 1 := ⟨n - k - 1, by omega⟩
            rw [hj, instrsP] at ht
            have hI := im_instr hl2
            cases hp : instrP l2 with
            | error e =>
              rw [hp] at hI ht
              obtain ⟨he, l3, hI⟩ := hI
              have := ih (out ++ [(0, 0)], name, inner, outer, params, results, locals, [], [], [], [], fl, (n : Int), l3, true, e, (k : Int) + 1, ()) ⟨k + 1, _, _, _, rfl, hlt, by simp [ho], .inr ⟨he, ht⟩⟩ (by simp; omega)
              simpa [hlt, hI, ho, hr, hw] using this
            | ok q =>
              obtain ⟨⟨a, b⟩, l3⟩ := q
              rw [hp] at hI ht
              have hI : S_instr_Take l2 true 0 = _ := hI
              simp only at ht
              have := ih (out ++ [(a, b)], name, inner, outer, params, results, locals, [], [], [], [], fl, (n : Int), l3, true, 0, (k : Int) + 1, ()) ⟨k + 1, _, _, _, rfl, hlt, by simp [ho], .inl ⟨rfl, Nat.le_trans (instrP_len hp) hl2, by
                rw [ht, show n - (k + 1) = j by omega]
                cases instrsP j l3 <;> simp [withP]⟩⟩ (by simp; omega)
              simpa [hlt, hI, ho, hr, hw] using this
          · have := ih (out ++ [(0, 0)], name, inner, outer, params, results, locals, [], [], [], [], fl, (n : Int), l2, true, e, (k : Int) + 1, ()) ⟨k + 1, _, _, _, rfl, hlt, by simp [ho], .inr ⟨he, ht⟩⟩ (by simp; omega)
            simpa [hlt, ime_instr he, ho, hr, hw] using this
        · have : k = n := by omega
          subst this
          rcases hs with ⟨rfl, hl2, ht⟩ | ⟨he, ht⟩
          · have ht2 : instrsP k l1 = .ok (out, l2) := by rw [ht]; simp [instrsP, withP]
            simp only [Fin, ht2]
            have hL := im_lines (n := k) hl2 (by omega)
            cases hp : runsP k 0 65535 l2 with
            | error e =>
              rw [hp] at hL
              obtain ⟨he, l3, hL⟩ := hL
              refine ⟨he, ?_⟩
              simp [ErrC, hL]
            | ok q =>
              obtain ⟨lines, l3⟩ := q
              rw [hp] at hL
              simp [show S_lines_Take l2 true 0 k = _ from hL]
          · simp only [Fin, ht]
            refine ⟨he, ?_⟩
            simp [ErrC, ime_lines he]
      simp only [Fin] at key
      split at key
      · exact u_fnc_reader_code key
      · exact ⟨key.1, hE _ _ key.2⟩
def tablesP (fl : UInt8) (n : Int) (k : Nat) (l : List UInt8) : Pr (List Nd × (List Int × List St)) :=
  if u8I fl < 2 then .ok (([], ([], [])), l) else
  match treeP l with
  | .error e => .error e
  | .ok (nodes, l) =>
  match runsP n 0 ((nodes.length : Int) - 1) l with
  | .error e => .error e
  | .ok (at', l) =>
  match mapsP n k l with
  | .error e => .error e
  | .ok (live, l) => .ok ((nodes, (at', live)), l)
theorem u8and2 {x : UInt8} (h : u8I x ≤ 3) : bitI .and .u8 (u8I x) 2 = (if u8I x < 2 then 0 else 2) := by
  obtain ⟨c, hc⟩ : ∃ c : Nat, u8I x = c := ⟨_, rfl⟩
  rw [hc] at h ⊢
  rw [and2 c (by omega)]
  by_cases h2 : 2 ≤ c
  · rw [if_pos h2, if_neg (by omega)]
  · rw [if_neg h2, if_pos (by omega)]
theorem runsG_len {lo hi : Int} : ∀ {f n : Nat} {last : Option Int} {l l' : List UInt8} {x : List Int}, runsG lo hi f n last l = .ok (x, l') → l'.length ≤ l.length ∧ x.length = n
  | f, 0, last, l, l', x, h => by simp only [runsG, Except.ok.injEq, Prod.mk.injEq] at h; obtain ⟨rfl, rfl⟩ := h; simp
  | 0, n + 1, last, l, l', x, h => by simp [runsG] at h
  | f + 1, n + 1, last, l, l', x, h => by
    simp only [runsG] at h
    cases hr : runP ((n + 1 : Nat) : Int) l with
    | error e => rw [hr] at h; cases h
    | ok p =>
      obtain ⟨⟨u, v⟩, l2⟩ := p
      rw [hr] at h
      obtain ⟨h1, h2, h3⟩ := runP_len hr
      simp only at h h2 h3
      split at h
      · cases h
      · split at h
        · cases h
        · split at h
          · rename_i r l3 hq
            have := runsG_len hq
            cases h
            simp; omega
          · cases h
theorem runsP_len {n lo hi : Int} {l l' : List UInt8} {x : List Int} (h : runsP n lo hi l = .ok (x, l')) : l'.length ≤ l.length ∧ x.length = n.toNat := runsG_len h
theorem im_tables {l : List UInt8} {code : List (Int × Int)} {lines : List Int} {n : Int} (hl : Len l) (hf : u8I fl ≤ 3) (hn : n ≤ 1000000) (hm : params.length + results.length + locals.length ≤ 256) : match tablesP fl n (params.length + results.length + locals.length) l with
    | .ok ((nodes, (at', live)), l') => S_fnc_reader_tables code name inner outer params results locals lines [] [] [] fl n l true 0 = some (code, name, inner, outer, params, results, locals, lines, nodes, at', live, fl, n, l', true, 0, ())
    | .error e => e ≠ 0 ∧ ErrC (S_fnc_reader_tables code name inner outer params results locals lines [] [] [] fl n l true 0) e := by
  have hE : ∀ e, ErrC (M_fnc_reader_tables 0 code name inner outer params results locals lines [] [] [] fl n l true 0) e → ErrC (S_fnc_reader_tables code name inner outer params results locals lines [] [] [] fl n l true 0) e := fun e ⟨r, h, h1⟩ => ⟨r, u_fnc_reader_tables h, h1⟩
  obtain ⟨k, hk⟩ : ∃ k, k = params.length + results.length + locals.length := ⟨_, rfl⟩
  have hM : ∀ {a b c g h i j q}, S_fnc_many a b c params results locals g h i j q = some ((k : Int), ()) := by
    intro a b c g h i j q
    rw [sp_many (by omega) (by omega) (by omega)]
    congr 2
    omega
  rw [← hk] at hm ⊢
  unfold tablesP
  by_cases h2 : u8I fl < 2
  · rw [if_pos h2]
    refine u_fnc_reader_tables (N := 0) ?_
    simp [M_fnc_reader_tables, u8and2 hf, h2]
  · rw [if_neg h2]
    have hT := im_tree hl
    cases h3 : treeP l with
    | error e =>
      rw [h3] at hT
      obtain ⟨he, l', hT⟩ := hT
      refine ⟨he, hE _ ?_⟩
      simp [M_fnc_reader_tables, ErrC, u8and2 hf, h2, hT, ime_runs he, hM, ime_maps he hm]
    | ok p =>
      obtain ⟨nodes, l1⟩ := p
      obtain ⟨g1, g2⟩ := treeP_len h3
      have k1 : Len l1 := Nat.le_trans g1 hl
      rw [h3] at hT
      have hT : S_tree_Take l true 0 = _ := hT
      have hw : wrp .i64 ((nodes.length : Int) - 1) = (nodes.length : Int) - 1 := wi64 (by omega) (by omega)
      dsimp only
      have hR := im_runs (n := n) (lo := 0) (hi := (nodes.length : Int) - 1) k1 hn
      cases h4 : runsP n 0 ((nodes.length : Int) - 1) l1 with
      | error e =>
        rw [h4] at hR
        obtain ⟨he, l', hR⟩ := hR
        refine ⟨he, hE _ ?_⟩
        simp [M_fnc_reader_tables, ErrC, u8and2 hf, h2, hT, hw, hR, hM, ime_maps he hm]
      | ok p =>
        obtain ⟨at', l2⟩ := p
        have k2 : Len l2 := Nat.le_trans (runsP_len h4).1 k1
        rw [h4] at hR
        have hR : S_runs_Take l1 true 0 n 0 ((nodes.length : Int) - 1) = _ := hR
        dsimp only
        have hP := im_maps (n := n) k2 hn hm
        cases h5 : mapsP n k l2 with
        | error e =>
          rw [h5] at hP
          obtain ⟨he, l', hP⟩ := hP
          refine ⟨he, hE _ ?_⟩
          simp [M_fnc_reader_tables, ErrC, u8and2 hf, h2, hT, hw, hR, hM, hP]
        | ok p =>
          obtain ⟨live, l3⟩ := p
          rw [h5] at hP
          refine u_fnc_reader_tables (N := 0) ?_
          simp [M_fnc_reader_tables, u8and2 hf, h2, hT, hw, hR, hM, show S_maps_Take l2 true 0 n _ = _ from hP]
end
/-- A function. -/
abbrev Fn := List UInt8 × (Bool × (List Int × (List Int × (List Int × (List Int × (List (Int × Int) × (List Int × (List Nd × (List Int × List St)))))))))
def fncP (l : List UInt8) : Pr Fn :=
  match headP l with
  | .error e => .error e
  | .ok ((name, (inner, (outer, (params, (results, (locals, fl)))))), l) =>
  match codeP l with
  | .error e => .error e
  | .ok ((n, (code, lines)), l) =>
  match tablesP fl n (params.length + results.length + locals.length) l with
  | .error e => .error e
  | .ok ((nodes, (at', live)), l) => .ok ((name, inner, outer, params, results, locals, code, lines, nodes, at', live), l)
theorem headP_ok {l l' : List UInt8} {name : List UInt8} {inner : Bool} {outer params results locals : List Int} {fl : UInt8} (h : headP l = .ok ((name, (inner, (outer, (params, (results, (locals, fl)))))), l')) : l'.length ≤ l.length ∧ u8I fl ≤ 3 ∧ params.length + results.length + locals.length ≤ 256 := by
  unfold headP at h
  split at h
  · cases h
  · rename_i name' l1 h1
    have i1 := textP_len h1
    split at h
    · cases h
    · split at h
      · cases h
      · rename_i x l2 h2
        have i2 : l2.length ≤ l1.length := by
          cases l1 with
          | nil => cases h2
          | cons y l => cases h2; simp
        split at h
        · cases h
        · split at h
          · cases h
          · rename_i outer' l3 h3
            have i3 : l3.length ≤ l2.length := by
              split at h3
              · exact (sigP_len (by omega) h3).1
              · cases h3; exact Nat.le_refl _
            split at h
            · cases h
            · rename_i p4 l4 h4
              have i4 := sigP_len (by omega) h4
              split at h
              · cases h
              · rename_i p5 l5 h5
                have i5 := sigP_len (by omega) h5
                split at h
                · cases h
                · rename_i p6 l6 h6
                  have i6 := sigP_len (by omega) h6
                  split at h
                  · cases h
                  · cases h
                    exact ⟨by omega, by omega, by omega⟩
theorem codeP_ok {l l' : List UInt8} {n : Int} {code : List (Int × Int)} {lines : List Int} (h : codeP l = .ok ((n, (code, lines)), l')) : l'.length ≤ l.length ∧ 0 < n ∧ n ≤ 2000 := by
  unfold codeP at h
  split at h
  · cases h
  · rename_i u l1 h1
    have i1 := numP_ok h1
    split at h
    · cases h
    · split at h
      · cases h
      · rename_i c l2 h2
        have i2 := instrsP_len h2
        split at h
        · cases h
        · rename_i r l3 h3
          have i3 := runsP_len h3
          cases h
          exact ⟨by omega, by omega, by omega⟩
theorem im_Take {l : List UInt8} (hl : Len l) : match fncP l with
    | .ok ((name, inner, outer, params, results, locals, code, lines, nodes, at', live), l') => S_fnc_Take l true 0 = some (l', true, 0, name, inner, outer, params, results, locals, code, lines, nodes, at', live, ())
    | .error e => e ≠ 0 ∧ ∃ l', S_fnc_Take l true 0 = some (l', true, e, [], false, [], [], [], [], [], [], [], [], [], ()) := by
  unfold fncP
  have hH := im_head hl
  cases h1 : headP l with
  | error e =>
    rw [h1] at hH
    obtain ⟨he, ⟨a0, a1, a2, a3, a4, a5, a6, a7, a8, a9, a10, a11, a12, a13, a14, a15⟩, hS, hm, hr⟩ := hH
    simp only at hm hr
    subst hm
    subst hr
    refine ⟨he, a12, u_fnc_Take (N := 0) ?_⟩
    simp [M_fnc_Take, hS, he]
    trace_state
  | ok p =>
    obtain ⟨⟨name, inner, outer, params, results, locals, fl⟩, l1⟩ := p
    obtain ⟨g1, g2, g3⟩ := headP_ok h1
    rw [h1] at hH
    simp only at hH
    have k1 : Len l1 := Nat.le_trans g1 hl
    dsimp only
    have hC := im_code (name := name) (inner := inner) (outer := outer) (params := params) (results := results) (locals := locals) (fl := fl) k1
    cases h2 : codeP l1 with
    | error e =>
      rw [h2] at hC
      obtain ⟨he, ⟨b0, a0, a1, a2, a3, a4, a5, a6, a7, a8, a9, a10, a11, a12, a13, a14, a15⟩, hS, hm, hr⟩ := hC
      simp only at hm hr
      subst hm
      subst hr
      refine ⟨he, a12, u_fnc_Take (N := 0) ?_⟩
      simp [M_fnc_Take, hH, hS, he]
      trace_state
    | ok p =>
      obtain ⟨⟨n, code, lines⟩, l2⟩ := p
      obtain ⟨g4, g5, g6⟩ := codeP_ok h2
      rw [h2] at hC
      simp only at hC
      have k2 : Len l2 := Nat.le_trans g4 k1
      dsimp only
      have hT := im_tables (name := name) (inner := inner) (outer := outer) (params := params) (results := results) (locals := locals) (fl := fl) (code := code) (lines := lines) (n := n) k2 g2 (by omega) g3
      cases h3 : tablesP fl n (params.length + results.length + locals.length) l2 with
      | error e =>
        rw [h3] at hT
        obtain ⟨he, ⟨b0, a0, a1, a2, a3, a4, a5, a6, a7, a8, a9, a10, a11, a12, a13, a14, a15⟩, hS, hm, hr⟩ := hT
        simp only at hm hr
        subst hm
        subst hr
        refine ⟨he, a12, u_fnc_Take (N := 0) ?_⟩
        simp [M_fnc_Take, hH, hC, hS, he]
        trace_state
      | ok p =>
        obtain ⟨⟨nodes, at', live⟩, l3⟩ := p
        rw [h3] at hT
        simp only at hT
        refine u_fnc_Take (N := 0) ?_
        simp [M_fnc_Take, hH, hC, hT]
        trace_state
end Go.Proofs.YtkdnbnkbnegckaaGreat
