/- The document's answer's taking of a function. -/
import Derived.Test.YtkdnbnkbnegckaaGreatLp1
namespace Go.Proofs.YtkdnbnkbnegckaaGreat
open Go.RowKit
set_option maxRecDepth 8000
set_option maxHeartbeats 4000000
def RfF (o : Option (List UInt8 × (Bool × (List Int × (List Int × (List Int × (List Int × (List (Int × Int) × (List Int × (List Nd × (List Int × (List St × (List UInt8 × (Int × Unit)))))))))))))) (p : Pr Fn) : Prop :=
  match p with
  | .ok ((name, inner, outer, params, results, locals, code, lines, nodes, at', live), l') => o = some (name, inner, outer, params, results, locals, code, lines, nodes, at', live, l', 0, ())
  | .error e => e ≠ 0 ∧ ∃ l', o = some ([], false, [], [], [], [], [], [], [], [], [], l', e, ())
theorem RfF.of {f g : Option (List UInt8 × (Bool × (List Int × (List Int × (List Int × (List Int × (List (Int × Int) × (List Int × (List Nd × (List Int × (List St × (List UInt8 × (Int × Unit)))))))))))))} {p : Pr Fn} (h : RfF f p) (hu : ∀ q, f = some q → g = some q) : RfF g p := by
  cases p with
  | ok x => exact hu _ h
  | error e => exact ⟨h.1, h.2.choose, hu _ h.2.choose_spec⟩
theorem rf_Take {l : List UInt8} (hl : Len l) : RfF (S_ref15_Take l 0) (fncP l) := by
  unfold fncP headP
  have hT := rf_Text (m := 12) hl (by omega) (by omega)
  have hm0 : mayB [] = false := rfl
  have hz : u8I 0 = 0 := rfl
  cases h1 : textP 12 l with
  | error e =>
    rw [h1] at hT
    obtain ⟨he, a, l', hT⟩ := hT
    refine ⟨he, l', u_ref15_Take (N := 1) ?_⟩
    simp [M_ref15_Take, hT, he, rfe_Byte he, rfe_sigTake he, rfe_Num he, rfe_lines he, iter_s, hz]
  | ok p =>
    obtain ⟨name, l1⟩ := p
    have hn := textP_len h1
    have k1 : Len l1 := Nat.le_trans hn.1 hl
    have kn : Len name := Nat.le_trans hn.2 hl
    rw [h1] at hT
    have e1 : S_ref02_Text l 0 12 = _ := hT
    dsimp only
    cases h2 : mayB name with
    | false =>
      simp only [if_true]
      refine ⟨by decide, l1, u_ref15_Take (N := 1) ?_⟩
      simp [M_ref15_Take, e1, sp_rMay kn, h2, rfe_Byte, rfe_sigTake, rfe_Num, rfe_lines, iter_s, hz]
    | true =>
      simp only [Bool.true_eq_false, if_false]
      cases l1 with
      | nil =>
        obtain ⟨he, a, l', hB⟩ := rf_Byte (l := [])
        refine ⟨by decide, l', u_ref15_Take (N := 1) ?_⟩
        by_cases hb : 2 ≤ u8I a <;> by_cases ho : (u8I a).tmod 2 = 1 <;> simp [M_ref15_Take, e1, sp_rMay kn, h2, hB, hb, ho, rfe_sigTake, rfe_Num, rfe_lines, rfe_tree, rfe_runs, rfe_maps, iter_s]
      | cons fl l2 =>
        have e2 : S_ref02_Byte (fl :: l2) 0 = _ := rf_Byte (l := fl :: l2)
        have k2 : Len l2 := by unfold Len at k1 ⊢; simp at k1; omega
        simp only [byteP]
        by_cases h3 : 3 < u8I fl
        · rw [if_pos h3]
          refine ⟨by decide, l2, u_ref15_Take (N := 1) ?_⟩
          by_cases hb : 2 ≤ u8I fl <;> by_cases ho : (u8I fl).tmod 2 = 1 <;> simp [M_ref15_Take, e1, sp_rMay kn, h2, e2, h3, hb, ho, rfe_sigTake, rfe_Num, rfe_lines, rfe_tree, rfe_runs, rfe_maps, iter_s]
        · rw [if_neg h3]
          have hg := u8_ge (x := fl)
          have hmod : (u8I fl).tmod 2 = u8I fl % 2 := Int.tmod_eq_emod_of_nonneg hg
          have hO : match (if u8I fl % 2 = 1 then sigP 4 l2 else .ok ([], l2)) with
              | .ok (outer, l') => outer.length ≤ 4 ∧ Len l' ∧ ((u8I fl % 2 = 0 ∧ outer = [] ∧ l' = l2) ∨ (u8I fl % 2 = 1 ∧ S_ref11_Take l2 0 4 = some (outer, (l', (0, ())))))
              | .error e => e ≠ 0 ∧ u8I fl % 2 = 1 ∧ ∃ a l', S_ref11_Take l2 0 4 = some (a, (l', (e, ()))) := by
            by_cases ho : u8I fl % 2 = 1
            · rw [if_pos ho]
              have hs := rf_sigTake (m := 4) k2 (by omega) (by omega)
              cases hq : sigP 4 l2 with
              | ok q =>
                rw [hq] at hs
                have := sigP_len (by omega) hq
                exact ⟨by omega, Nat.le_trans this.1 k2, .inr ⟨ho, hs⟩⟩
              | error e =>
                rw [hq] at hs
                exact ⟨hs.1, ho, hs.2⟩
            · rw [if_neg ho]
              exact ⟨by simp, k2, .inl ⟨by omega, rfl, rfl⟩⟩
          cases h4 : (if u8I fl % 2 = 1 then sigP 4 l2 else .ok ([], l2) : Pr (List Int)) with
          | error e =>
            rw [h4] at hO
            obtain ⟨he, ho, a, l', hS⟩ := hO
            refine ⟨he, l', u_ref15_Take (N := 1) ?_⟩
            by_cases hb : 2 ≤ u8I fl <;> simp [M_ref15_Take, e1, sp_rMay kn, h2, e2, h3, hb, hmod, ho, hS, rfe_sigTake he, rfe_Num he, rfe_lines he, rfe_tree he, rfe_runs he, rfe_maps he, iter_s, he]
          | ok p =>
            obtain ⟨outer, l3⟩ := p
            rw [h4] at hO
            obtain ⟨ol, k3, hO⟩ := hO
            dsimp only
            have hS1 := rf_sigTake (m := 8) k3 (by omega) (by omega)
            cases h5 : sigP 8 l3 with
            | error e =>
              rw [h5] at hS1
              obtain ⟨he, a, l', hS1⟩ := hS1
              refine ⟨he, l', u_ref15_Take (N := 1) ?_⟩
              by_cases hb : 2 ≤ u8I fl
              · rcases hO with ⟨ho, rfl, rfl⟩ | ⟨ho, hO⟩
                · simp [M_ref15_Take, e1, sp_rMay kn, h2, e2, h3, hb, hmod, ho, hS1, rfe_sigTake he, rfe_Num he, rfe_lines he, rfe_tree he, rfe_runs he, rfe_maps he, iter_s, he]
                · simp [M_ref15_Take, e1, sp_rMay kn, h2, e2, h3, hb, hmod, ho, hO, hS1, rfe_sigTake he, rfe_Num he, rfe_lines he, rfe_tree he, rfe_runs he, rfe_maps he, iter_s, he]
              · rcases hO with ⟨ho, rfl, rfl⟩ | ⟨ho, hO⟩
                · simp [M_ref15_Take, e1, sp_rMay kn, h2, e2, h3, hb, hmod, ho, hS1, rfe_sigTake he, rfe_Num he, rfe_lines he, rfe_tree he, rfe_runs he, rfe_maps he, iter_s, he]
                · simp [M_ref15_Take, e1, sp_rMay kn, h2, e2, h3, hb, hmod, ho, hO, hS1, rfe_sigTake he, rfe_Num he, rfe_lines he, rfe_tree he, rfe_runs he, rfe_maps he, iter_s, he]
            | ok p =>
              obtain ⟨params, l4⟩ := p
              have n5 := sigP_len (by omega) h5
              have k4 : Len l4 := Nat.le_trans n5.1 k3
              rw [h5] at hS1
              have e5 : S_ref11_Take l3 0 8 = _ := hS1
              clear hS1
              dsimp only
              have hS1 := rf_sigTake (m := 4) k4 (by omega) (by omega)
              cases h6 : sigP 4 l4 with
              | error e =>
                rw [h6] at hS1
                obtain ⟨he, a, l', hS1⟩ := hS1
                refine ⟨he, l', u_ref15_Take (N := 1) ?_⟩
                by_cases hb : 2 ≤ u8I fl
                · rcases hO with ⟨ho, rfl, rfl⟩ | ⟨ho, hO⟩
                  · simp [M_ref15_Take, e1, sp_rMay kn, h2, e2, h3, hb, hmod, ho, e5, hS1, rfe_sigTake he, rfe_Num he, rfe_lines he, rfe_tree he, rfe_runs he, rfe_maps he, iter_s, he]
                  · simp [M_ref15_Take, e1, sp_rMay kn, h2, e2, h3, hb, hmod, ho, hO, e5, hS1, rfe_sigTake he, rfe_Num he, rfe_lines he, rfe_tree he, rfe_runs he, rfe_maps he, iter_s, he]
                · rcases hO with ⟨ho, rfl, rfl⟩ | ⟨ho, hO⟩
                  · simp [M_ref15_Take, e1, sp_rMay kn, h2, e2, h3, hb, hmod, ho, e5, hS1, rfe_sigTake he, rfe_Num he, rfe_lines he, rfe_tree he, rfe_runs he, rfe_maps he, iter_s, he]
                  · simp [M_ref15_Take, e1, sp_rMay kn, h2, e2, h3, hb, hmod, ho, hO, e5, hS1, rfe_sigTake he, rfe_Num he, rfe_lines he, rfe_tree he, rfe_runs he, rfe_maps he, iter_s, he]
              | ok p =>
                obtain ⟨results, l5⟩ := p
                have n6 := sigP_len (by omega) h6
                have k5 : Len l5 := Nat.le_trans n6.1 k4
                rw [h6] at hS1
                have e6 : S_ref11_Take l4 0 4 = _ := hS1
                clear hS1
                dsimp only
                have hS1 := rf_sigTake (m := 256) k5 (by omega) (by omega)
                cases h7 : sigP 256 l5 with
                | error e =>
                  rw [h7] at hS1
                  obtain ⟨he, a, l', hS1⟩ := hS1
                  refine ⟨he, l', u_ref15_Take (N := 1) ?_⟩
                  by_cases hb : 2 ≤ u8I fl
                  · rcases hO with ⟨ho, rfl, rfl⟩ | ⟨ho, hO⟩
                    · simp [M_ref15_Take, e1, sp_rMay kn, h2, e2, h3, hb, hmod, ho, e5, e6, hS1, rfe_sigTake he, rfe_Num he, rfe_lines he, rfe_tree he, rfe_runs he, rfe_maps he, iter_s, he]
                    · simp [M_ref15_Take, e1, sp_rMay kn, h2, e2, h3, hb, hmod, ho, hO, e5, e6, hS1, rfe_sigTake he, rfe_Num he, rfe_lines he, rfe_tree he, rfe_runs he, rfe_maps he, iter_s, he]
                  · rcases hO with ⟨ho, rfl, rfl⟩ | ⟨ho, hO⟩
                    · simp [M_ref15_Take, e1, sp_rMay kn, h2, e2, h3, hb, hmod, ho, e5, e6, hS1, rfe_sigTake he, rfe_Num he, rfe_lines he, rfe_tree he, rfe_runs he, rfe_maps he, iter_s, he]
                    · simp [M_ref15_Take, e1, sp_rMay kn, h2, e2, h3, hb, hmod, ho, hO, e5, e6, hS1, rfe_sigTake he, rfe_Num he, rfe_lines he, rfe_tree he, rfe_runs he, rfe_maps he, iter_s, he]
                | ok p =>
                  obtain ⟨locals, l6⟩ := p
                  have n7 := sigP_len (by omega) h7
                  have k6 : Len l6 := Nat.le_trans n7.1 k5
                  rw [h7] at hS1
                  have e7 : S_ref11_Take l5 0 256 = _ := hS1
                  clear hS1
                  dsimp only
                  by_cases h8 : 256 < params.length + results.length + locals.length
                  · rw [if_pos h8]
                    have h8' : (256 : Int) < (params.length : Int) + results.length + locals.length := by omega
                    refine ⟨by decide, l6, u_ref15_Take (N := 1) ?_⟩
                    by_cases hb : 2 ≤ u8I fl
                    · rcases hO with ⟨ho, rfl, rfl⟩ | ⟨ho, hO⟩
                      · simp [M_ref15_Take, e1, sp_rMay kn, h2, e2, h3, hb, hmod, ho, e5, e6, e7, wi64 (n := (params.length : Int) + results.length) (by omega) (by omega), wi64 (n := (params.length : Int) + results.length + locals.length) (by omega) (by omega), h8', rfe_sigTake, rfe_Num, rfe_lines, rfe_tree, rfe_runs, rfe_maps, iter_s]
                      · simp [M_ref15_Take, e1, sp_rMay kn, h2, e2, h3, hb, hmod, ho, hO, e5, e6, e7, wi64 (n := (params.length : Int) + results.length) (by omega) (by omega), wi64 (n := (params.length : Int) + results.length + locals.length) (by omega) (by omega), h8', rfe_sigTake, rfe_Num, rfe_lines, rfe_tree, rfe_runs, rfe_maps, iter_s]
                    · rcases hO with ⟨ho, rfl, rfl⟩ | ⟨ho, hO⟩
                      · simp [M_ref15_Take, e1, sp_rMay kn, h2, e2, h3, hb, hmod, ho, e5, e6, e7, wi64 (n := (params.length : Int) + results.length) (by omega) (by omega), wi64 (n := (params.length : Int) + results.length + locals.length) (by omega) (by omega), h8', rfe_sigTake, rfe_Num, rfe_lines, rfe_tree, rfe_runs, rfe_maps, iter_s]
                      · simp [M_ref15_Take, e1, sp_rMay kn, h2, e2, h3, hb, hmod, ho, hO, e5, e6, e7, wi64 (n := (params.length : Int) + results.length) (by omega) (by omega), wi64 (n := (params.length : Int) + results.length + locals.length) (by omega) (by omega), h8', rfe_sigTake, rfe_Num, rfe_lines, rfe_tree, rfe_runs, rfe_maps, iter_s]
                  · rw [if_neg h8]
                    have h8' : ¬(256 : Int) < (params.length : Int) + results.length + locals.length := by omega
                    have hNm := rf_Num (m := 2000) k6 (by omega) (by omega)
                    dsimp only
                    unfold codeP
                    cases h9 : numP 2000 l6 with
                    | error e =>
                      rw [h9] at hNm
                      obtain ⟨he, a, l', hNm⟩ := hNm
                      refine ⟨he, l', u_ref15_Take (N := 1) ?_⟩
                      by_cases hb : 2 ≤ u8I fl
                      · rcases hO with ⟨ho, rfl, rfl⟩ | ⟨ho, hO⟩
                        · simp [M_ref15_Take, e1, sp_rMay kn, h2, e2, h3, hb, hmod, ho, e5, e6, e7, wi64 (n := (params.length : Int) + results.length) (by omega) (by omega), wi64 (n := (params.length : Int) + results.length + locals.length) (by omega) (by omega), h8', hNm, rfe_lines he, rfe_tree he, rfe_runs he, rfe_maps he, iter_s, he]
                        · simp [M_ref15_Take, e1, sp_rMay kn, h2, e2, h3, hb, hmod, ho, hO, e5, e6, e7, wi64 (n := (params.length : Int) + results.length) (by omega) (by omega), wi64 (n := (params.length : Int) + results.length + locals.length) (by omega) (by omega), h8', hNm, rfe_lines he, rfe_tree he, rfe_runs he, rfe_maps he, iter_s, he]
                      · rcases hO with ⟨ho, rfl, rfl⟩ | ⟨ho, hO⟩
                        · simp [M_ref15_Take, e1, sp_rMay kn, h2, e2, h3, hb, hmod, ho, e5, e6, e7, wi64 (n := (params.length : Int) + results.length) (by omega) (by omega), wi64 (n := (params.length : Int) + results.length + locals.length) (by omega) (by omega), h8', hNm, rfe_lines he, rfe_tree he, rfe_runs he, rfe_maps he, iter_s, he]
                        · simp [M_ref15_Take, e1, sp_rMay kn, h2, e2, h3, hb, hmod, ho, hO, e5, e6, e7, wi64 (n := (params.length : Int) + results.length) (by omega) (by omega), wi64 (n := (params.length : Int) + results.length + locals.length) (by omega) (by omega), h8', hNm, rfe_lines he, rfe_tree he, rfe_runs he, rfe_maps he, iter_s, he]
                    | ok p =>
                      obtain ⟨u, l7⟩ := p
                      obtain ⟨g1, g2, g3⟩ := numP_ok h9
                      have k7 : Len l7 := Nat.le_trans g3 k6
                      rw [h9] at hNm
                      have e9 : S_ref02_Num l6 0 2000 = _ := hNm
                      obtain ⟨n, rfl⟩ := Int.eq_ofNat_of_zero_le g1
                      dsimp only
                      by_cases hn : (n : Int) = 0
                      · rw [if_pos hn]
                        have hn0 : n = 0 := by omega
                        subst hn0
                        refine ⟨by decide, l7, u_ref15_Take (N := 1) ?_⟩
                        by_cases hb : 2 ≤ u8I fl
                        · rcases hO with ⟨ho, rfl, rfl⟩ | ⟨ho, hO⟩
                          · simp [M_ref15_Take, e1, sp_rMay kn, h2, e2, h3, hb, hmod, ho, e5, e6, e7, wi64 (n := (params.length : Int) + results.length) (by omega) (by omega), wi64 (n := (params.length : Int) + results.length + locals.length) (by omega) (by omega), h8', e9, rfe_lines, rfe_tree, rfe_runs, rfe_maps, iter_s]
                          · simp [M_ref15_Take, e1, sp_rMay kn, h2, e2, h3, hb, hmod, ho, hO, e5, e6, e7, wi64 (n := (params.length : Int) + results.length) (by omega) (by omega), wi64 (n := (params.length : Int) + results.length + locals.length) (by omega) (by omega), h8', e9, rfe_lines, rfe_tree, rfe_runs, rfe_maps, iter_s]
                        · rcases hO with ⟨ho, rfl, rfl⟩ | ⟨ho, hO⟩
                          · simp [M_ref15_Take, e1, sp_rMay kn, h2, e2, h3, hb, hmod, ho, e5, e6, e7, wi64 (n := (params.length : Int) + results.length) (by omega) (by omega), wi64 (n := (params.length : Int) + results.length + locals.length) (by omega) (by omega), h8', e9, rfe_lines, rfe_tree, rfe_runs, rfe_maps, iter_s]
                          · simp [M_ref15_Take, e1, sp_rMay kn, h2, e2, h3, hb, hmod, ho, hO, e5, e6, e7, wi64 (n := (params.length : Int) + results.length) (by omega) (by omega), wi64 (n := (params.length : Int) + results.length + locals.length) (by omega) (by omega), h8', e9, rfe_lines, rfe_tree, rfe_runs, rfe_maps, iter_s]
                      · rw [if_neg hn]
                        -- the loop
                        rcases hO with ⟨ho, rfl, rfl⟩ | ⟨ho, hO⟩
                        · refine RfF.of ?_ fun q hq => u_ref15_Take (N := n + 2) hq
                          have hn1 : ¬n = 0 := by omega
                          simp [M_ref15_Take, e1, sp_rMay kn, h2, e2, h3, hmod, ho, e5, e6, e7, wi64 (n := (params.length : Int) + results.length) (by omega) (by omega), wi64 (n := (params.length : Int) + results.length + locals.length) (by omega) (by omega), h8', e9, hn1]
                          refine iter_ex (R := fun r => RfF (joinK r _) _) (fun d => n - d.2.2.2.2.2.2.2.2.2.2.2.2.2.2.2.2.1.toNat) (fun d => ∃ (k : Nat) (out : List (Int × Int)) (l8 : List UInt8) (e : Int), d = (out, l8, e, [], false, 0, name, false, [], params, results, locals, [], [], [], [], (k : Int), ()) ∧ k ≤ n ∧ out.length = k ∧ ((e = 0 ∧ Len l8 ∧ instrsP n l7 = withP out (instrsP (n - k) l8)) ∨ (e ≠ 0 ∧ instrsP n l7 = .error e))) ?_ _ _ ⟨0, [], l7, 0, rfl, Nat.zero_le _, rfl, .inl ⟨rfl, k7, by cases instrsP n l7 <;> rfl⟩⟩ (by simp)
                          rintro _ again ⟨k, out, l8, e, rfl, hk, hol, hs⟩ ih
                          rcases hs with ⟨rfl, hl8, ht⟩ | ⟨he, ht⟩
                          · by_cases hlt : k < n
                            · have hr := room_t (a := k) (b := 1) (c := 16) (by omega) (by omega)
                              have hw : wrp .i64 ((k : Int) + 1) = (k : Int) + 1 := wi64 (by omega) (by omega)
                              obtain ⟨j, hj⟩ : ∃ j, n - k = j + 1 := ⟨n - k - 1, by omega⟩
                              rw [hj, instrsP] at ht
                              have hI := rf_instr hl8
                              cases hp : instrP l8 with
                              | error e =>
                                rw [hp] at hI ht
                                obtain ⟨he, l9, hI⟩ := hI
                                have := ih (out ++ [(0, 0)], l9, e, [], false, 0, name, false, [], params, results, locals, [], [], [], [], (k : Int) + 1, ()) ⟨k + 1, _, _, _, rfl, hlt, by simp [hol], .inr ⟨he, ht⟩⟩ (by simp; omega)
                                simpa [hlt, hI, hol, hr, hw] using this
                              | ok q =>
                                obtain ⟨⟨a, b⟩, l9⟩ := q
                                rw [hp] at hI ht
                                have hI : S_ref10_Take l8 0 = _ := hI
                                simp only at ht
                                have := ih (out ++ [(a, b)], l9, 0, [], false, 0, name, false, [], params, results, locals, [], [], [], [], (k : Int) + 1, ()) ⟨k + 1, _, _, _, rfl, hlt, by simp [hol], .inl ⟨rfl, Nat.le_trans (instrP_len hp) hl8, by
                                  rw [ht, show n - (k + 1) = j by omega]
                                  cases instrsP j l9 <;> simp [withP]⟩⟩ (by simp; omega)
                                simpa [hlt, hI, hol, hr, hw] using this
                            · have hkn : k = n := by omega
                              subst hkn
                              have ht2 : instrsP k l7 = .ok (out, l8) := by rw [ht]; simp [instrsP, withP]
                              rw [ht2]
                              clear ih ht
                              have hL := rf_lines (n := k) hl8 (by omega)
                              simp only [Int.lt_irrefl, if_false, joinK_l, joinK_r]
                              cases h10 : runsP k 0 65535 l8 with
                              | error e =>
                                rw [h10] at hL
                                obtain ⟨he, a, l9, hL⟩ := hL
                                refine ⟨he, l9, ?_⟩
                                by_cases hb : 2 ≤ u8I fl <;> simp [hL, hb, he, rfe_tree he, rfe_runs he, rfe_maps he]
                              | ok q =>
                                obtain ⟨lines, l9⟩ := q
                                rw [h10] at hL
                                have hL : S_ref12_Take l8 0 k = _ := hL
                                have k9 : Len l9 := Nat.le_trans (runsP_len h10).1 hl8
                                dsimp only
                                unfold tablesP
                                by_cases hb : 2 ≤ u8I fl
                                · rw [if_neg (show ¬u8I fl < 2 by omega)]
                                  have hT := rf_tree k9
                                  cases h11 : treeP l9 with
                                  | error e =>
                                    rw [h11] at hT
                                    obtain ⟨he, a, l10, hT⟩ := hT
                                    refine ⟨he, l10, ?_⟩
                                    simp [hL, hb, hT, he, rfe_runs he, rfe_maps he]
                                  | ok q =>
                                    obtain ⟨nodes, l10⟩ := q
                                    obtain ⟨i1, i2⟩ := treeP_len h11
                                    have k10 : Len l10 := Nat.le_trans i1 k9
                                    rw [h11] at hT
                                    have hT : S_ref13_Take l9 0 = _ := hT
                                    have hw : wrp .i64 ((nodes.length : Int) - 1) = (nodes.length : Int) - 1 := wi64 (by omega) (by omega)
                                    dsimp only
                                    have hR := rf_runs (n := k) (lo := 0) (hi := (nodes.length : Int) - 1) k10 (by omega)
                                    cases h12 : runsP k 0 ((nodes.length : Int) - 1) l10 with
                                    | error e =>
                                      rw [h12] at hR
                                      obtain ⟨he, a, l11, hR⟩ := hR
                                      refine ⟨he, l11, ?_⟩
                                      simp [hL, hb, hT, hw, hR, he, rfe_maps he]
                                    | ok q =>
                                      obtain ⟨at', l11⟩ := q
                                      have k11 : Len l11 := Nat.le_trans (runsP_len h12).1 k10
                                      rw [h12] at hR
                                      have hR : S_ref04_Take l10 0 k 0 ((nodes.length : Int) - 1) = _ := hR
                                      dsimp only
                                      have hP := rf_maps (n := k) (k := params.length + results.length + locals.length) k11 (by omega) (by omega)
                                      have hc : ((params.length + results.length + locals.length : Nat) : Int) = (params.length : Int) + results.length + locals.length := by omega
                                      rw [hc] at hP
                                      cases h13 : mapsP k (params.length + results.length + locals.length) l11 with
                                      | error e =>
                                        rw [h13] at hP
                                        obtain ⟨he, a, l12, hP⟩ := hP
                                        refine ⟨he, l12, ?_⟩
                                        simp [hL, hb, hT, hw, hR, hP, he]
                                      | ok q =>
                                        obtain ⟨live, l12⟩ := q
                                        rw [h13] at hP
                                        have hP : S_ref14_Take l11 0 k _ = _ := hP
                                        show _ = some _
                                        simp [hL, hb, hT, hw, hR, hP]
                                · rw [if_pos (show u8I fl < 2 by omega)]
                                  show _ = some _
                                  simp [hL, hb]
                          · rw [ht]
                            refine ⟨he, l8, ?_⟩
                            clear ih
                            by_cases hlt : k < n <;> by_cases hb : 2 ≤ u8I fl <;> simp [hlt, hb, he, rfe_lines he, rfe_tree he, rfe_runs he, rfe_maps he]
                        · refine RfF.of ?_ fun q hq => u_ref15_Take (N := n + 2) hq
                          have hn1 : ¬n = 0 := by omega
                          simp [M_ref15_Take, e1, sp_rMay kn, h2, e2, h3, hmod, ho, hO, e5, e6, e7, wi64 (n := (params.length : Int) + results.length) (by omega) (by omega), wi64 (n := (params.length : Int) + results.length + locals.length) (by omega) (by omega), h8', e9, hn1]
                          refine iter_ex (R := fun r => RfF (joinK r _) _) (fun d => n - d.2.2.2.2.2.2.2.2.2.2.2.2.2.2.2.2.1.toNat) (fun d => ∃ (k : Nat) (out : List (Int × Int)) (l8 : List UInt8) (e : Int), d = (out, l8, e, [], false, 0, name, true, outer, params, results, locals, [], [], [], [], (k : Int), ()) ∧ k ≤ n ∧ out.length = k ∧ ((e = 0 ∧ Len l8 ∧ instrsP n l7 = withP out (instrsP (n - k) l8)) ∨ (e ≠ 0 ∧ instrsP n l7 = .error e))) ?_ _ _ ⟨0, [], l7, 0, rfl, Nat.zero_le _, rfl, .inl ⟨rfl, k7, by cases instrsP n l7 <;> rfl⟩⟩ (by simp)
                          rintro _ again ⟨k, out, l8, e, rfl, hk, hol, hs⟩ ih
                          rcases hs with ⟨rfl, hl8, ht⟩ | ⟨he, ht⟩
                          · by_cases hlt : k < n
                            · have hr := room_t (a := k) (b := 1) (c := 16) (by omega) (by omega)
                              have hw : wrp .i64 ((k : Int) + 1) = (k : Int) + 1 := wi64 (by omega) (by omega)
                              obtain ⟨j, hj⟩ : ∃ j, n - k = j + 1 := ⟨n - k - 1, by omega⟩
                              rw [hj, instrsP] at ht
                              have hI := rf_instr hl8
                              cases hp : instrP l8 with
                              | error e =>
                                rw [hp] at hI ht
                                obtain ⟨he, l9, hI⟩ := hI
                                have := ih (out ++ [(0, 0)], l9, e, [], false, 0, name, true, outer, params, results, locals, [], [], [], [], (k : Int) + 1, ()) ⟨k + 1, _, _, _, rfl, hlt, by simp [hol], .inr ⟨he, ht⟩⟩ (by simp; omega)
                                simpa [hlt, hI, hol, hr, hw] using this
                              | ok q =>
                                obtain ⟨⟨a, b⟩, l9⟩ := q
                                rw [hp] at hI ht
                                have hI : S_ref10_Take l8 0 = _ := hI
                                simp only at ht
                                have := ih (out ++ [(a, b)], l9, 0, [], false, 0, name, true, outer, params, results, locals, [], [], [], [], (k : Int) + 1, ()) ⟨k + 1, _, _, _, rfl, hlt, by simp [hol], .inl ⟨rfl, Nat.le_trans (instrP_len hp) hl8, by
                                  rw [ht, show n - (k + 1) = j by omega]
                                  cases instrsP j l9 <;> simp [withP]⟩⟩ (by simp; omega)
                                simpa [hlt, hI, hol, hr, hw] using this
                            · have hkn : k = n := by omega
                              subst hkn
                              have ht2 : instrsP k l7 = .ok (out, l8) := by rw [ht]; simp [instrsP, withP]
                              rw [ht2]
                              clear ih ht
                              have hL := rf_lines (n := k) hl8 (by omega)
                              simp only [Int.lt_irrefl, if_false, joinK_l, joinK_r]
                              cases h10 : runsP k 0 65535 l8 with
                              | error e =>
                                rw [h10] at hL
                                obtain ⟨he, a, l9, hL⟩ := hL
                                refine ⟨he, l9, ?_⟩
                                by_cases hb : 2 ≤ u8I fl <;> simp [hL, hb, he, rfe_tree he, rfe_runs he, rfe_maps he]
                              | ok q =>
                                obtain ⟨lines, l9⟩ := q
                                rw [h10] at hL
                                have hL : S_ref12_Take l8 0 k = _ := hL
                                have k9 : Len l9 := Nat.le_trans (runsP_len h10).1 hl8
                                dsimp only
                                unfold tablesP
                                by_cases hb : 2 ≤ u8I fl
                                · rw [if_neg (show ¬u8I fl < 2 by omega)]
                                  have hT := rf_tree k9
                                  cases h11 : treeP l9 with
                                  | error e =>
                                    rw [h11] at hT
                                    obtain ⟨he, a, l10, hT⟩ := hT
                                    refine ⟨he, l10, ?_⟩
                                    simp [hL, hb, hT, he, rfe_runs he, rfe_maps he]
                                  | ok q =>
                                    obtain ⟨nodes, l10⟩ := q
                                    obtain ⟨i1, i2⟩ := treeP_len h11
                                    have k10 : Len l10 := Nat.le_trans i1 k9
                                    rw [h11] at hT
                                    have hT : S_ref13_Take l9 0 = _ := hT
                                    have hw : wrp .i64 ((nodes.length : Int) - 1) = (nodes.length : Int) - 1 := wi64 (by omega) (by omega)
                                    dsimp only
                                    have hR := rf_runs (n := k) (lo := 0) (hi := (nodes.length : Int) - 1) k10 (by omega)
                                    cases h12 : runsP k 0 ((nodes.length : Int) - 1) l10 with
                                    | error e =>
                                      rw [h12] at hR
                                      obtain ⟨he, a, l11, hR⟩ := hR
                                      refine ⟨he, l11, ?_⟩
                                      simp [hL, hb, hT, hw, hR, he, rfe_maps he]
                                    | ok q =>
                                      obtain ⟨at', l11⟩ := q
                                      have k11 : Len l11 := Nat.le_trans (runsP_len h12).1 k10
                                      rw [h12] at hR
                                      have hR : S_ref04_Take l10 0 k 0 ((nodes.length : Int) - 1) = _ := hR
                                      dsimp only
                                      have hP := rf_maps (n := k) (k := params.length + results.length + locals.length) k11 (by omega) (by omega)
                                      have hc : ((params.length + results.length + locals.length : Nat) : Int) = (params.length : Int) + results.length + locals.length := by omega
                                      rw [hc] at hP
                                      cases h13 : mapsP k (params.length + results.length + locals.length) l11 with
                                      | error e =>
                                        rw [h13] at hP
                                        obtain ⟨he, a, l12, hP⟩ := hP
                                        refine ⟨he, l12, ?_⟩
                                        simp [hL, hb, hT, hw, hR, hP, he]
                                      | ok q =>
                                        obtain ⟨live, l12⟩ := q
                                        rw [h13] at hP
                                        have hP : S_ref14_Take l11 0 k _ = _ := hP
                                        show _ = some _
                                        simp [hL, hb, hT, hw, hR, hP]
                                · rw [if_pos (show u8I fl < 2 by omega)]
                                  show _ = some _
                                  simp [hL, hb]
                          · rw [ht]
                            refine ⟨he, l8, ?_⟩
                            clear ih
                            by_cases hlt : k < n <;> by_cases hb : 2 ≤ u8I fl <;> simp [hlt, hb, he, rfe_lines he, rfe_tree he, rfe_runs he, rfe_maps he]
end Go.Proofs.YtkdnbnkbnegckaaGreat
