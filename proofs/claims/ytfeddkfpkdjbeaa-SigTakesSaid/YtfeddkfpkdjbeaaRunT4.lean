/- The walk of the reference's Take. -/
import Derived.Test.YtfeddkfpkdjbeaaRunT3
import Derived.Deep.Cut
namespace Go.Proofs.Ytfeddkfpkdjbeaa
open Go.RowKit

theorem RefAt.shape {W : World} {B : Nat} {v : Value} {bs : List UInt8} {er : Int} (h : RefAt W B v bs er) : ∃ ao n cap, v = .agg #[.slice ao n cap, .int .i64 er] := by
  obtain ⟨bs0, ao, cap, rfl, _⟩ := h
  exact ⟨_, _, _, rfl⟩
theorem RefAt.push {W W' : World} {B : Nat} {x : Value} {bs : List UInt8} {er : Int} {base : Nat} {e : TypeId} {size : Nat} {v v' : Value} {n : Nat} {xs : List Value} (h : RefAt W B x bs er) (hown : W.ownsRow base e size v n xs) (hb : B ≤ base) (hg : Grow W W' v v') : RefAt W' B x bs er := by
  obtain ⟨bs0, ao, cap, h1, h2, h3, h4⟩ := h
  refine ⟨bs0, ao, cap, h1, ?_, h3, h4⟩
  by_cases hne : bs0 = []
  · subst hne; exact Cells.nil _ _
  · exact h2.grow hg (fun ad e h => by have := h3.1 hne ad e; have := (hown.lt _ h).1; omega)
theorem RefAt.setF {W : World} {B s : Nat} {x : Value} {bs : List UInt8} {er : Int} (h : RefAt W B x bs er) (hs : B ≤ s) (j : Nat) (v : Value) : RefAt (W.setCell ⟨s, j, none⟩ v) B x bs er := by
  obtain ⟨bs0, ao, cap, h1, h2, h3, h4⟩ := h
  refine ⟨bs0, ao, cap, h1, ?_, h3, h4⟩
  by_cases hne : bs0 = []
  · subst hne; exact Cells.nil _ _
  · exact h2.grown (grown_set W s j v) (fun ad e => by have := h3.1 hne ad e; omega)
theorem Ext.setN {w w' : World} {s : Nat} (h : Ext w w') (hs : w.heap.size ≤ s) (j : Nat) (v : Value) : Ext w (w'.setCell ⟨s, j, none⟩ v) := Below.setCell h.b (p := ⟨s, j, none⟩) hs v
theorem blk_set {W : World} {g s : Nat} {o : Obj} (h : W.heap[g]? = some o) (hs : g ≠ s) (j : Nat) (v : Value) : (W.setCell ⟨s, j, none⟩ v).heap[g]? = some o :=
  (Below.heap_setCell W ⟨s, j, none⟩ v g hs).trans h
theorem own_set {w : World} {base : Nat} {e : TypeId} {size : Nat} {v : Value} {n : Nat} {xs : List Value} {s : Nat} {c : Array Value} {t : TypeId} {fz : Nat × Nat} (h : w.ownsRow base e size v n xs) (hs : w.heap[s]? = some (.cells c t fz)) (ht : t ≠ e) (j : Nat) (u : Value) : (w.setCell ⟨s, j, none⟩ u).ownsRow base e size v n xs :=
  h.kept (grown_set w s j u) (by
    cases hv : v.ownBlock with
    | none => exact .inl rfl
    | some k =>
      refine .inr (fun e2 => ?_)
      cases e2
      rcases h.2 with ⟨h0, _⟩ | ⟨g, cap, cur, hv2, _, hh, _⟩
      · rw [h0] at hv; cases hv
      · rw [hv2] at hv
        simp only [Value.ownBlock, Option.some.injEq] at hv
        subst hv
        rw [hs] at hh
        simp only [Option.some.injEq, Obj.cells.injEq] at hh
        exact ht hh.2.1)
theorem own_cellsAt {w : World} {base : Nat} {e : TypeId} {size n cap : Nat} {ao : Option Addr} {xs : List Value} (h : w.ownsRow base e size (.slice ao n cap) n xs) : Cells w ao xs := by
  obtain ⟨a, c, hv, _, _, hc⟩ := Cells.own h
  cases hv
  exact hc
theorem takeR_err {low high : Int} {n f : Nat} {out : List Int} {bs : List UInt8} {er : Int} (h : er ≠ 0) : takeR low high n (f + 1) out bs er = ([], bs, er) := by
  obtain ⟨h1, h2, h3⟩ := takeR_step (R := takeR low high n (f + 1) out bs er) rfl
  by_cases hn : n ≤ out.length
  · exact h2 hn h
  · have hb : (bitsS bs er).2.2 ≠ 0 := by rw [bitsS_err h]; exact h
    have := (h3 (by omega) _ rfl).1 (by rw [runS_err hb]; exact hb)
    rw [this, runS_err hb, bitsS_err h]

/-- Whether a cursor of the reference has no error yet, as a number. -/
def liveAt (g : Nat) (w : World) : Nat := if intOf ((w.cell? ⟨g, 1, none⟩).getD undef) = 0 then 1 else 0
theorem liveAt_le (g : Nat) (w : World) : liveAt g w ≤ 1 := by unfold liveAt; split <;> omega
theorem liveAt_one {g : Nat} {w : World} (h : w.cell? ⟨g, 1, none⟩ = some (.int .i64 0)) : liveAt g w = 1 := by unfold liveAt; rw [h]; rfl
theorem liveAt_no {g : Nat} {w : World} {e : Int} (h : w.cell? ⟨g, 1, none⟩ = some (.int .i64 e)) (he : e ≠ 0) : liveAt g w = 0 := by
  unfold liveAt; rw [h]; exact if_neg he

/-- What taking a row leaves, by the reference. -/
def RTakeGoes (B : Nat) (R : List Int × List UInt8 × Int) (w : World) (e : Ending) (w' : World) : Prop :=
  ∃ ao cap v, e = .returned (.tuple #[.slice ao R.1.length cap, v]) ∧ Cells w' ao (R.1.map (.int .i64)) ∧ Fresh w.heap.size ao ∧ RefAt w' B v R.2.1 R.2.2 ∧ Ext w w'

set_option maxHeartbeats 4000000 in
set_option maxRecDepth 20000 in
theorem runsref_Take (v0 : Value) (B : Nat) (bs : List UInt8) (er n low high : Int) (w : World) (hr : RefAt w B v0 bs er) (hB : B ≤ w.heap.size) (hl : bs.length ≤ 140737488351232) (hn : n ≤ 1099511627776) (hn0 : -9223372036854775808 ≤ n) :
    Calls Try.prog 66 #[v0, .int .i64 n, .int .i64 low, .int .i64 high] w (RTakeGoes B (takeRow n low high bs er) w) := by
  have HS := Lib.hid (show takeRow n low high bs er = takeR low high n.toNat (n.toNat + 1) [] bs er from rfl)
  generalize takeRow n low high bs er = R at *
  obtain ⟨N, hN⟩ : ∃ N, N = n.toNat := ⟨_, rfl⟩
  rw [← hN] at HS
  have HN := Lib.hid hN
  have HR0 := Lib.hid hr
  obtain ⟨a0, n0, c0, rfl⟩ := hr.shape
  clear hN hr
  go_enter Try.func66, Try.ntmps66
  go_wp2_with fail
  obtain ⟨w0, hw0⟩ : ∃ x, x = (w.alloc (.cells #[.slice a0 n0 c0, .int .i64 er] 83)).alloc (.cells #[.slice none 0 0, .int .i64 0] 83) := ⟨_, rfl⟩
  rw [← hw0]
  have hx0 : Ext w w0 := by rw [hw0]; exact ((Ext.rf w).al _).al _
  have D4 := Lib.hid (show w0.heap[w.heap.size]? = some (.cells #[.slice a0 n0 c0, .int .i64 er] 83 (0, 0)) by rw [hw0]; exact Ext.blk ((Ext.rf _).al _) (alloc_new w _))
  have D9 := Lib.hid (show w0.heap[w.heap.size + 1]? = some (.cells #[.slice none 0 0, .int .i64 0] 83 (0, 0)) by rw [hw0]; exact alloc2 w _ _)
  have HR0 := Lib.hid (HR0.out.ext hx0)
  clear hw0
  go_loopw [10] (fun v wr => ∃ (out : List Int) (bs' : List UInt8) (er' : Int) (f : Nat) (a1 : Option Addr) (n1 c1 : Nat), wr.ownsRow w.heap.size 3 1 v out.length (out.map (.int .i64)) ∧ Hid (RefAt wr B (.agg #[.slice a1 n1 c1, .int .i64 er']) bs' er') ∧ Hid (wr.heap[w.heap.size]? = some (.cells #[.slice a1 n1 c1, .int .i64 er'] 83 (0, 0))) ∧ Hid (wr.heap[w.heap.size + 1]? = some (.cells #[.slice none 0 0, .int .i64 0] 83 (0, 0))) ∧ Ext w wr ∧ N ≤ out.length + f ∧ (out.length ≤ N) ∧ bs'.length ≤ bs.length ∧ Hid (R = takeR low high N (f + 1) out bs' er'))
    (fun v wr => 2 * (N - lenOf v) + liveAt w.heap.size wr)
  case atStart => exact ⟨[], bs, er, N, a0, n0, c0, World.ownsRow_nil _ _ _ _, HR0, D4, D9, hx0, by simp, by simp, Nat.le_refl _, HS⟩
  case round =>
    clear HS HR0 D4 D9 hx0
    obtain ⟨out, bs', er', f, a1, n1, c1, hown, HR, D4, D9, hext, hf, hle, hbs, HT⟩ := hrel
    obtain ⟨ro, rc, rfl⟩ := own_form hown
    have hnN := HN.out
    have hsz := hext.size
    have k0 : wr.cell? ⟨w.heap.size, 0, none⟩ = some (.slice a1 n1 c1) := blk D4.out 0 rfl
    have k1 : wr.cell? ⟨w.heap.size, 1, none⟩ = some (.int .i64 er') := blk D4.out 1 rfl
    by_cases h0 : er' = 0
    · subst h0
      have HLV := Lib.hid (liveAt_one k1)
      by_cases hlt : out.length < N
      · have HST := Lib.hid ((takeR_step HT.out).2.2 hlt _ rfl)
        have HRO := Lib.hid (runS_ok (N - out.length) bs' 0)
        have HUO := Lib.hid (bitsS_ok bs' 0)
        have i1 : (out.length : Int) < n := by omega
        have hsub : n - (out.length : Int) = ((N - out.length : Nat) : Int) := by omega
        have hwl : IntKind.u64.wrap ((N - out.length : Nat) : Int) = ((N - out.length : Nat) : Int) := by rw [IntKind.wrap_u64]; omega
        have HB := Lib.hid (ref_Bits _ B bs' 0 wr HR.out (Nat.le_trans hB hsz) (Nat.le_trans hbs hl))
        have HRF := Lib.hid (runS_form (left := N - out.length) (bs := bs') (er := 0))
        have HRE := Lib.hid (runS_err (left := N - out.length) (bs := bs') (er := 0))
        have HRN := Lib.hid (runS_fine (left := N - out.length) (bs := bs') (er := 0))
        generalize runS (N - out.length) bs' 0 = r at *
        generalize bitsS bs' 0 = U at *
        obtain ⟨f, rfl⟩ : ∃ f', f = f' + 1 := ⟨f - 1, by omega⟩
        clear HT hnN
        go_wp2_with fail
        refine HB.out.mono ?_
        rintro e w1 ⟨v1, rfl, hr1, hx1⟩
        have HR1 := Lib.hid hr1
        obtain ⟨a2, n2, c2, rfl⟩ := hr1.shape
        have hown1 := own_ext hown hx1
        have hext1 := hext.tr hx1
        have D4 := Lib.hid (hx1.blk D4.out)
        have D9 := Lib.hid (hx1.blk D9.out)
        have hs1 := hx1.size
        clear hr1 hx1 HB HR hown hext k0 k1
        have HU := Lib.hid HUO.out.1
        by_cases hu0 : U.2.2 = 0
        · have t1 : (U.2.2 == 0) = true := by simpa using hu0
          by_cases hu1 : U.1 = 0 ∨ N - out.length < U.1
          · have HRR := Lib.hid ((HST.out.1 (by rw [HRF.out hu0 hu1]; show ¬ (5 : Int) = 0; decide)).trans (by rw [HRF.out hu0 hu1]) : R = ([], U.2.1, 5))
            have HFL := Lib.hid (fun w' (hx : Ext w1 w') => ref_Fail _ B U.2.1 U.2.2 5 w' (HR1.out.ext hx) (by have := hx.size; omega))
            rw [show failE U.2.2 5 = 5 by simp [failE, hu0]] at HFL
            have hq : U.1 = 0 ∨ (U.1 ≠ 0 ∧ N - out.length < U.1) := by omega
            clear HRF HRE HRN HST HRO HUO hu0 hu1
            rcases hq with hu1 | ⟨hu1, hu2⟩
            · have t2 : ((U.1 : Int) == 0) = true := by simp; omega
              clear hu1
              go_wp2_with fail
              refine (HFL.out _ ((Ext.rf w1).al _)).mono ?_
              rintro e w5 ⟨v5, rfl, hr5, hx5⟩
              have HR5 := Lib.hid hr5
              obtain ⟨a5, n5, c5, rfl⟩ := hr5.shape
              have D9' := Lib.hid (hx5.blk (((Ext.rf w1).al _).blk D9.out))
              have hext5 := (hext1.al _).tr hx5
              have f0 := frozen_blk D9'.out 0
              have f1 := frozen_blk D9'.out 1
              have e0 := blk D9'.out 0 rfl
              have e1 := blk D9'.out 1 rfl
              clear hr5 hx5
              go_wp2_with fail
              exact bodyPost_ret (ret_tmp_cell (p := 9) (u := 8) rfl rfl (load_ref (set2 D9'.out _ _))) rfl ⟨none, 0, _, by rw [HRR.out] <;> rfl, by rw [HRR.out]; exact Cells.nil _ _, fresh_nil _, by rw [HRR.out]; exact (HR5.out.setF (by omega) _ _).setF (by omega) _ _, (hext5.setN (by omega) _ _).setN (by omega) _ _⟩
            · have t2 : ((U.1 : Int) == 0) = false := by simp; omega
              have t3 : decide (((N - out.length : Nat) : Int) < U.1) = true := decide_eq_true (by omega)
              have t4 : decide (N - out.length < U.1) = true := decide_eq_true hu2
              clear hu1 hu2
              go_wp2_with fail
              refine (HFL.out _ ((Ext.rf w1).al _)).mono ?_
              rintro e w5 ⟨v5, rfl, hr5, hx5⟩
              have HR5 := Lib.hid hr5
              obtain ⟨a5, n5, c5, rfl⟩ := hr5.shape
              have D9' := Lib.hid (hx5.blk (((Ext.rf w1).al _).blk D9.out))
              have hext5 := (hext1.al _).tr hx5
              have f0 := frozen_blk D9'.out 0
              have f1 := frozen_blk D9'.out 1
              have e0 := blk D9'.out 0 rfl
              have e1 := blk D9'.out 1 rfl
              clear hr5 hx5
              go_wp2_with fail
              exact bodyPost_ret (ret_tmp_cell (p := 9) (u := 8) rfl rfl (load_ref (set2 D9'.out _ _))) rfl ⟨none, 0, _, by rw [HRR.out] <;> rfl, by rw [HRR.out]; exact Cells.nil _ _, fresh_nil _, by rw [HRR.out]; exact (HR5.out.setF (by omega) _ _).setF (by omega) _ _, (hext5.setN (by omega) _ _).setN (by omega) _ _⟩
          · have HRR0 := Lib.hid (HRN.out hu0 hu1)
            have hun : U.1 ≠ 0 ∧ U.1 ≤ N - out.length := by omega
            have t2 : ((U.1 : Int) == 0) = false := by simp; omega
            have t3 : decide (((N - out.length : Nat) : Int) < U.1) = false := decide_eq_false (by omega)
            have t4 : decide (N - out.length < U.1) = false := decide_eq_false (by omega)
            have HI := Lib.hid (fun w' (hx : Ext w1 w') => ref_Int _ B U.2.1 U.2.2 w' (HR1.out.ext hx) (by have := hx.size; omega) (by have := HUO.out.2.2; omega))
            have HVO := Lib.hid (bitsS_ok U.2.1 0)
            rw [hu0] at HI
            generalize bitsS U.2.1 0 = V at *
            have HVB := Lib.hid (unfoldI_bounds HVO.out.1)
            generalize unfoldI V.1 = vi at *
            have HUL := Lib.hid (show V.2.1.length ≤ bs.length by have := HUO.out.2.2; have := HVO.out.2.2; omega)
            clear HRF HRE HRN hu1
            by_cases hv0 : V.2.2 = 0
            · have t5 : (V.2.2 == 0) = true := by simpa using hv0
              have HVE := Lib.hid hv0
              clear hv0
              go_wp2_with fail
              refine (HI.out _ ((Ext.rf w1).al _)).mono ?_
              rintro e w3 ⟨v3, rfl, hr3, hx3⟩
              have HR3 := Lib.hid hr3
              obtain ⟨a3, n3, c3, rfl⟩ := hr3.shape
              have hxa3 := Ext.tr ((Ext.rf w1).al _) hx3
              have D4 := Lib.hid (hxa3.blk D4.out)
              have D9 := Lib.hid (hxa3.blk D9.out)
              have hown3 := own_ext hown1 hxa3
              have hext3 := hext1.tr hxa3
              have hs3 := hx3.size
              simp only [World.size_alloc] at hs3
              have hS14 : w.heap.size + 1 + 1 ≤ w3.heap.size := by have := (Array.getElem?_eq_some_iff.1 D9.out).1; omega
              clear hr3 hx3 HI hown1 hext1 hxa3
              go_upto_region 7 with fail
              obtain ⟨w4, hw4⟩ : ∃ x, x = w3.alloc (.cells #[.slice a3 n3 c3, .int .i64 V.2.2] 83) := ⟨_, rfl⟩
              rw [← hw4]
              have hxa : Ext w3 w4 := by rw [hw4]; exact (Ext.rf _).al _
              have D14 := Lib.hid (show w4.heap[w3.heap.size]? = some (.cells #[.slice a3 n3 c3, .int .i64 V.2.2] 83 (0, 0)) by rw [hw4]; exact alloc_new w3 _)
              have D4 := Lib.hid (hxa.blk D4.out)
              have D9 := Lib.hid (hxa.blk D9.out)
              have HR4 := Lib.hid (HR3.out.ext hxa)
              have hown4 := own_ext hown3 hxa
              have hext4 := hext3.tr hxa
              clear hw4 hxa hown3 hext3 HR3 HR1
              generalize w3.heap.size = S at *
              have g0 : w4.cell? ⟨S, 0, none⟩ = some (.slice a3 n3 c3) := blk D14.out 0 rfl
              have g1 : w4.cell? ⟨S, 1, none⟩ = some (.int .i64 V.2.2) := blk D14.out 1 rfl
              have e0 : w4.cell? ⟨w.heap.size, 0, none⟩ = some (.slice a1 n1 c1) := blk D4.out 0 rfl
              have e1 : w4.cell? ⟨w.heap.size, 1, none⟩ = some (.int .i64 0) := blk D4.out 1 rfl
              have f0 := frozen_blk D4.out 0
              have f1 := frozen_blk D4.out 1
              by_cases hk : 0 < out.length
              · have i3 : (0 : Int) ≤ (out.length : Int) - 1 := by omega
                have i4 : (out.length : Int) - 1 < out.length := by omega
                have t6 : decide ((0 : Int) < out.length) = true := decide_eq_true (by omega)
                have t6n : decide (0 < out.length) = true := decide_eq_true hk
                obtain ⟨gb, rc1, he⟩ := own_some hown4 hk
                cases he
                obtain ⟨ao1, rc2, hv, -, -, hcc⟩ := Cells.own hown4
                cases hv
                obtain ⟨b2, off2, e2, c2⟩ := hcc.at (k := out.length - 1) (by simp; omega)
                cases e2
                simp only [List.getElem_map, Nat.zero_add] at c2
                have hlast : out.getLast? = some out[out.length - 1] := by rw [List.getLast?_eq_getElem?, List.getElem?_eq_getElem]
                generalize out[out.length - 1] = la at *
                clear hcc
                by_cases h1 : la = vi
                · have t3' : (la == vi) = true := by simpa using h1
                  have HRR := Lib.hid ((HST.out.2.1 (by rw [HRR0.out]; exact HVE.out) (by rw [HRR0.out, hlast, h1])).trans (by rw [HRR0.out]) : R = ([], V.2.1, 5))
                  clear hlast h1
                  have HFL := Lib.hid (fun w' (hx : Ext w4 w') => ref_Fail _ B V.2.1 V.2.2 5 w' (HR4.out.ext hx) (by have := hx.size; have := hext4.size; omega))
                  rw [show failE V.2.2 5 = 5 by simp [failE, HVE.out]] at HFL
                  go_wp2_with fail
                  refine (HFL.out _ (Ext.rf _)).mono ?_
                  rintro e w5 ⟨v5, rfl, hr5, hx5⟩
                  have HR5 := Lib.hid hr5
                  obtain ⟨a5, n5, c5, rfl⟩ := hr5.shape
                  have D9' := Lib.hid (hx5.blk D9.out)
                  have hext5 := hext4.tr hx5
                  have f0 := frozen_blk D9'.out 0
                  have f1 := frozen_blk D9'.out 1
                  have e0 := blk D9'.out 0 rfl
                  have e1 := blk D9'.out 1 rfl
                  clear hr5 hx5
                  go_wp2_with fail
                  exact bodyPost_ret (ret_tmp_cell (p := 9) (u := 8) rfl rfl (load_ref (set2 D9'.out _ _))) rfl ⟨none, 0, _, by rw [HRR.out] <;> rfl, by rw [HRR.out]; exact Cells.nil _ _, fresh_nil _, by rw [HRR.out]; exact (HR5.out.setF (by omega) _ _).setF (by omega) _ _, (hext5.setN (by omega) _ _).setN (by omega) _ _⟩
                · have t3' : (la == vi) = false := by simpa using h1
                  have HNE := Lib.hid (show out.getLast? ≠ some vi by rw [hlast]; intro e; exact h1 (Option.some.inj e))
                  clear hlast h1
                  by_cases hr1 : vi < low
                  · have t7 : decide (vi < low) = true := decide_eq_true hr1
                    have HRR := Lib.hid ((HST.out.2.2.1 (by rw [HRR0.out]; exact HVE.out) (by rw [HRR0.out]; exact HNE.out) (by rw [HRR0.out]; exact .inl hr1)).trans (by rw [HRR0.out]) : R = ([], V.2.1, 2))
                    clear hr1
                    have HFL := Lib.hid (fun w' (hx : Ext w4 w') => ref_Fail _ B V.2.1 V.2.2 2 w' (HR4.out.ext hx) (by have := hx.size; have := hext4.size; omega))
                    rw [show failE V.2.2 2 = 2 by simp [failE, HVE.out]] at HFL
                    go_wp2_with fail
                    refine (HFL.out _ (Ext.rf _)).mono ?_
                    rintro e w5 ⟨v5, rfl, hr5, hx5⟩
                    have HR5 := Lib.hid hr5
                    obtain ⟨a5, n5, c5, rfl⟩ := hr5.shape
                    have D9' := Lib.hid (hx5.blk D9.out)
                    have hext5 := hext4.tr hx5
                    have f0 := frozen_blk D9'.out 0
                    have f1 := frozen_blk D9'.out 1
                    have e0 := blk D9'.out 0 rfl
                    have e1 := blk D9'.out 1 rfl
                    clear hr5 hx5
                    go_wp2_with fail
                    exact bodyPost_ret (ret_tmp_cell (p := 9) (u := 8) rfl rfl (load_ref (set2 D9'.out _ _))) rfl ⟨none, 0, _, by rw [HRR.out] <;> rfl, by rw [HRR.out]; exact Cells.nil _ _, fresh_nil _, by rw [HRR.out]; exact (HR5.out.setF (by omega) _ _).setF (by omega) _ _, (hext5.setN (by omega) _ _).setN (by omega) _ _⟩
                  · have t7 : decide (vi < low) = false := decide_eq_false hr1
                    by_cases hr2 : high < vi
                    · have t8 : decide (high < vi) = true := decide_eq_true hr2
                      have HRR := Lib.hid ((HST.out.2.2.1 (by rw [HRR0.out]; exact HVE.out) (by rw [HRR0.out]; exact HNE.out) (by rw [HRR0.out]; exact .inr hr2)).trans (by rw [HRR0.out]) : R = ([], V.2.1, 2))
                      clear hr1 hr2
                      have HFL := Lib.hid (fun w' (hx : Ext w4 w') => ref_Fail _ B V.2.1 V.2.2 2 w' (HR4.out.ext hx) (by have := hx.size; have := hext4.size; omega))
                      rw [show failE V.2.2 2 = 2 by simp [failE, HVE.out]] at HFL
                      go_wp2_with fail
                      refine (HFL.out _ (Ext.rf _)).mono ?_
                      rintro e w5 ⟨v5, rfl, hr5, hx5⟩
                      have HR5 := Lib.hid hr5
                      obtain ⟨a5, n5, c5, rfl⟩ := hr5.shape
                      have D9' := Lib.hid (hx5.blk D9.out)
                      have hext5 := hext4.tr hx5
                      have f0 := frozen_blk D9'.out 0
                      have f1 := frozen_blk D9'.out 1
                      have e0 := blk D9'.out 0 rfl
                      have e1 := blk D9'.out 1 rfl
                      clear hr5 hx5
                      go_wp2_with fail
                      exact bodyPost_ret (ret_tmp_cell (p := 9) (u := 8) rfl rfl (load_ref (set2 D9'.out _ _))) rfl ⟨none, 0, _, by rw [HRR.out] <;> rfl, by rw [HRR.out]; exact Cells.nil _ _, fresh_nil _, by rw [HRR.out]; exact (HR5.out.setF (by omega) _ _).setF (by omega) _ _, (hext5.setN (by omega) _ _).setN (by omega) _ _⟩
                    · have t8 : decide (high < vi) = false := decide_eq_false hr2
                      have HRR := Lib.hid ((HST.out.2.2.2 (by rw [HRR0.out]; exact HVE.out) (by rw [HRR0.out]; exact HNE.out) (by rw [HRR0.out]; show ¬ (vi < low ∨ high < vi); omega)).trans (by rw [HRR0.out]) : R = takeR low high N (f + 1) (out ++ List.replicate U.1 vi) V.2.1 0)
                      have t9 : decide ((0 : Int) < U.1) = true := decide_eq_true (by omega)
                      clear hr1 hr2 HST
                      go_wp2_with fail
                      obtain ⟨w5, hw5⟩ : ∃ x, x = (w4.setCell ⟨w.heap.size, 0, none⟩ (.slice a3 n3 c3)).setCell ⟨w.heap.size, 1, none⟩ (.int .i64 V.2.2) := ⟨_, rfl⟩
                      rw [← hw5]
                      have D5 := Lib.hid (show w5.heap[w.heap.size]? = some (.cells #[.slice a3 n3 c3, .int .i64 V.2.2] 83 (0, 0)) by rw [hw5]; exact set2 D4.out _ _)
                      have D59 := Lib.hid (show w5.heap[w.heap.size + 1]? = some (.cells #[.slice none 0 0, .int .i64 0] 83 (0, 0)) by rw [hw5]; exact blk_set (blk_set D9.out (by omega) _ _) (by omega) _ _)
                      have D54 := Lib.hid (show w5.heap[S]? = some (.cells #[.slice a3 n3 c3, .int .i64 V.2.2] 83 (0, 0)) by rw [hw5]; exact blk_set (blk_set D14.out (by omega) _ _) (by omega) _ _)
                      have HR5 := Lib.hid (show RefAt w5 B (.agg #[.slice a3 n3 c3, .int .i64 V.2.2]) V.2.1 V.2.2 by rw [hw5]; exact (HR4.out.setF hB _ _).setF hB _ _)
                      have hown5 := own_set (own_set hown4 D4.out (by decide) 0 (.slice a3 n3 c3)) (set_blk D4.out 0 _) (by decide) 1 (.int .i64 V.2.2)
                      rw [← hw5] at hown5
                      have hext5 : Ext w w5 := by rw [hw5]; exact (hext4.setN (Nat.le_refl _) _ _).setN (Nat.le_refl _) _ _
                      clear hw5 g0 g1 e0 e1 f0 f1 D4 D9 D14 HR4 hown4 hext4
                      go_loopw [15, 10] (fun i v wq => ∃ j : Nat, j ≤ U.1 ∧ i = .int .u64 j ∧ wq.ownsRow w.heap.size 3 1 v (out.length + j) ((out ++ List.replicate j vi).map (.int .i64)) ∧ Hid (RefAt wq B (.agg #[.slice a3 n3 c3, .int .i64 V.2.2]) V.2.1 V.2.2) ∧
                          Hid (wq.heap[w.heap.size]? = some (.cells #[.slice a3 n3 c3, .int .i64 V.2.2] 83 (0, 0))) ∧ Hid (wq.heap[w.heap.size + 1]? = some (.cells #[.slice none 0 0, .int .i64 0] 83 (0, 0))) ∧ Hid (wq.heap[S]? = some (.cells #[.slice a3 n3 c3, .int .i64 V.2.2] 83 (0, 0))) ∧ Ext w wq)
                        (fun i _ _ => U.1 - (intOf i).toNat)
                      case atStart => exact ⟨0, Nat.zero_le _, rfl, by simpa using hown5, HR5, D5, D59, D54, hext5⟩
                      case round =>
                        clear hown5 HR5 D5 D59 D54 hext5
                        obtain ⟨j, hj, rfl, hown2, HR2, D4, D9, D14, hext2⟩ := hrel
                        obtain ⟨ro2, rc2, rfl⟩ := own_form hown2
                        have g1 := blk D14.out 1 rfl
                        by_cases hjm : j < U.1
                        · have j1 : (j : Int) < U.1 := by omega
                          have hle3 : out.length + j ≤ N := by omega
                          go_wp2_with (at_builtin; (refine wpList_push rfl (.tmp 99) (.tmp 101) 36 rfl w.heap.size 3 3 (.int .i64 0) 1 8 Try.underlying36 (by kernel_rfl) rfl (by decide) _ (out.length + j) _ [.int .i64 vi] rfl hown2 _ rfl (by simp) rfl (by simp [Value.oneCell']) (by unfold maxLen; omega) (by omega) hext2.size ?_; intro v' w1 hown1 hgr; have hext1 := hext2.push hown2 (Nat.le_refl _) hgr; have D4 := Lib.hid (push_keepsT hown2 hgr D4.out (by decide)); have D9 := Lib.hid (push_keepsT hown2 hgr D9.out (by decide)); have D14 := Lib.hid (push_keepsT hown2 hgr D14.out (by decide)); have HR3 := Lib.hid (HR2.out.push hown2 hB hgr); clear hgr hown2 hext2 g1 HR2))
                          go_roundw
                          case rel => exact ⟨j + 1, by omega, by go_num, by rw [List.replicate_succ', ← List.append_assoc]; simpa [Nat.add_assoc] using hown1, HR3, D4, D9, D14, hext1⟩
                          case measure => simp [intOf]; omega
                        · obtain rfl : j = U.1 := by omega
                          have j1 : decide ((U.1 : Int) < U.1) = false := decide_eq_false (by omega)
                          have hl2 := fun x => liveAt_le w.heap.size x
                          go_wp2_with fail
                          go_roundw
                          case rel => exact ⟨out ++ List.replicate U.1 vi, V.2.1, V.2.2, f, a3, n3, c3, by rw [List.length_append, List.length_replicate]; exact hown2, HR2, D4, D9, hext2, by rw [List.length_append, List.length_replicate]; omega, by rw [List.length_append, List.length_replicate]; omega, HUL.out, by rw [HVE.out]; exact HRR⟩
                          case measure =>
                            refine Nat.lt_of_le_of_lt (Nat.add_le_add_left (hl2 _) _) ?_
                            simp [lenOf, HLV.out]; omega
              · have t6 : decide ((0 : Int) < out.length) = false := decide_eq_false (by omega)
                have t6n : decide (0 < out.length) = false := decide_eq_false hk
                have HNE := Lib.hid (show out.getLast? ≠ some vi by rw [List.eq_nil_of_length_eq_zero (show out.length = 0 by omega)]; simp)
                by_cases hr1 : vi < low
                · have t7 : decide (vi < low) = true := decide_eq_true hr1
                  have HRR := Lib.hid ((HST.out.2.2.1 (by rw [HRR0.out]; exact HVE.out) (by rw [HRR0.out]; exact HNE.out) (by rw [HRR0.out]; exact .inl hr1)).trans (by rw [HRR0.out]) : R = ([], V.2.1, 2))
                  clear hr1
                  have HFL := Lib.hid (fun w' (hx : Ext w4 w') => ref_Fail _ B V.2.1 V.2.2 2 w' (HR4.out.ext hx) (by have := hx.size; have := hext4.size; omega))
                  rw [show failE V.2.2 2 = 2 by simp [failE, HVE.out]] at HFL
                  go_wp2_with fail
                  refine (HFL.out _ (Ext.rf _)).mono ?_
                  rintro e w5 ⟨v5, rfl, hr5, hx5⟩
                  have HR5 := Lib.hid hr5
                  obtain ⟨a5, n5, c5, rfl⟩ := hr5.shape
                  have D9' := Lib.hid (hx5.blk D9.out)
                  have hext5 := hext4.tr hx5
                  have f0 := frozen_blk D9'.out 0
                  have f1 := frozen_blk D9'.out 1
                  have e0 := blk D9'.out 0 rfl
                  have e1 := blk D9'.out 1 rfl
                  clear hr5 hx5
                  go_wp2_with fail
                  exact bodyPost_ret (ret_tmp_cell (p := 9) (u := 8) rfl rfl (load_ref (set2 D9'.out _ _))) rfl ⟨none, 0, _, by rw [HRR.out] <;> rfl, by rw [HRR.out]; exact Cells.nil _ _, fresh_nil _, by rw [HRR.out]; exact (HR5.out.setF (by omega) _ _).setF (by omega) _ _, (hext5.setN (by omega) _ _).setN (by omega) _ _⟩
                · have t7 : decide (vi < low) = false := decide_eq_false hr1
                  by_cases hr2 : high < vi
                  · have t8 : decide (high < vi) = true := decide_eq_true hr2
                    have HRR := Lib.hid ((HST.out.2.2.1 (by rw [HRR0.out]; exact HVE.out) (by rw [HRR0.out]; exact HNE.out) (by rw [HRR0.out]; exact .inr hr2)).trans (by rw [HRR0.out]) : R = ([], V.2.1, 2))
                    clear hr1 hr2
                    have HFL := Lib.hid (fun w' (hx : Ext w4 w') => ref_Fail _ B V.2.1 V.2.2 2 w' (HR4.out.ext hx) (by have := hx.size; have := hext4.size; omega))
                    rw [show failE V.2.2 2 = 2 by simp [failE, HVE.out]] at HFL
                    go_wp2_with fail
                    refine (HFL.out _ (Ext.rf _)).mono ?_
                    rintro e w5 ⟨v5, rfl, hr5, hx5⟩
                    have HR5 := Lib.hid hr5
                    obtain ⟨a5, n5, c5, rfl⟩ := hr5.shape
                    have D9' := Lib.hid (hx5.blk D9.out)
                    have hext5 := hext4.tr hx5
                    have f0 := frozen_blk D9'.out 0
                    have f1 := frozen_blk D9'.out 1
                    have e0 := blk D9'.out 0 rfl
                    have e1 := blk D9'.out 1 rfl
                    clear hr5 hx5
                    go_wp2_with fail
                    exact bodyPost_ret (ret_tmp_cell (p := 9) (u := 8) rfl rfl (load_ref (set2 D9'.out _ _))) rfl ⟨none, 0, _, by rw [HRR.out] <;> rfl, by rw [HRR.out]; exact Cells.nil _ _, fresh_nil _, by rw [HRR.out]; exact (HR5.out.setF (by omega) _ _).setF (by omega) _ _, (hext5.setN (by omega) _ _).setN (by omega) _ _⟩
                  · have t8 : decide (high < vi) = false := decide_eq_false hr2
                    have HRR := Lib.hid ((HST.out.2.2.2 (by rw [HRR0.out]; exact HVE.out) (by rw [HRR0.out]; exact HNE.out) (by rw [HRR0.out]; show ¬ (vi < low ∨ high < vi); omega)).trans (by rw [HRR0.out]) : R = takeR low high N (f + 1) (out ++ List.replicate U.1 vi) V.2.1 0)
                    have t9 : decide ((0 : Int) < U.1) = true := decide_eq_true (by omega)
                    clear hr1 hr2 HST
                    go_wp2_with fail
                    obtain ⟨w5, hw5⟩ : ∃ x, x = (w4.setCell ⟨w.heap.size, 0, none⟩ (.slice a3 n3 c3)).setCell ⟨w.heap.size, 1, none⟩ (.int .i64 V.2.2) := ⟨_, rfl⟩
                    rw [← hw5]
                    have D5 := Lib.hid (show w5.heap[w.heap.size]? = some (.cells #[.slice a3 n3 c3, .int .i64 V.2.2] 83 (0, 0)) by rw [hw5]; exact set2 D4.out _ _)
                    have D59 := Lib.hid (show w5.heap[w.heap.size + 1]? = some (.cells #[.slice none 0 0, .int .i64 0] 83 (0, 0)) by rw [hw5]; exact blk_set (blk_set D9.out (by omega) _ _) (by omega) _ _)
                    have D54 := Lib.hid (show w5.heap[S]? = some (.cells #[.slice a3 n3 c3, .int .i64 V.2.2] 83 (0, 0)) by rw [hw5]; exact blk_set (blk_set D14.out (by omega) _ _) (by omega) _ _)
                    have HR5 := Lib.hid (show RefAt w5 B (.agg #[.slice a3 n3 c3, .int .i64 V.2.2]) V.2.1 V.2.2 by rw [hw5]; exact (HR4.out.setF hB _ _).setF hB _ _)
                    have hown5 := own_set (own_set hown4 D4.out (by decide) 0 (.slice a3 n3 c3)) (set_blk D4.out 0 _) (by decide) 1 (.int .i64 V.2.2)
                    rw [← hw5] at hown5
                    have hext5 : Ext w w5 := by rw [hw5]; exact (hext4.setN (Nat.le_refl _) _ _).setN (Nat.le_refl _) _ _
                    clear hw5 g0 g1 e0 e1 f0 f1 D4 D9 D14 HR4 hown4 hext4
                    go_loopw [15, 10] (fun i v wq => ∃ j : Nat, j ≤ U.1 ∧ i = .int .u64 j ∧ wq.ownsRow w.heap.size 3 1 v (out.length + j) ((out ++ List.replicate j vi).map (.int .i64)) ∧ Hid (RefAt wq B (.agg #[.slice a3 n3 c3, .int .i64 V.2.2]) V.2.1 V.2.2) ∧
                        Hid (wq.heap[w.heap.size]? = some (.cells #[.slice a3 n3 c3, .int .i64 V.2.2] 83 (0, 0))) ∧ Hid (wq.heap[w.heap.size + 1]? = some (.cells #[.slice none 0 0, .int .i64 0] 83 (0, 0))) ∧ Hid (wq.heap[S]? = some (.cells #[.slice a3 n3 c3, .int .i64 V.2.2] 83 (0, 0))) ∧ Ext w wq)
                      (fun i _ _ => U.1 - (intOf i).toNat)
                    case atStart => exact ⟨0, Nat.zero_le _, rfl, by simpa using hown5, HR5, D5, D59, D54, hext5⟩
                    case round =>
                      clear hown5 HR5 D5 D59 D54 hext5
                      obtain ⟨j, hj, rfl, hown2, HR2, D4, D9, D14, hext2⟩ := hrel
                      obtain ⟨ro2, rc2, rfl⟩ := own_form hown2
                      have g1 := blk D14.out 1 rfl
                      by_cases hjm : j < U.1
                      · have j1 : (j : Int) < U.1 := by omega
                        have hle3 : out.length + j ≤ N := by omega
                        go_wp2_with (at_builtin; (refine wpList_push rfl (.tmp 99) (.tmp 101) 36 rfl w.heap.size 3 3 (.int .i64 0) 1 8 Try.underlying36 (by kernel_rfl) rfl (by decide) _ (out.length + j) _ [.int .i64 vi] rfl hown2 _ rfl (by simp) rfl (by simp [Value.oneCell']) (by unfold maxLen; omega) (by omega) hext2.size ?_; intro v' w1 hown1 hgr; have hext1 := hext2.push hown2 (Nat.le_refl _) hgr; have D4 := Lib.hid (push_keepsT hown2 hgr D4.out (by decide)); have D9 := Lib.hid (push_keepsT hown2 hgr D9.out (by decide)); have D14 := Lib.hid (push_keepsT hown2 hgr D14.out (by decide)); have HR3 := Lib.hid (HR2.out.push hown2 hB hgr); clear hgr hown2 hext2 g1 HR2))
                        go_roundw
                        case rel => exact ⟨j + 1, by omega, by go_num, by rw [List.replicate_succ', ← List.append_assoc]; simpa [Nat.add_assoc] using hown1, HR3, D4, D9, D14, hext1⟩
                        case measure => simp [intOf]; omega
                      · obtain rfl : j = U.1 := by omega
                        have j1 : decide ((U.1 : Int) < U.1) = false := decide_eq_false (by omega)
                        have hl2 := fun x => liveAt_le w.heap.size x
                        go_wp2_with fail
                        go_roundw
                        case rel => exact ⟨out ++ List.replicate U.1 vi, V.2.1, V.2.2, f, a3, n3, c3, by rw [List.length_append, List.length_replicate]; exact hown2, HR2, D4, D9, hext2, by rw [List.length_append, List.length_replicate]; omega, by rw [List.length_append, List.length_replicate]; omega, HUL.out, by rw [HVE.out]; exact HRR⟩
                        case measure =>
                          refine Nat.lt_of_le_of_lt (Nat.add_le_add_left (hl2 _) _) ?_
                          simp [lenOf, HLV.out]; omega
            · have t5 : (V.2.2 == 0) = false := by simpa using hv0
              have HRR := Lib.hid ((HST.out.1 (by rw [HRR0.out]; exact hv0)).trans (by rw [HRR0.out]) : R = ([], V.2.1, V.2.2))
              have HVE := Lib.hid hv0
              have tk : decide ((0 : Int) < U.1) = true := decide_eq_true (by omega)
              have tkn : decide (0 < U.1) = true := decide_eq_true (by omega)
              clear HST hv0 HRR0
              go_wp2_with fail
              refine (HI.out _ ((Ext.rf w1).al _)).mono ?_
              rintro e w3 ⟨v3, rfl, hr3, hx3⟩
              have HR3 := Lib.hid hr3
              obtain ⟨a3, n3, c3, rfl⟩ := hr3.shape
              have hxa3 := Ext.tr ((Ext.rf w1).al _) hx3
              have D4 := Lib.hid (hxa3.blk D4.out)
              have D9 := Lib.hid (hxa3.blk D9.out)
              have hown3 := own_ext hown1 hxa3
              have hext3 := hext1.tr hxa3
              have hs3 := hx3.size
              simp only [World.size_alloc] at hs3
              have hS14 : w.heap.size + 1 + 1 ≤ w3.heap.size := by have := (Array.getElem?_eq_some_iff.1 D9.out).1; omega
              clear hr3 hx3 HI hown1 hext1 hxa3
              go_upto_region 7 with fail
              obtain ⟨w4, hw4⟩ : ∃ x, x = w3.alloc (.cells #[.slice a3 n3 c3, .int .i64 V.2.2] 83) := ⟨_, rfl⟩
              rw [← hw4]
              have hxa : Ext w3 w4 := by rw [hw4]; exact (Ext.rf _).al _
              have D14 := Lib.hid (show w4.heap[w3.heap.size]? = some (.cells #[.slice a3 n3 c3, .int .i64 V.2.2] 83 (0, 0)) by rw [hw4]; exact alloc_new w3 _)
              have D4 := Lib.hid (hxa.blk D4.out)
              have D9 := Lib.hid (hxa.blk D9.out)
              have HR4 := Lib.hid (HR3.out.ext hxa)
              have hown4 := own_ext hown3 hxa
              have hext4 := hext3.tr hxa
              clear hw4 hxa hown3 hext3 HR3 HR1
              generalize w3.heap.size = S at *
              have g0 : w4.cell? ⟨S, 0, none⟩ = some (.slice a3 n3 c3) := blk D14.out 0 rfl
              have g1 : w4.cell? ⟨S, 1, none⟩ = some (.int .i64 V.2.2) := blk D14.out 1 rfl
              have e0 : w4.cell? ⟨w.heap.size, 0, none⟩ = some (.slice a1 n1 c1) := blk D4.out 0 rfl
              have e1 : w4.cell? ⟨w.heap.size, 1, none⟩ = some (.int .i64 0) := blk D4.out 1 rfl
              have f0 := frozen_blk D4.out 0
              have f1 := frozen_blk D4.out 1
              go_wp2_with fail
              obtain ⟨w5, hw5⟩ : ∃ x, x = (w4.setCell ⟨w.heap.size, 0, none⟩ (.slice a3 n3 c3)).setCell ⟨w.heap.size, 1, none⟩ (.int .i64 V.2.2) := ⟨_, rfl⟩
              rw [← hw5]
              have D5 := Lib.hid (show w5.heap[w.heap.size]? = some (.cells #[.slice a3 n3 c3, .int .i64 V.2.2] 83 (0, 0)) by rw [hw5]; exact set2 D4.out _ _)
              have D59 := Lib.hid (show w5.heap[w.heap.size + 1]? = some (.cells #[.slice none 0 0, .int .i64 0] 83 (0, 0)) by rw [hw5]; exact blk_set (blk_set D9.out (by omega) _ _) (by omega) _ _)
              have D54 := Lib.hid (show w5.heap[S]? = some (.cells #[.slice a3 n3 c3, .int .i64 V.2.2] 83 (0, 0)) by rw [hw5]; exact blk_set (blk_set D14.out (by omega) _ _) (by omega) _ _)
              have HR5 := Lib.hid (show RefAt w5 B (.agg #[.slice a3 n3 c3, .int .i64 V.2.2]) V.2.1 V.2.2 by rw [hw5]; exact (HR4.out.setF hB _ _).setF hB _ _)
              have hown5 := own_set (own_set hown4 D4.out (by decide) 0 (.slice a3 n3 c3)) (set_blk D4.out 0 _) (by decide) 1 (.int .i64 V.2.2)
              rw [← hw5] at hown5
              have hext5 : Ext w w5 := by rw [hw5]; exact (hext4.setN (Nat.le_refl _) _ _).setN (Nat.le_refl _) _ _
              clear hw5 g0 g1 e0 e1 f0 f1 D4 D9 D14 HR4 hown4 hext4
              have g1 : w5.cell? ⟨S, 1, none⟩ = some (.int .i64 V.2.2) := blk D54.out 1 rfl
              have h5 := liveAt_no (blk D5.out 1 rfl) HVE.out
              go_loopw [15, 10] (fun i v wq => i = .int .u64 0 ∧ v = .slice ro out.length rc ∧ wq = w5) (fun _ _ _ => 0)
              case atStart => exact ⟨rfl, rfl, rfl⟩
              case round =>
                obtain ⟨rfl, rfl, rfl⟩ := hrel
                go_wp2_with fail
                go_roundw
                case rel => exact ⟨out, V.2.1, V.2.2, f + 1, a3, n3, c3, hown5, HR5, D5, D59, hext5, by omega, hle, HUL.out, Lib.hid (HRR.out.trans (takeR_err HVE.out).symm)⟩
                case measure => simp [lenOf, h5, HLV.out]
        · have t1 : (U.2.2 == 0) = false := by simpa using hu0
          have HRR0 := Lib.hid ((HST.out.1 (by rw [HRE.out hu0]; exact hu0)).trans (by rw [HRE.out hu0]) : R = ([], U.2.1, U.2.2))
          have hU1 := HUO.out.2.1 hu0
          have HI := Lib.hid (fun w' (hx : Ext w1 w') => ref_Int _ B U.2.1 U.2.2 w' (HR1.out.ext hx) (by have := hx.size; omega) (by have := HUO.out.2.2; omega))
          rw [bitsS_err hu0] at HI
          generalize hV : ((0 : Nat), U.2.1, U.2.2) = V at HI
          generalize unfoldI V.1 = vi at HI
          have HVE : Hid (V.2.2 ≠ 0) := by rw [← hV]; exact hu0
          have HRR : Hid (R = ([], V.2.1, V.2.2)) := by rw [← hV]; exact HRR0.out
          have HUL : Hid (V.2.1.length ≤ bs.length) := by rw [← hV]; have := HUO.out.2.2; show U.2.1.length ≤ _; omega
          have t5 : (V.2.2 == 0) = false := by rw [← hV]; exact t1
          clear HST hu0 HRF HRE HRN hV HRR0
          have tk : decide ((0 : Int) < U.1) = false := by rw [hU1]; rfl
          go_wp2_with fail
          refine (HI.out _ ((Ext.rf w1).al _)).mono ?_
          rintro e w3 ⟨v3, rfl, hr3, hx3⟩
          have HR3 := Lib.hid hr3
          obtain ⟨a3, n3, c3, rfl⟩ := hr3.shape
          have hxa3 := Ext.tr ((Ext.rf w1).al _) hx3
          have D4 := Lib.hid (hxa3.blk D4.out)
          have D9 := Lib.hid (hxa3.blk D9.out)
          have hown3 := own_ext hown1 hxa3
          have hext3 := hext1.tr hxa3
          have hs3 := hx3.size
          simp only [World.size_alloc] at hs3
          have hS14 : w.heap.size + 1 + 1 ≤ w3.heap.size := by have := (Array.getElem?_eq_some_iff.1 D9.out).1; omega
          clear hr3 hx3 HI hown1 hext1 hxa3
          go_upto_region 7 with fail
          obtain ⟨w4, hw4⟩ : ∃ x, x = w3.alloc (.cells #[.slice a3 n3 c3, .int .i64 V.2.2] 83) := ⟨_, rfl⟩
          rw [← hw4]
          have hxa : Ext w3 w4 := by rw [hw4]; exact (Ext.rf _).al _
          have D14 := Lib.hid (show w4.heap[w3.heap.size]? = some (.cells #[.slice a3 n3 c3, .int .i64 V.2.2] 83 (0, 0)) by rw [hw4]; exact alloc_new w3 _)
          have D4 := Lib.hid (hxa.blk D4.out)
          have D9 := Lib.hid (hxa.blk D9.out)
          have HR4 := Lib.hid (HR3.out.ext hxa)
          have hown4 := own_ext hown3 hxa
          have hext4 := hext3.tr hxa
          clear hw4 hxa hown3 hext3 HR3 HR1
          generalize w3.heap.size = S at *
          have g0 : w4.cell? ⟨S, 0, none⟩ = some (.slice a3 n3 c3) := blk D14.out 0 rfl
          have g1 : w4.cell? ⟨S, 1, none⟩ = some (.int .i64 V.2.2) := blk D14.out 1 rfl
          have e0 : w4.cell? ⟨w.heap.size, 0, none⟩ = some (.slice a1 n1 c1) := blk D4.out 0 rfl
          have e1 : w4.cell? ⟨w.heap.size, 1, none⟩ = some (.int .i64 0) := blk D4.out 1 rfl
          have f0 := frozen_blk D4.out 0
          have f1 := frozen_blk D4.out 1
          go_wp2_with fail
          obtain ⟨w5, hw5⟩ : ∃ x, x = (w4.setCell ⟨w.heap.size, 0, none⟩ (.slice a3 n3 c3)).setCell ⟨w.heap.size, 1, none⟩ (.int .i64 V.2.2) := ⟨_, rfl⟩
          rw [← hw5]
          have D5 := Lib.hid (show w5.heap[w.heap.size]? = some (.cells #[.slice a3 n3 c3, .int .i64 V.2.2] 83 (0, 0)) by rw [hw5]; exact set2 D4.out _ _)
          have D59 := Lib.hid (show w5.heap[w.heap.size + 1]? = some (.cells #[.slice none 0 0, .int .i64 0] 83 (0, 0)) by rw [hw5]; exact blk_set (blk_set D9.out (by omega) _ _) (by omega) _ _)
          have D54 := Lib.hid (show w5.heap[S]? = some (.cells #[.slice a3 n3 c3, .int .i64 V.2.2] 83 (0, 0)) by rw [hw5]; exact blk_set (blk_set D14.out (by omega) _ _) (by omega) _ _)
          have HR5 := Lib.hid (show RefAt w5 B (.agg #[.slice a3 n3 c3, .int .i64 V.2.2]) V.2.1 V.2.2 by rw [hw5]; exact (HR4.out.setF hB _ _).setF hB _ _)
          have hown5 := own_set (own_set hown4 D4.out (by decide) 0 (.slice a3 n3 c3)) (set_blk D4.out 0 _) (by decide) 1 (.int .i64 V.2.2)
          rw [← hw5] at hown5
          have hext5 : Ext w w5 := by rw [hw5]; exact (hext4.setN (Nat.le_refl _) _ _).setN (Nat.le_refl _) _ _
          clear hw5 g0 g1 e0 e1 f0 f1 D4 D9 D14 HR4 hown4 hext4
          have g1 : w5.cell? ⟨S, 1, none⟩ = some (.int .i64 V.2.2) := blk D54.out 1 rfl
          have h5 := liveAt_no (blk D5.out 1 rfl) HVE.out
          go_loopw [15, 10] (fun i v wq => i = .int .u64 0 ∧ v = .slice ro out.length rc ∧ wq = w5) (fun _ _ _ => 0)
          case atStart => exact ⟨rfl, rfl, rfl⟩
          case round =>
            obtain ⟨rfl, rfl, rfl⟩ := hrel
            go_wp2_with fail
            go_roundw
            case rel => exact ⟨out, V.2.1, V.2.2, f + 1, a3, n3, c3, hown5, HR5, D5, D59, hext5, by omega, hle, HUL.out, Lib.hid (HRR.out.trans (takeR_err HVE.out).symm)⟩
            case measure => simp [lenOf, h5, HLV.out]
      · have i1 : decide ((out.length : Int) < n) = false := decide_eq_false (by omega)
        have HRR := Lib.hid ((takeR_step HT.out).1 (by omega) rfl)
        obtain ⟨ao', cap', hv, hcc, hfr⟩ := own_cells hown
        cases hv
        have f0 := frozen_blk D9.out 0
        have f1 := frozen_blk D9.out 1
        have e0 := blk D9.out 0 rfl
        have e1 := blk D9.out 1 rfl
        have HCC := Lib.hid hcc
        have HOW := Lib.hid hown
        have HFR := Lib.hid hfr
        clear HT hnN hown hfr hcc
        go_wp2_with fail
        go_region_held3 (fun w' => w'.cell? ⟨w.heap.size, 0, none⟩ = some (.slice a1 n1 c1) ∧ w'.cell? ⟨w.heap.size, 1, none⟩ = some (.int .i64 0)) (constructor <;> go_simp) (fail)
        go_wp2
        exact bodyPost_ret (ret_tmp_cell (p := 9) (u := 8) rfl rfl (load_ref (set2 D9.out _ _))) rfl ⟨_, _, _, by rw [HRR.out] <;> rfl, by
          rw [HRR.out]; exact (own_cellsAt (own_set (own_set HOW.out D9.out (by decide) 0 _) (set_blk D9.out 0 _) (by decide) 1 _)).ext (Ext.rf _).dr, HFR.out, by
          rw [HRR.out]; exact ((HR.out.setF (by omega) _ _).setF (by omega) _ _).ext (Ext.rf _).dr, ((hext.setN (by omega) _ _).setN (by omega) _ _).dr⟩
    · have t0 : (er' == 0) = false := by simpa using h0
      have t0n : (er' != 0) = true := by simpa using h0
      have HRR := Lib.hid (HT.out.trans (takeR_err h0))
      have f0 := frozen_blk D9.out 0
      have f1 := frozen_blk D9.out 1
      have e0 := blk D9.out 0 rfl
      have e1 := blk D9.out 1 rfl
      clear HT hnN hown h0
      go_wp2_with fail
      all_goals go_region_held3 (fun w' => w'.cell? ⟨w.heap.size, 0, none⟩ = some (.slice a1 n1 c1) ∧ w'.cell? ⟨w.heap.size, 1, none⟩ = some (.int .i64 er')) (constructor <;> go_simp) (fail)
      all_goals go_wp2
      all_goals exact bodyPost_ret (ret_tmp_cell (p := 9) (u := 8) rfl rfl (load_ref (set2 D9.out _ _))) rfl ⟨none, 0, _, by rw [HRR.out] <;> rfl, by rw [HRR.out]; exact Cells.nil _ _, fresh_nil _, by
          rw [HRR.out]; exact ((HR.out.setF (by omega) _ _).setF (by omega) _ _).ext (Ext.rf _).dr, ((hext.setN (by omega) _ _).setN (by omega) _ _).dr⟩
end Go.Proofs.Ytfeddkfpkdjbeaa
