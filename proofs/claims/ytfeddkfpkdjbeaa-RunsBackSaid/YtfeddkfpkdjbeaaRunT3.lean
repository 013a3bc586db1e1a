/- The walk of runs.Take. -/
import Derived.Test.YtfeddkfpkdjbeaaRunT2
namespace Go.Proofs.Ytfeddkfpkdjbeaa
open Go.RowKit

/-- The length of a slice. -/
def lenOf : Value → Nat | .slice _ n _ => n | _ => 0

/-- What taking a row leaves. -/
def TakeGoes (g : Nat) (R : List Int × List UInt8 × Int) (w : World) (e : Ending) (w' : World) : Prop :=
  ∃ ao cap, e = .returned (.slice ao R.1.length cap) ∧ Cells w' ao (R.1.map (.int .i64)) ∧ Fresh w.heap.size ao ∧ CurAt w' g R.2.1 R.2.2 ∧ w.grownBy w' (some g)

theorem fresh_nil (B : Nat) : Fresh B none := fun _ h => by cases h

set_option maxHeartbeats 4000000 in
set_option maxRecDepth 20000 in
theorem runs_Take (g : Nat) (bs : List UInt8) (er n low high : Int) (w : World) (hc : CurAt w g bs er) (hl : bs.length ≤ 140737488354328) (hn : n ≤ 1099511627776) (hn0 : -9223372036854775808 ≤ n) :
    Calls Try.prog 67 #[.pointer (some ⟨g, 0, none⟩), .int .i64 n, .int .i64 low, .int .i64 high] w (TakeGoes g (takeRow n low high bs er) w) := by
  have hgl := hc.lt
  have HS := Lib.hid (show takeRow n low high bs er = takeR low high n.toNat (n.toNat + 1) [] bs er from rfl)
  generalize takeRow n low high bs er = R at *
  obtain ⟨N, hN⟩ : ∃ N, N = n.toNat := ⟨_, rfl⟩
  rw [← hN] at HS
  have HN := Lib.hid hN
  have hc0 := Lib.hid hc
  clear hN hc
  go_enter Try.func67, Try.ntmps67
  go_wp2_with fail
  go_loopw [9] (fun v wr => ∃ (out : List Int) (bs' : List UInt8) (er' : Int) (f : Nat), wr.ownsRow w.heap.size 3 1 v out.length (out.map (.int .i64)) ∧ Hid (CurAt wr g bs' er') ∧ GrowG g w wr ∧ N ≤ out.length + f ∧ (out.length ≤ N) ∧ bs'.length ≤ bs.length ∧ Hid (R = takeR low high N (f + 1) out bs' er'))
    (fun v _ => N - lenOf v)
  case atStart => exact ⟨[], bs, er, N, World.ownsRow_nil _ _ _ _, hc0, GrowG.rf _ _, by simp, by simp, Nat.le_refl _, HS⟩
  case round =>
    clear HS hc0
    obtain ⟨out, bs', er', f, hown, HC, hext, hf, hle, hbs, HT⟩ := hrel
    obtain ⟨ro, rc, rfl⟩ := own_form hown
    have HST := Lib.hid (takeR_step HT.out)
    by_cases hlt : out.length < N
    · have HSR := Lib.hid (HST.out.2.2 hlt _ rfl)
      have HRO := Lib.hid (runS_ok (N - out.length) bs' er')
      have hnN := HN.out
      have hnn : n = N := by omega
      have i1 : (out.length : Int) < n := by omega
      have hsub : n - (out.length : Int) = ((N - out.length : Nat) : Int) := by omega
      have HR := Lib.hid (runs_run g (N - out.length) bs' er' wr HC.out (Nat.le_trans hbs hl) (by omega))
      unfold RunGoes at HR
      generalize runS (N - out.length) bs' er' = r at *
      clear HT HST hnN hnn
      go_wp2_with fail
      refine HR.out.mono ?_
      rintro e w1 ⟨⟨a, rfl, ha⟩, hc1, hg1⟩
      have HC1 := Lib.hid hc1
      have hext1 := hext.call hg1
      have hown1 := own_call hown hg1 hgl
      have HA := Lib.hid ha
      clear hc1 hg1 HR HC hext hown ha
      by_cases hok : r.2.2.2 = 0
      · have t1 : (r.2.2.2 == 0) = true := by simpa using hok
        obtain ⟨r1, r2, r3⟩ := HRO.out.2.2 hok
        obtain rfl := HA.out hok
        obtain ⟨v1, v2⟩ := HRO.out.2.1
        have hbs1 := HRO.out.1
        have HOK := Lib.hid hok
        clear hok HRO HA
        have HC1 := Lib.hid (show CurAt w1 g r.2.2.1 0 by have := HC1.out; rw [HOK.out] at this; exact this)
        obtain ⟨w2, hw2⟩ : ∃ x, x = w1.alloc (.cells #[.int .i64 r.1, .int .i64 r.2.1] 33) := ⟨_, rfl⟩
        have hxa : Ext w1 w2 := by rw [hw2]; exact (Ext.rf _).al _
        have E1 := Lib.hid (show w2.heap[w1.heap.size]? = some (.cells #[.int .i64 r.1, .int .i64 r.2.1] 33 (0, 0)) by rw [hw2]; exact alloc_new w1 _)
        have hown1 := own_ext hown1 hxa
        have hext1 := hext1.ext hxa
        have HC1 := Lib.hid (HC1.out.ext hxa)
        obtain ⟨f, rfl⟩ : ∃ f', f = f' + 1 := ⟨f - 1, by omega⟩
        by_cases hk : 0 < out.length
        · have i3 : (0 : Int) ≤ (out.length : Int) - 1 := by omega
          have i4 : (out.length : Int) - 1 < out.length := by omega
          have t2 : decide ((0 : Int) < out.length) = true := decide_eq_true (by omega)
          have t2n : decide (0 < out.length) = true := decide_eq_true hk
          obtain ⟨gb, rc1, he⟩ := own_some hown1 hk
          cases he
          obtain ⟨ao1, rc2, hv, -, -, hcc⟩ := Cells.own hown1
          cases hv
          obtain ⟨b2, off2, e2, c2⟩ := hcc.at (k := out.length - 1) (by simp; omega)
          cases e2
          simp only [List.getElem_map, Nat.zero_add] at c2
          have hlast : out.getLast? = some out[out.length - 1] := by rw [List.getLast?_eq_getElem?, List.getElem?_eq_getElem]
          go_wp2_with fail
          rw [← hw2]
          clear hw2 hcc hxa
          generalize w1.heap.size = S at *
          have k0 : w2.cell? ⟨S, 0, none⟩ = some (.int .i64 r.1) := blk E1.out 0 rfl
          have k1 : w2.cell? ⟨S, 1, none⟩ = some (.int .i64 r.2.1) := blk E1.out 1 rfl
          generalize out[out.length - 1] = la at *
          by_cases h1 : la = r.2.1
          · have t3 : (la == r.2.1) = true := by simpa using h1
            have HRR := Lib.hid (HSR.out.2.1 HOK.out (by rw [hlast, h1]))
            clear hlast h1
            go_wp2
            go_quiet (fail)
            have hownQ := own_drN hown1 nq
            have hextQ := hext1.ext (((Ext.rf w2)).drN nq)
            have HCQ := Lib.hid (show CurAt (w2.drewN nq) g r.2.2.1 0 from HC1.out.ext ((Ext.rf w2).drN nq))
            have HEQ := Lib.hid (show (w2.drewN nq).heap[S]? = some (.cells #[.int .i64 r.1, .int .i64 r.2.1] 33 (0, 0)) from E1.out)
            generalize w2.drewN nq = wq at *
            have k0 : wq.cell? ⟨S, 0, none⟩ = some (.int .i64 r.1) := blk HEQ.out 0 rfl
            have k1 : wq.cell? ⟨S, 1, none⟩ = some (.int .i64 r.2.1) := blk HEQ.out 1 rfl
            clear hown1 hext1 HC1 E1
            have HF := Lib.hid (cur_Fail g r.2.2.1 0 5 wq HCQ.out)
            rw [show failE 0 5 = 5 by simp [failE]] at HF
            clear HSR HCQ
            go_wp2_with fail
            refine HF.out.mono ?_
            rintro e w5 ⟨⟨v5, rfl⟩, hc5, hg5⟩
            have HC5 := Lib.hid hc5
            have hext5 := hextQ.call hg5
            clear hc5 hg5 HF
            go_wp2_with fail
            go_ret
            refine ⟨none, 0, by rw [HRR.out] <;> rfl, by rw [HRR.out]; exact Cells.nil _ _, fresh_nil _, by rw [HRR.out]; exact HC5.out, hext5.h⟩
          · have t3 : (la == r.2.1) = false := by simpa using h1
            have HNE := Lib.hid (show out.getLast? ≠ some r.2.1 by rw [hlast]; intro e; exact h1 (Option.some.inj e))
            clear hlast h1
            go_wp2
            go_quiet (fail)
            have hownQ := own_drN hown1 nq
            have hextQ := hext1.ext (((Ext.rf w2)).drN nq)
            have HCQ := Lib.hid (show CurAt (w2.drewN nq) g r.2.2.1 0 from HC1.out.ext ((Ext.rf w2).drN nq))
            have HEQ := Lib.hid (show (w2.drewN nq).heap[S]? = some (.cells #[.int .i64 r.1, .int .i64 r.2.1] 33 (0, 0)) from E1.out)
            generalize w2.drewN nq = wq at *
            have k0 : wq.cell? ⟨S, 0, none⟩ = some (.int .i64 r.1) := blk HEQ.out 0 rfl
            have k1 : wq.cell? ⟨S, 1, none⟩ = some (.int .i64 r.2.1) := blk HEQ.out 1 rfl
            clear hown1 hext1 HC1 E1
            by_cases hr1 : r.2.1 < low
            · have t5 : decide (r.2.1 < low) = true := decide_eq_true hr1
              have HRR := Lib.hid (HSR.out.2.2.1 HOK.out HNE.out (.inl hr1))
              clear hr1
              have HF := Lib.hid (cur_Fail g r.2.2.1 0 2 wq HCQ.out)
              rw [show failE 0 2 = 2 by simp [failE]] at HF
              clear HSR HCQ
              go_wp2_with fail
              refine HF.out.mono ?_
              rintro e w5 ⟨⟨v5, rfl⟩, hc5, hg5⟩
              have HC5 := Lib.hid hc5
              have hext5 := hextQ.call hg5
              clear hc5 hg5 HF
              go_wp2_with fail
              go_ret
              refine ⟨none, 0, by rw [HRR.out] <;> rfl, by rw [HRR.out]; exact Cells.nil _ _, fresh_nil _, by rw [HRR.out]; exact HC5.out, hext5.h⟩
            · have t5 : decide (r.2.1 < low) = false := decide_eq_false hr1
              by_cases hr2 : high < r.2.1
              · have t6 : decide (high < r.2.1) = true := decide_eq_true hr2
                have HRR := Lib.hid (HSR.out.2.2.1 HOK.out HNE.out (.inr hr2))
                clear hr1 hr2
                have HF := Lib.hid (cur_Fail g r.2.2.1 0 2 wq HCQ.out)
                rw [show failE 0 2 = 2 by simp [failE]] at HF
                clear HSR HCQ
                go_wp2_with fail
                refine HF.out.mono ?_
                rintro e w5 ⟨⟨v5, rfl⟩, hc5, hg5⟩
                have HC5 := Lib.hid hc5
                have hext5 := hextQ.call hg5
                clear hc5 hg5 HF
                go_wp2_with fail
                go_ret
                refine ⟨none, 0, by rw [HRR.out] <;> rfl, by rw [HRR.out]; exact Cells.nil _ _, fresh_nil _, by rw [HRR.out]; exact HC5.out, hext5.h⟩
              · have t6 : decide (high < r.2.1) = false := decide_eq_false hr2
                have HRR := Lib.hid (HSR.out.2.2.2 HOK.out HNE.out (by omega))
                clear HSR hr1 hr2
                go_wp2_with fail
                go_loopw [9, 61] (fun v i wr => ∃ j : Nat, j ≤ r.1 ∧ i = .int .i64 j ∧ wr.ownsRow w.heap.size 3 1 v (out.length + j) ((out ++ List.replicate j r.2.1).map (.int .i64)) ∧ Hid (CurAt wr g r.2.2.1 0) ∧ GrowG g w wr ∧ Hid (wr.heap[S]? = some (.cells #[.int .i64 r.1, .int .i64 r.2.1] 33 (0, 0))))
                  (fun _ i _ => r.1 - (intOf i).toNat)
                case atStart => exact ⟨0, Nat.zero_le _, rfl, by simpa using hownQ, HCQ, hextQ, HEQ⟩
                case round =>
                  clear hownQ HCQ hextQ HEQ k0 k1
                  obtain ⟨j, hj, rfl, hown2, HC2, hext2, HE2⟩ := hrel
                  have k0 : wr.cell? ⟨S, 0, none⟩ = some (.int .i64 r.1) := blk HE2.out 0 rfl
                  have k1 : wr.cell? ⟨S, 1, none⟩ = some (.int .i64 r.2.1) := blk HE2.out 1 rfl
                  obtain ⟨ro2, rc2, rfl⟩ := own_form hown2
                  by_cases hjm : j < r.1
                  · have j1 : (j : Int) < r.1 := by omega
                    have hle3 : out.length + j ≤ N := by omega
                    go_wp2_with (at_builtin; (refine wpList_push rfl (.tmp 63) (.tmp 66) 36 rfl w.heap.size 3 3 (.int .i64 0) 1 8 Try.underlying36 (by kernel_rfl) rfl (by decide) _ (out.length + j) _ [.int .i64 r.2.1] rfl hown2 _ rfl (by simp) rfl (by simp [Value.oneCell']) (by unfold maxLen; omega) (by omega) hext2.size ?_; intro v' w1 hown1 hgr; have hext1 := hext2.push hown2 (Nat.le_refl _) hgr; have HX1 := Lib.hid (push_keepsT hown2 hgr HE2.out (by decide)); have HC3 := Lib.hid (HC2.out.push hown2 hgl hgr); clear hgr hown2 hext2 k0 k1))
                    go_roundw
                    case rel => exact ⟨j + 1, by omega, by go_num, by rw [List.replicate_succ', ← List.append_assoc]; simpa [Nat.add_assoc] using hown1, HC3, hext1, HX1⟩
                    case measure => simp [intOf]; omega
                  · obtain rfl : j = r.1 := by omega
                    have j1 : decide ((r.1 : Int) < r.1) = false := decide_eq_false (by omega)
                    clear k1
                    go_wp2
                    go_roundw
                    case rel => exact ⟨out ++ List.replicate r.1 r.2.1, r.2.2.1, 0, f, by rw [List.length_append, List.length_replicate]; exact hown2, HC2, hext2, by rw [List.length_append, List.length_replicate]; omega, by rw [List.length_append, List.length_replicate]; omega, by omega, HRR⟩
                    case measure => simp [lenOf]; omega
        · have t2 : decide ((0 : Int) < out.length) = false := decide_eq_false (by omega)
          have t2n : decide (0 < out.length) = false := decide_eq_false hk
          have HNE := Lib.hid (show out.getLast? ≠ some r.2.1 by rw [List.eq_nil_of_length_eq_zero (show out.length = 0 by omega)]; simp)
          go_wp2_with fail
          rw [← hw2]
          clear hw2 hxa hk
          generalize w1.heap.size = S at *
          have k0 : w2.cell? ⟨S, 0, none⟩ = some (.int .i64 r.1) := blk E1.out 0 rfl
          have k1 : w2.cell? ⟨S, 1, none⟩ = some (.int .i64 r.2.1) := blk E1.out 1 rfl
          go_wp2
          go_quiet (fail)
          have hownQ := own_drN hown1 nq
          have hextQ := hext1.ext (((Ext.rf w2)).drN nq)
          have HCQ := Lib.hid (show CurAt (w2.drewN nq) g r.2.2.1 0 from HC1.out.ext ((Ext.rf w2).drN nq))
          have HEQ := Lib.hid (show (w2.drewN nq).heap[S]? = some (.cells #[.int .i64 r.1, .int .i64 r.2.1] 33 (0, 0)) from E1.out)
          generalize w2.drewN nq = wq at *
          have k0 : wq.cell? ⟨S, 0, none⟩ = some (.int .i64 r.1) := blk HEQ.out 0 rfl
          have k1 : wq.cell? ⟨S, 1, none⟩ = some (.int .i64 r.2.1) := blk HEQ.out 1 rfl
          clear hown1 hext1 HC1 E1
          by_cases hr1 : r.2.1 < low
          · have t5 : decide (r.2.1 < low) = true := decide_eq_true hr1
            have HRR := Lib.hid (HSR.out.2.2.1 HOK.out HNE.out (.inl hr1))
            clear hr1
            have HF := Lib.hid (cur_Fail g r.2.2.1 0 2 wq HCQ.out)
            rw [show failE 0 2 = 2 by simp [failE]] at HF
            clear HSR HCQ
            go_wp2_with fail
            refine HF.out.mono ?_
            rintro e w5 ⟨⟨v5, rfl⟩, hc5, hg5⟩
            have HC5 := Lib.hid hc5
            have hext5 := hextQ.call hg5
            clear hc5 hg5 HF
            go_wp2_with fail
            go_ret
            refine ⟨none, 0, by rw [HRR.out] <;> rfl, by rw [HRR.out]; exact Cells.nil _ _, fresh_nil _, by rw [HRR.out]; exact HC5.out, hext5.h⟩
          · have t5 : decide (r.2.1 < low) = false := decide_eq_false hr1
            by_cases hr2 : high < r.2.1
            · have t6 : decide (high < r.2.1) = true := decide_eq_true hr2
              have HRR := Lib.hid (HSR.out.2.2.1 HOK.out HNE.out (.inr hr2))
              clear hr1 hr2
              have HF := Lib.hid (cur_Fail g r.2.2.1 0 2 wq HCQ.out)
              rw [show failE 0 2 = 2 by simp [failE]] at HF
              clear HSR HCQ
              go_wp2_with fail
              refine HF.out.mono ?_
              rintro e w5 ⟨⟨v5, rfl⟩, hc5, hg5⟩
              have HC5 := Lib.hid hc5
              have hext5 := hextQ.call hg5
              clear hc5 hg5 HF
              go_wp2_with fail
              go_ret
              refine ⟨none, 0, by rw [HRR.out] <;> rfl, by rw [HRR.out]; exact Cells.nil _ _, fresh_nil _, by rw [HRR.out]; exact HC5.out, hext5.h⟩
            · have t6 : decide (high < r.2.1) = false := decide_eq_false hr2
              have HRR := Lib.hid (HSR.out.2.2.2 HOK.out HNE.out (by omega))
              clear HSR hr1 hr2
              go_wp2_with fail
              go_loopw [9, 61] (fun v i wr => ∃ j : Nat, j ≤ r.1 ∧ i = .int .i64 j ∧ wr.ownsRow w.heap.size 3 1 v (out.length + j) ((out ++ List.replicate j r.2.1).map (.int .i64)) ∧ Hid (CurAt wr g r.2.2.1 0) ∧ GrowG g w wr ∧ Hid (wr.heap[S]? = some (.cells #[.int .i64 r.1, .int .i64 r.2.1] 33 (0, 0))))
                (fun _ i _ => r.1 - (intOf i).toNat)
              case atStart => exact ⟨0, Nat.zero_le _, rfl, by simpa using hownQ, HCQ, hextQ, HEQ⟩
              case round =>
                clear hownQ HCQ hextQ HEQ k0 k1
                obtain ⟨j, hj, rfl, hown2, HC2, hext2, HE2⟩ := hrel
                have k0 : wr.cell? ⟨S, 0, none⟩ = some (.int .i64 r.1) := blk HE2.out 0 rfl
                have k1 : wr.cell? ⟨S, 1, none⟩ = some (.int .i64 r.2.1) := blk HE2.out 1 rfl
                obtain ⟨ro2, rc2, rfl⟩ := own_form hown2
                by_cases hjm : j < r.1
                · have j1 : (j : Int) < r.1 := by omega
                  have hle3 : out.length + j ≤ N := by omega
                  go_wp2_with (at_builtin; (refine wpList_push rfl (.tmp 63) (.tmp 66) 36 rfl w.heap.size 3 3 (.int .i64 0) 1 8 Try.underlying36 (by kernel_rfl) rfl (by decide) _ (out.length + j) _ [.int .i64 r.2.1] rfl hown2 _ rfl (by simp) rfl (by simp [Value.oneCell']) (by unfold maxLen; omega) (by omega) hext2.size ?_; intro v' w1 hown1 hgr; have hext1 := hext2.push hown2 (Nat.le_refl _) hgr; have HX1 := Lib.hid (push_keepsT hown2 hgr HE2.out (by decide)); have HC3 := Lib.hid (HC2.out.push hown2 hgl hgr); clear hgr hown2 hext2 k0 k1))
                  go_roundw
                  case rel => exact ⟨j + 1, by omega, by go_num, by rw [List.replicate_succ', ← List.append_assoc]; simpa [Nat.add_assoc] using hown1, HC3, hext1, HX1⟩
                  case measure => simp [intOf]; omega
                · obtain rfl : j = r.1 := by omega
                  have j1 : decide ((r.1 : Int) < r.1) = false := decide_eq_false (by omega)
                  clear k1
                  go_wp2
                  go_roundw
                  case rel => exact ⟨out ++ List.replicate r.1 r.2.1, r.2.2.1, 0, f, by rw [List.length_append, List.length_replicate]; exact hown2, HC2, hext2, by rw [List.length_append, List.length_replicate]; omega, by rw [List.length_append, List.length_replicate]; omega, by omega, HRR⟩
                  case measure => simp [lenOf]; omega
      · have t1 : (r.2.2.2 == 0) = false := by simpa using hok
        have HRR := Lib.hid (HSR.out.1 hok)
        clear hok HSR HRO HA
        go_wp2_with fail
        go_ret
        refine ⟨none, 0, by rw [HRR.out] <;> rfl, by rw [HRR.out]; exact Cells.nil _ _, fresh_nil _, by rw [HRR.out]; exact HC1.out.ext ((Ext.rf _).al _), (hext1.al _).h⟩
    · have hnN := HN.out
      have i1 : decide ((out.length : Int) < n) = false := decide_eq_false (by omega)
      obtain ⟨ao', cap', hv, hcc, hfr⟩ := own_cells hown
      cases hv
      have HCC := Lib.hid hcc
      have HFR := Lib.hid hfr
      have HSR := Lib.hid (fun h => HST.out.1 (by omega) h)
      have HSN := Lib.hid (fun h => HST.out.2.1 (by omega) h)
      clear HT HST hnN hcc hfr hown
      go_wp2_with fail
      refine (cur_Err g bs' er' wr HC.out).mono ?_
      rintro e w1 ⟨rfl, rfl⟩
      by_cases h0 : er' = 0
      · have t1 : (er' != 0) = false := by simpa using h0
        have HRR := Lib.hid (HSR.out h0)
        clear h0 HSR HSN
        go_wp2_with fail
        go_ret
        exact ⟨_, _, by rw [HRR.out] <;> rfl, by rw [HRR.out]; exact HCC.out, HFR.out, by rw [HRR.out]; exact HC.out, hext.h⟩
      · have t1 : (er' != 0) = true := by simpa using h0
        have HRR := Lib.hid (HSN.out h0)
        clear h0 HSR HSN
        go_wp2_with fail
        go_ret
        exact ⟨none, 0, by rw [HRR.out] <;> rfl, by rw [HRR.out]; exact Cells.nil _ _, fresh_nil _, by rw [HRR.out]; exact HC.out, hext.h⟩
end Go.Proofs.Ytfeddkfpkdjbeaa
