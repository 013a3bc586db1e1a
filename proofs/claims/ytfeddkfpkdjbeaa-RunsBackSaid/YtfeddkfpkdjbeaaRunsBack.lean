/- RunsBack: a row that was put is taken again, whatever stands behind. -/
import Derived.Test.YtfeddkfpkdjbeaaRunT3
import Derived.Test.YtfeddkfpkdjbeaaUvarQ
import Derived.Test.YtfeddkfpkdjbeaaRunsOf
import Derived.Test.YtfeddkfpkdjbeaaOpen2
namespace Go.Proofs.Ytfeddkfpkdjbeaa
open Go.RowKit

theorem getLast_rep (out : List Int) (v : Int) : ∀ k, 1 ≤ k → (out ++ List.replicate k v).getLast? = some v := by
  intro k hk
  obtain ⟨k, rfl⟩ : ∃ k', k = k' + 1 := ⟨k - 1, by omega⟩
  rw [List.replicate_succ', ← List.append_assoc, List.getLast?_concat]
theorem takeR_back (low high : Int) (n : Nat) (hn : n ≤ 1048576) (rest : List UInt8) : ∀ (Rs : List (Int × Int)) (out : List Int) (f : Nat), ChainR out.getLast? Rs → (∀ p ∈ Rs, low ≤ p.2 ∧ p.2 ≤ high ∧ -9223372036854775808 ≤ p.2 ∧ p.2 ≤ 9223372036854775807) →
    out.length + (expand Rs).length = n → Rs.length ≤ f → takeR low high n (f + 1) out (putRuns Rs ++ rest) 0 = (out ++ expand Rs, rest, 0) := by
  intro Rs
  induction Rs with
  | nil =>
    intro out f _ _ hl _
    have := (takeR_step (R := takeR low high n (f + 1) out (putRuns [] ++ rest) 0) rfl).1 (by simp [expand] at hl; omega) rfl
    rw [this]
    simp [putRuns, expand]
  | cons p Rs ih =>
    intro out f hch hv hl hf
    obtain ⟨h1, h2, h3⟩ := hch
    obtain ⟨v1, v2, v3, v4⟩ := hv p (by simp)
    obtain ⟨f, rfl⟩ : ∃ f', f = f' + 1 := ⟨f - 1, by simp at hf; omega⟩
    have e : expand (p :: Rs) = List.replicate p.1.toNat p.2 ++ expand Rs := by simp [expand]
    have e2 : putRuns (p :: Rs) ++ rest = putB p.1.toNat ++ (putB (foldN p.2) ++ (putRuns Rs ++ rest)) := by simp [putRuns, runB]
    rw [e, List.length_append, List.length_replicate] at hl
    have hu : bitsS (putRuns (p :: Rs) ++ rest) 0 = (p.1.toNat, putB (foldN p.2) ++ (putRuns Rs ++ rest), 0) := by rw [e2]; exact bitsS_put (by omega) _
    have hw : bitsS (putB (foldN p.2) ++ (putRuns Rs ++ rest)) 0 = (foldN p.2, putRuns Rs ++ rest, 0) := bitsS_put (by have := foldN_lt v3 v4; omega) _
    have hr : runS (n - out.length) (putRuns (p :: Rs) ++ rest) 0 = (p.1.toNat, p.2, putRuns Rs ++ rest, 0) := by
      rw [runS_fine (by rw [hu]) (by rw [hu]; show ¬ (p.1.toNat = 0 ∨ n - out.length < p.1.toNat); omega), hu]
      simp only []
      rw [hw, unfold_fold]
    have hs := (takeR_step (R := takeR low high n (f + 1 + 1) out (putRuns (p :: Rs) ++ rest) 0) rfl).2.2 (by omega) _ hr.symm
    rw [hs.2.2.2 rfl h2 (by show ¬ (p.2 < low ∨ high < p.2); omega)]
    show takeR low high n (f + 1) (out ++ List.replicate p.1.toNat p.2) (putRuns Rs ++ rest) 0 = _
    rw [ih (out ++ List.replicate p.1.toNat p.2) f (by rw [getLast_rep _ _ _ (by omega)]; exact h3) (fun q hq => hv q (by simp [hq])) (by rw [List.length_append, List.length_replicate]; omega) (by simp at hf; omega), e, List.append_assoc]
theorem takeRow_back (l : List Int) (rest : List UInt8) (hl : l.length ≤ 300) (hv : ∀ v ∈ l, -1048576 ≤ v ∧ v ≤ 1048576) : takeRow l.length (-1048576) 1048576 (putRuns (runsOf l) ++ rest) 0 = (l, rest, 0) := by
  have hb : ∀ p ∈ runsOf l, -1048576 ≤ p.2 ∧ p.2 ≤ 1048576 ∧ -9223372036854775808 ≤ p.2 ∧ p.2 ≤ 9223372036854775807 := fun p hp => by
    have := hv _ (runsOf_vals l p hp); omega
  have h := takeR_back (-1048576) 1048576 l.length (by omega) rest (runsOf l) [] l.length (chain_runsOf l) hb (by rw [expand_runsOf]; simp) (cntOk l).1
  unfold takeRow
  rw [show ((l.length : Nat) : Int).toNat = l.length by omega, h, expand_runsOf]
  rfl

theorem putF_cut (f k : Nat) : ∀ n, n < 128 ^ (k + 1) → k ≤ f → (putF f n).length ≤ k + 1 := by
  induction k generalizing f with
  | zero => intro n h _; rw [putF_lt f (by simpa using h)]; simp
  | succ k ih =>
    intro n h hf
    by_cases h1 : n < 128
    · rw [putF_lt f h1]; simp
    · obtain ⟨f, rfl⟩ : ∃ f', f = f' + 1 := ⟨f - 1, by omega⟩
      rw [putF_ge f (by omega)]
      have := ih f (n / 128) (by rw [Nat.pow_succ] at h; exact Nat.div_lt_of_lt_mul (by omega)) (by omega)
      simp only [List.length_cons]
      omega
theorem putB_two {n : Nat} (h : n < 16384) : (putB n).length ≤ 2 := putF_cut 9 1 n (by simpa using h) (by decide)
theorem putB_four {n : Nat} (h : n < 268435456) : (putB n).length ≤ 4 := putF_cut 9 3 n (by simpa using h) (by decide)
theorem putRuns_few {l : List Int} (hl : l.length ≤ 300) (hv : ∀ v ∈ l, -1048576 ≤ v ∧ v ≤ 1048576) : (putRuns (runsOf l)).length ≤ 1800 := by
  obtain ⟨h1, h2⟩ := cntOk l
  have h3 := runsOf_vals l
  generalize runsOf l = R at *
  have key : ∀ (R : List (Int × Int)), (∀ p ∈ R, 1 ≤ p.1 ∧ p.1 ≤ (l.length : Int)) → (∀ p ∈ R, p.2 ∈ l) → (putRuns R).length ≤ 6 * R.length := by
    intro R
    induction R with
    | nil => intro _ _; simp [putRuns]
    | cons p R ih =>
      intro g1 g2
      have hp1 := g1 p (by simp)
      have hp2 := hv _ (g2 p (by simp))
      have a1 := putB_two (n := p.1.toNat) (by omega)
      have a2 := putB_four (n := foldN p.2) (by unfold foldN; split <;> omega)
      have a3 := ih (fun q hq => g1 q (by simp [hq])) (fun q hq => g2 q (by simp [hq]))
      simp only [putRuns, List.flatMap_cons, List.length_append, List.length_cons, runB] at *
      omega
  have := key R h2 h3
  omega

set_option maxHeartbeats 2000000 in
set_option maxRecDepth 20000 in
theorem RunsBack_walk (ao0 : Option Addr) (cap0 : Nat) (l0 : List Int) (ao1 : Option Addr) (cap1 : Nat) (b1 : List UInt8) (w : World) (hl0 : Cells w ao0 (l0.map (.int .i64))) (hb0 : ∀ n ∈ l0, (Lit.int .i64 n).wf = true)
    (hl1 : Cells w ao1 (b1.map byteC)) (hs1 : b1.length ≤ 140737488351232) :
    Calls Try.prog 15 #[.slice ao0 l0.length cap0, .slice ao1 b1.length cap1] w fun e w' => e = .returned (.bool true) ∧ Ext w w' := by
  have HB := Lib.hid (ints_bounds hb0)
  have HC0 := Lib.hid hl0
  have HC1 := Lib.hid hl1
  clear hb0 hl0 hl1
  by_cases h3 : 300 < l0.length
  · have t1 : decide ((300 : Int) < l0.length) = true := decide_eq_true (by omega)
    have t2 : decide (300 < l0.length) = true := decide_eq_true h3
    go_enter Try.func15, Try.ntmps15
    go_wp2_with fail
    refine (runs_lives _).mono ?_
    rintro e w1 ⟨rfl, hb⟩
    go_wp2_with fail
    go_ret
    exact ⟨rfl, hb⟩
  have t1 : decide ((300 : Int) < l0.length) = false := decide_eq_false (by omega)
  have t2 : decide (300 < l0.length) = false := decide_eq_false h3
  have hn0 : l0.length ≤ 300 := by omega
  clear h3
  go_enter Try.func15, Try.ntmps15
  go_wp2_with fail
  go_loopw [5] (fun i wr => ∃ k : Nat, k ≤ l0.length ∧ i = .int .i64 k ∧ Ext w wr ∧ Hid (∀ v ∈ l0.take k, -1048576 ≤ v ∧ v ≤ 1048576))
    (fun i _ => l0.length - (intOf i).toNat)
  case atStart => exact ⟨0, Nat.zero_le _, rfl, Ext.rf _, Lib.hid (by simp)⟩
  case round =>
    obtain ⟨k, hk, rfl, hext, HV⟩ := hrel
    by_cases hlt : k < l0.length
    · obtain ⟨b, off, rfl, c0⟩ := HC0.out.at (k := k) (by simpa using hlt)
      simp only [List.getElem_map] at c0
      have c1 := hext.has c0
      have i1 : (0 : Int) ≤ k := by omega
      have i2 : (k : Int) < l0.length := by omega
      have HT := Lib.hid (List.take_succ_eq_append_getElem hlt)
      generalize l0[k] = n at *
      by_cases h1 : n < -1048576
      · have t3 : decide (n < -1048576) = true := decide_eq_true h1
        go_wp2_with fail
        refine (runs_lives _).mono ?_
        rintro e w1 ⟨rfl, hb⟩
        go_wp2_with fail
        go_ret
        exact ⟨rfl, hext.tr hb⟩
      · have t3 : decide (n < -1048576) = false := decide_eq_false h1
        by_cases h2 : 1048576 < n
        · have t4 : decide (1048576 < n) = true := decide_eq_true h2
          go_wp2_with fail
          refine (runs_lives _).mono ?_
          rintro e w1 ⟨rfl, hb⟩
          go_wp2_with fail
          go_ret
          exact ⟨rfl, hext.tr hb⟩
        · have t4 : decide (1048576 < n) = false := decide_eq_false h2
          go_wp2_with fail
          go_roundw
          case rel => exact ⟨k + 1, by omega, by go_num, hext, Lib.hid (fun v hv => by
            rw [HT.out] at hv
            rcases List.mem_append.1 hv with hv | hv
            · exact HV.out v hv
            · simp at hv; subst hv; omega)⟩
          case measure => simp [intOf]; omega
    · obtain rfl : k = l0.length := by omega
      rw [List.take_length] at HV
      have hpl : (putRuns (runsOf l0)).length ≤ 3000 := by have := putRuns_few hn0 HV.out; omega
      have HTB := Lib.hid (takeRow_back l0 b1 hn0 HV.out)
      have HP := Lib.hid (runs_Put wr.heap.size (.slice none 0 0) 0 [] ao0 cap0 l0 wr (World.ownsRow_nil _ _ _ _) (Nat.le_refl _) (by omega) (HC0.out.ext hext) (by omega) HB.out)
      unfold PutRow at HP
      simp only [Nat.zero_add, List.nil_append] at HP
      generalize putRuns (runsOf l0) = A at *
      clear hlt hk HV
      go_wp2_with fail
      refine HP.out.mono ?_
      rintro e w1 ⟨v1, rfl, hown, hg⟩
      have hx1 := (Ext.rf wr).push (World.ownsRow_nil wr wr.heap.size 5 1) (Nat.le_refl _) hg
      have hc1 := HC1.out.ext (hext.tr hx1)
      have hsz := hx1.size
      clear hg HP
      go_wp2_with (at_builtin; (refine wpList_appendAll rfl (.tmp 31) (.tmp 32) 49 rfl wr.heap.size 5 (.int .u8 0) 1 1 Try.underlying49 (by kernel_rfl) rfl (by decide) _ A.length _ ao1 b1.length _ (b1.map byteC) rfl hown rfl hc1 (by simp) (by intro u hu; simp only [List.mem_map] at hu; obtain ⟨_, _, rfl⟩ := hu; rfl) (by unfold maxLen; omega) (by omega) hx1.size ?_; intro v2 w2 hown2 hgr; have hx2 := hx1.push hown (Nat.le_refl _) hgr; clear hgr hown hx1 hc1))
      have hown3 : w2.ownsRow wr.heap.size 5 1 v2 (A ++ b1).length ((A ++ b1).map byteC) := by rw [List.length_append, List.map_append]; exact hown2
      have hbl : (A ++ b1).length ≤ 140737488354328 := by rw [List.length_append]; omega
      clear hown2
      generalize A ++ b1 = B0 at *
      obtain ⟨ao2, cap2, rfl, hc2, -⟩ := own_cells hown3
      have HC2 := Lib.hid hc2
      clear hc2 hown3 hpl
      refine (cur_New _ _ _ _ HC2.out hbl).mono ?_
      rintro e w3 ⟨g, rfl, hg, hcu, hx3⟩
      have hy := (hext.tr hx2).tr hx3
      have HCU := Lib.hid hcu
      have HTK := Lib.hid (runs_Take g B0 0 l0.length (-1048576) 1048576 w3 hcu hbl (by omega) (by omega))
      rw [HTB.out] at HTK
      have hgw : w.heap.size ≤ g := by have := hext.size; have := hx2.size; omega
      clear hcu hx3 hx2 HC2 hext hg
      go_wp2_with fail
      refine HTK.out.mono ?_
      rintro e w4 ⟨ao4, cap4, rfl, hc4, hf4, hcu4, hg4⟩
      have HC4 := Lib.hid hc4
      have HCU4 := Lib.hid hcu4
      have hy4 := ext_grown hy hg4 hgw
      clear hc4 hf4 hcu4 hg4 HTK hy
      go_wp2_with fail
      refine (runsref_IntsN _ _ _ _ _ _ l0 _ HC4.out (HC0.out.ext hy4) rfl rfl (by omega)).mono ?_
      rintro e w5 ⟨rfl, hx5⟩
      have HCU5 := Lib.hid (HCU4.out.ext hx5)
      have hy5 := hy4.tr hx5
      clear hx5 hy4
      go_wp2_with fail
      refine (cur_Err g _ _ w5 HCU5.out).mono ?_
      rintro e w6 ⟨rfl, rfl⟩
      have HLL := Lib.hid (cur_Left g _ _ w5 HCU5.out)
      simp only [if_true] at HLL
      go_wp2_with fail
      refine HLL.out.mono ?_
      rintro e w6 ⟨rfl, rfl⟩
      have hq : ((b1.length : Int) == b1.length) = true := by simp
      clear HLL
      go_wp2_with fail
      refine (runs_lives _).mono ?_
      rintro e w7 ⟨rfl, hb⟩
      go_wp2_with fail
      go_ret
      exact ⟨rfl, hy5.tr hb⟩
end Go.Proofs.Ytfeddkfpkdjbeaa
