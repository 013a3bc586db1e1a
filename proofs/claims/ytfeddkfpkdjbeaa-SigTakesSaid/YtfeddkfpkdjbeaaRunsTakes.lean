/- RunsTakes: the row that any bytes begin with is what the page says. -/
import Derived.Test.YtfeddkfpkdjbeaaRunT4
import Derived.Test.YtfeddkfpkdjbeaaOpen3
import Derived.Test.YtfeddkfpkdjbeaaRunsOf
namespace Go.Proofs.Ytfeddkfpkdjbeaa
open Go.RowKit

set_option maxRecDepth 100000 in
/-- What is asked for: how many numbers, and their bounds. -/
theorem open_ask4 {W : World} {r : Reach} {base : Nat} {v : Value} (hv : Value.okWide Try.prog W r base 101 v) {H : Type} {enc : TypeId × Value → H} {base' : Nat} {spare : Nat → Bool} {held : Bool} {d : DataW H} {p : List MemPlace}
    (h : DataW.Trod enc Try.prog W base' spare held 101 v d p) : ∃ x : Int × Int × Int, v = .agg #[.int .i64 x.1, .int .i64 x.2.1, .int .i64 x.2.2] ∧ (Lit.int .i64 x.1).wf = true ∧ (Lit.int .i64 x.2.1).wf = true ∧ (Lit.int .i64 x.2.2).wf = true :=
  open_int3 Try.underlying101 (by kernel_rfl) ⟨rfl, rfl⟩ ⟨rfl, rfl⟩ ⟨rfl, rfl⟩ Try.underlying3 (by kernel_rfl) hv h

theorem lower_of {w : World} {ao : Option Addr} {bs : List UInt8} (h : Cells w ao (bs.map byteC)) : Lower w.heap.size ao bs := fun hne ad e => by
  subst e
  obtain ⟨bk, off, e2⟩ := h.addr (by simpa using hne)
  cases e2
  exact h.lt (by simpa using hne)

theorem RefAt.call {w w' : World} {B g : Nat} {v : Value} {bs : List UInt8} {er : Int} (h : RefAt w B v bs er) (hg : w.grownBy w' (some g)) (hB : B ≤ g) : RefAt w' B v bs er := by
  obtain ⟨bs0, ao, cap, h1, hc, hl, hbs⟩ := h
  refine ⟨bs0, ao, cap, h1, ?_, hl, hbs⟩
  by_cases hne : bs0 = []
  · subst hne; exact Cells.nil _ _
  · exact hc.grown hg fun ad e => by have := hl.1 hne ad e; omega

set_option maxHeartbeats 4000000 in
set_option maxRecDepth 20000 in
theorem RunsTakes_walk (ao0 : Option Addr) (cap0 : Nat) (b0 : List UInt8) (x1 : Int × Int × Int) (w : World) (hl0 : Cells w ao0 (b0.map byteC) ∧ b0.length ≤ cap0 ∧ b0.length ≤ 140737488351232)
    (hx1 : (Lit.int .i64 x1.1).wf = true ∧ (Lit.int .i64 x1.2.1).wf = true ∧ (Lit.int .i64 x1.2.2).wf = true) :
    Calls Try.prog 12 #[.slice ao0 b0.length cap0, .agg #[.int .i64 x1.1, .int .i64 x1.2.1, .int .i64 x1.2.2]] w fun e w' => e = .returned (.bool true) ∧ Ext w w' := by
  obtain ⟨hc0, hcap, hlen⟩ := hl0
  obtain ⟨n, low, high⟩ := x1
  obtain ⟨hn, -, -⟩ := hx1
  have hn := wf_i64 hn
  simp only at hn ⊢
  have HL := Lib.hid (lower_of hc0)
  have HC0 := Lib.hid hc0
  clear hc0
  by_cases h3 : 300 < n
  · have t1 : decide (300 < n) = true := decide_eq_true h3
    go_enter Try.func12, Try.ntmps12
    go_wp2_with fail
    refine (runs_lives _).mono ?_
    rintro e w1 ⟨rfl, hb⟩
    go_wp2_with fail
    go_ret
    exact ⟨rfl, ((Ext.rf w).al _).tr hb⟩
  · have t1 : decide (300 < n) = false := decide_eq_false h3
    have hn3 : n ≤ 300 := by omega
    obtain ⟨hn0, -⟩ := hn
    clear h3
    have hTO := takeRow_ok n low high b0 0
    have hbig : n.toNat ≤ 300 := by omega
    have HT := Lib.hid (fun g w' (h : CurAt w' g b0 0) => runs_Take g b0 0 n low high w' h hlen (by omega) hn0)
    have HTR := Lib.hid (fun w' (h : RefAt w' w.heap.size (.agg #[.slice ao0 b0.length cap0, .int .i64 0]) b0 0) (hB : w.heap.size ≤ w'.heap.size) => runsref_Take _ _ b0 0 n low high w' h hB hlen (by omega) hn0)
    generalize takeRow n low high b0 0 = R at *
    go_enter Try.func12, Try.ntmps12
    go_wp2_with fail
    refine (cur_New _ _ _ _ (HC0.out.ext ((Ext.rf w).al _)) hlen).mono ?_
    rintro e w1 ⟨g, rfl, hg, hcu, hx⟩
    simp only [World.size_alloc] at hg
    have HCU := Lib.hid hcu
    have P1 := Lib.hid (hx.blk (alloc_new w _))
    have HX1 := Lib.hid (((Ext.rf w).al _).tr hx)
    have k0 := blk P1.out 0 rfl
    have k1 := blk P1.out 1 rfl
    have k2 := blk P1.out 2 rfl
    clear hcu hx
    go_wp2_with fail
    refine (HTR.out _ ⟨b0, ao0, cap0, rfl, HC0.out.ext HX1.out, ⟨HL.out, hcap⟩, fun _ => rfl⟩ HX1.out.size).mono ?_
    rintro e w2 ⟨ao2, cap2, v2, rfl, hcs2, hf2, hr2, hx2⟩
    have HR2 := Lib.hid hr2
    obtain ⟨a2, n2, c2, rfl⟩ := hr2.shape
    have HCS2 := Lib.hid hcs2
    have HF2 := Lib.hid hf2
    have P2 := Lib.hid (hx2.blk P1.out)
    have HC2 := Lib.hid (HCU.out.ext hx2)
    have hy2 := HX1.out.tr hx2
    have hgl := HCU.out.lt
    clear hcs2 hf2 hr2 hx2 k0 k1 k2 HCU HX1 P1
    go_wp2_with fail
    obtain ⟨w4, hw4⟩ : ∃ x, x = w2.alloc (.cells #[.slice a2 n2 c2, .int .i64 R.2.2] 83) := ⟨_, rfl⟩
    rw [← hw4]
    have hxa : Ext w2 w4.drew := by rw [hw4]; exact ((Ext.rf _).al _).dr
    have h7 : w4.drew.heap[w2.heap.size]? = some (.cells #[.slice a2 n2 c2, .int .i64 R.2.2] 83 (0, 0)) := by rw [hw4]; exact alloc_new w2 _
    have h3 : w4.drew.heap[w.heap.size]? = some (.cells #[.int .i64 n, .int .i64 low, .int .i64 high] 101 (0, 0)) := hxa.blk P2.out
    have hy := hy2.tr hxa
    have HC := Lib.hid (HC2.out.ext hxa)
    have HR := Lib.hid (HR2.out.ext hxa)
    have HCS := Lib.hid (HCS2.out.ext hxa)
    have hgw : w.heap.size ≤ g := by omega
    have hg2 : g < w2.heap.size := HC2.out.lt
    clear hw4 hxa HCS2 HR2 HC2 hy2 P2
    generalize w2.heap.size = S at *
    have HLc := Lib.hid (fun w' (h : CurAt w' g R.2.1 R.2.2) => cur_Left g R.2.1 R.2.2 w' h)
    have HLr := Lib.hid (fun w' (h : RefAt w' w.heap.size (.agg #[.slice a2 n2 c2, .int .i64 R.2.2]) R.2.1 R.2.2) => ref_Left _ w.heap.size R.2.1 R.2.2 w' h)
    generalize (if R.2.2 = 0 then R.2.1.length else 0) = L at HLc HLr
    have hq1 : (R.2.2 == R.2.2) = true := by simp
    have hq2 : ((L : Int) == L) = true := by simp
    refine wp_region_ext (fun W => Ext w W ∧ W.heap[w.heap.size]? = some (.cells #[.int .i64 n, .int .i64 low, .int .i64 high] 101 (0, 0)) ∧ W.heap[S]? = some (.cells #[.slice a2 n2 c2, .int .i64 R.2.2] 83 (0, 0))) (by kernel_rfl) ⟨hy, h3, h7⟩ (fun hS => ?_)
    refine take_op 0 (v := ?_) rfl (by kernel_rfl) (by kernel_rfl) (by kernel_rfl) (Or.inl ⟨by rfl, ?_⟩) (by assumption) ?_
    rotate_left 1
    · (intro W hS; go_simp; try with_reducible rfl)
    (try simp only [Act.put, List.setIfInBounds_toArray, List.set_cons_zero, List.set_cons_succ])
    refine take_op 1 (v := ?_) rfl (by kernel_rfl) (by kernel_rfl) (by kernel_rfl) (Or.inl ⟨by rfl, ?_⟩) (by assumption) ?_
    rotate_left 1
    · (intro W hS; go_simp; try with_reducible rfl)
    (try simp only [Act.put, List.setIfInBounds_toArray, List.set_cons_zero, List.set_cons_succ])
    refine take_op 2 (v := ?_) rfl (by kernel_rfl) (by kernel_rfl) (by kernel_rfl) (Or.inl ⟨by rfl, ?_⟩) (by assumption) ?_
    rotate_left 1
    · (intro W hS; obtain ⟨-, hS3, hS7⟩ := hS; have k0 := blk hS3 0 rfl; have k1 := blk hS3 1 rfl; have k2 := blk hS3 2 rfl; have m0 := blk hS7 0 rfl; have m1 := blk hS7 1 rfl; go_simp; try with_reducible rfl)
    (try simp only [Act.put, List.setIfInBounds_toArray, List.set_cons_zero, List.set_cons_succ])
    refine take_op 3 (v := ?_) rfl (by kernel_rfl) (by kernel_rfl) (by kernel_rfl) (Or.inl ⟨by rfl, ?_⟩) (by assumption) ?_
    rotate_left 1
    · (intro W hS; go_simp; try with_reducible rfl)
    (try simp only [Act.put, List.setIfInBounds_toArray, List.set_cons_zero, List.set_cons_succ])
    refine take_op 4 (v := ?_) rfl (by kernel_rfl) (by kernel_rfl) (by kernel_rfl) (Or.inl ⟨by rfl, ?_⟩) (by assumption) ?_
    rotate_left 1
    · (intro W hS; obtain ⟨-, hS3, hS7⟩ := hS; have k0 := blk hS3 0 rfl; have k1 := blk hS3 1 rfl; have k2 := blk hS3 2 rfl; have m0 := blk hS7 0 rfl; have m1 := blk hS7 1 rfl; go_simp; try with_reducible rfl)
    (try simp only [Act.put, List.setIfInBounds_toArray, List.set_cons_zero, List.set_cons_succ])
    refine take_op 5 (v := ?_) rfl (by kernel_rfl) (by kernel_rfl) (by kernel_rfl) (Or.inl ⟨by rfl, ?_⟩) (by assumption) ?_
    rotate_left 1
    · (intro W hS; go_simp; try with_reducible rfl)
    (try simp only [Act.put, List.setIfInBounds_toArray, List.set_cons_zero, List.set_cons_succ])
    refine take_op 6 (v := ?_) rfl (by kernel_rfl) (by kernel_rfl) (by kernel_rfl) (Or.inl ⟨by rfl, ?_⟩) (by assumption) ?_
    rotate_left 1
    · (intro W hS; obtain ⟨-, hS3, hS7⟩ := hS; have k0 := blk hS3 0 rfl; have k1 := blk hS3 1 rfl; have k2 := blk hS3 2 rfl; have m0 := blk hS7 0 rfl; have m1 := blk hS7 1 rfl; go_simp; try with_reducible rfl)
    (try simp only [Act.put, List.setIfInBounds_toArray, List.set_cons_zero, List.set_cons_succ])
    refine take_op 8 (v := ?_) rfl (by kernel_rfl) (by kernel_rfl) (by kernel_rfl) (Or.inl ⟨by rfl, ?_⟩) (by assumption) ?_
    rotate_left 1
    · (intro W hS; go_simp; try with_reducible rfl)
    (try simp only [Act.put, List.setIfInBounds_toArray, List.set_cons_zero, List.set_cons_succ])
    refine do_op 7 rfl (by kernel_rfl) (fun K hK => ?_)
    go_simp; (with_reducible refine (HT.out g _ HC.out).mono ?_); rintro e w5 ⟨ao5, cap5, rfl, hcs5, hf5, hcu5, hg5⟩
    refine hK.out _ _ ⟨ext_grown hy hg5 hgw, (hg5.block _ (Array.getElem?_eq_some_iff.1 h3).1 (by simp; omega)).trans h3, (hg5.block _ (Array.getElem?_eq_some_iff.1 h7).1 (by simp; omega)).trans h7⟩ (fun hS => ?_)
    clear hK K
    (try simp only [Act.put, List.setIfInBounds_toArray, List.set_cons_zero, List.set_cons_succ])
    replace h3 := (hg5.block _ (Array.getElem?_eq_some_iff.1 h3).1 (by simp; omega)).trans h3; replace h7 := (hg5.block _ (Array.getElem?_eq_some_iff.1 h7).1 (by simp; omega)).trans h7; replace hy := ext_grown hy hg5 hgw; replace HR := Lib.hid (HR.out.call hg5 hgw); replace HCS := Lib.hid (HCS.out.grown hg5 (fun ad e => (by have := HF2.out ad e; omega))); replace HC := Lib.hid hcu5
    refine do_op 9 rfl (by kernel_rfl) (fun K hK => ?_)
    go_simp; (with_reducible refine (runsref_IntsN _ _ _ _ _ _ R.1 _ hcs5 HCS.out rfl rfl (by omega)).mono ?_); rintro e w6 ⟨rfl, hx6⟩
    refine hK.out _ _ ⟨hy.tr hx6, hx6.blk h3, hx6.blk h7⟩ (fun hS => ?_)
    clear hK K
    (try simp only [Act.put, List.setIfInBounds_toArray, List.set_cons_zero, List.set_cons_succ])
    replace hy := hy.tr hx6; replace h3 := hx6.blk h3; replace h7 := hx6.blk h7; replace HC := Lib.hid (HC.out.ext hx6); replace HR := Lib.hid (HR.out.ext hx6)
    refine take_op 10 (v := ?_) rfl (by kernel_rfl) (by kernel_rfl) (by kernel_rfl) (Or.inl ⟨by rfl, ?_⟩) (by assumption) ?_
    rotate_left 1
    · (intro W hS; go_simp; try with_reducible rfl)
    (try simp only [Act.put, List.setIfInBounds_toArray, List.set_cons_zero, List.set_cons_succ])
    refine take_op 11 (v := ?_) rfl (by kernel_rfl) (by kernel_rfl) (by kernel_rfl) (Or.inl ⟨by rfl, ?_⟩) (by assumption) ?_
    rotate_left 1
    · (intro W hS; go_simp; try with_reducible rfl)
    (try simp only [Act.put, List.setIfInBounds_toArray, List.set_cons_zero, List.set_cons_succ])
    refine take_op 13 (v := ?_) rfl (by kernel_rfl) (by kernel_rfl) (by kernel_rfl) (Or.inl ⟨by rfl, ?_⟩) (by assumption) ?_
    rotate_left 1
    · (intro W hS; go_simp; try with_reducible rfl)
    (try simp only [Act.put, List.setIfInBounds_toArray, List.set_cons_zero, List.set_cons_succ])
    refine take_op 14 (v := ?_) rfl (by kernel_rfl) (by kernel_rfl) (by kernel_rfl) (Or.inl ⟨by rfl, ?_⟩) (by assumption) ?_
    rotate_left 1
    · (intro W hS; obtain ⟨-, hS3, hS7⟩ := hS; have k0 := blk hS3 0 rfl; have k1 := blk hS3 1 rfl; have k2 := blk hS3 2 rfl; have m0 := blk hS7 0 rfl; have m1 := blk hS7 1 rfl; go_simp; try with_reducible rfl)
    (try simp only [Act.put, List.setIfInBounds_toArray, List.set_cons_zero, List.set_cons_succ])
    refine do_op 12 rfl (by kernel_rfl) (fun K hK => ?_)
    go_simp; (with_reducible refine (cur_Err g R.2.1 R.2.2 _ HC.out).mono ?_); rintro e w7 ⟨rfl, rfl⟩
    refine hK.out _ _ ⟨hy, h3, h7⟩ (fun hS => ?_)
    clear hK K
    (try simp only [Act.put, List.setIfInBounds_toArray, List.set_cons_zero, List.set_cons_succ])
    refine take_op 15 (v := ?_) rfl (by kernel_rfl) (by kernel_rfl) (by kernel_rfl) (Or.inl ⟨by rfl, ?_⟩) (by assumption) ?_
    rotate_left 1
    · (intro W hS; go_simp; try with_reducible rfl)
    (try simp only [Act.put, List.setIfInBounds_toArray, List.set_cons_zero, List.set_cons_succ])
    refine take_op 16 (v := ?_) rfl (by kernel_rfl) (by kernel_rfl) (by kernel_rfl) (Or.inl ⟨by rfl, ?_⟩) (by assumption) ?_
    rotate_left 1
    · (intro W hS; go_simp; try with_reducible rfl)
    (try simp only [Act.put, List.setIfInBounds_toArray, List.set_cons_zero, List.set_cons_succ])
    refine take_op 17 (v := ?_) rfl (by kernel_rfl) (by kernel_rfl) (by kernel_rfl) (Or.inl ⟨by rfl, ?_⟩) (by assumption) ?_
    rotate_left 1
    · (intro W hS; go_simp; try with_reducible rfl)
    (try simp only [Act.put, List.setIfInBounds_toArray, List.set_cons_zero, List.set_cons_succ])
    refine take_op 18 (v := ?_) rfl (by kernel_rfl) (by kernel_rfl) (by kernel_rfl) (Or.inl ⟨by rfl, ?_⟩) (by assumption) ?_
    rotate_left 1
    · (intro W hS; go_simp; try with_reducible rfl)
    (try simp only [Act.put, List.setIfInBounds_toArray, List.set_cons_zero, List.set_cons_succ])
    refine take_op 20 (v := ?_) rfl (by kernel_rfl) (by kernel_rfl) (by kernel_rfl) (Or.inl ⟨by rfl, ?_⟩) (by assumption) ?_
    rotate_left 1
    · (intro W hS; obtain ⟨-, hS3, hS7⟩ := hS; have k0 := blk hS3 0 rfl; have k1 := blk hS3 1 rfl; have k2 := blk hS3 2 rfl; have m0 := blk hS7 0 rfl; have m1 := blk hS7 1 rfl; go_simp; try with_reducible rfl)
    (try simp only [Act.put, List.setIfInBounds_toArray, List.set_cons_zero, List.set_cons_succ])
    refine do_op 19 rfl (by kernel_rfl) (fun K hK => ?_)
    go_simp; (with_reducible refine (HLc.out _ HC.out).mono ?_); rintro e w7 ⟨rfl, rfl⟩
    refine hK.out _ _ ⟨hy, h3, h7⟩ (fun hS => ?_)
    clear hK K
    (try simp only [Act.put, List.setIfInBounds_toArray, List.set_cons_zero, List.set_cons_succ])
    refine do_op 21 rfl (by kernel_rfl) (fun K hK => ?_)
    go_simp; (with_reducible refine (HLr.out _ HR.out).mono ?_); rintro e w8 ⟨rfl, hx8⟩
    refine hK.out _ _ ⟨hy.tr hx8, hx8.blk h3, hx8.blk h7⟩ (fun hS => ?_)
    clear hK K
    (try simp only [Act.put, List.setIfInBounds_toArray, List.set_cons_zero, List.set_cons_succ])
    replace hy := hy.tr hx8; replace h3 := hx8.blk h3; replace h7 := hx8.blk h7
    refine take_op 22 (v := ?_) rfl (by kernel_rfl) (by kernel_rfl) (by kernel_rfl) (Or.inl ⟨by rfl, ?_⟩) (by assumption) ?_
    rotate_left 1
    · (intro W hS; go_simp; try with_reducible rfl)
    (try simp only [Act.put, List.setIfInBounds_toArray, List.set_cons_zero, List.set_cons_succ])
    refine take_op 23 (v := ?_) rfl (by kernel_rfl) (by kernel_rfl) (by kernel_rfl) (Or.inl ⟨by rfl, ?_⟩) (by assumption) ?_
    rotate_left 1
    · (intro W hS; go_simp; try with_reducible rfl)
    (try simp only [Act.put, List.setIfInBounds_toArray, List.set_cons_zero, List.set_cons_succ])
    refine take_op 24 (v := ?_) rfl (by kernel_rfl) (by kernel_rfl) (by kernel_rfl) (Or.inl ⟨by rfl, ?_⟩) (by assumption) ?_
    rotate_left 1
    · (intro W hS; go_simp; try with_reducible rfl)
    (try simp only [Act.put, List.setIfInBounds_toArray, List.set_cons_zero, List.set_cons_succ])
    refine do_op 25 rfl (by kernel_rfl) (fun K hK => ?_)
    go_simp; (with_reducible refine (runs_lives _).mono ?_); rintro e w9 ⟨rfl, hx9⟩
    refine hK.out _ _ ⟨hy.tr hx9, hx9.blk h3, hx9.blk h7⟩ (fun hS => ?_)
    clear hK K
    (try simp only [Act.put, List.setIfInBounds_toArray, List.set_cons_zero, List.set_cons_succ])
    replace hy := hy.tr hx9
    refine take_op 26 (v := ?_) rfl (by kernel_rfl) (by kernel_rfl) (by kernel_rfl) (Or.inl ⟨by rfl, ?_⟩) (by assumption) ?_
    rotate_left 1
    · (intro W hS; go_simp; try with_reducible rfl)
    (try simp only [Act.put, List.setIfInBounds_toArray, List.set_cons_zero, List.set_cons_succ])
    refine take_op 27 (v := ?_) rfl (by kernel_rfl) (by kernel_rfl) (by kernel_rfl) (Or.inl ⟨by rfl, ?_⟩) (by assumption) ?_
    rotate_left 1
    · (intro W hS; go_simp; try with_reducible rfl)
    (try simp only [Act.put, List.setIfInBounds_toArray, List.set_cons_zero, List.set_cons_succ])
    refine wpAnyH_done (by kernel_rfl) ?_ _
    refine NoPanic.normal ?_
    go_wp2_with fail
    go_ret
    exact ⟨rfl, hy⟩
end Go.Proofs.Ytfeddkfpkdjbeaa
