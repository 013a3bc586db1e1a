/- CursorReads: what any calls take from any bytes is what the page says. -/
import Derived.Test.YtfeddkfpkdjbeaaOne
import Derived.Test.YtfeddkfpkdjbeaaOpen2
namespace Go.Proofs.Ytfeddkfpkdjbeaa
open Go.RowKit

/-- Any calls: pairs of a kind and a number. -/
theorem open_asks {H : Type} {enc : TypeId × Value → H} {w : World} {base : Nat} {spare : Nat → Bool} {held : Bool} {a : Option Addr} {len cap : Nat} {d : DataW H} {p : List MemPlace} (h : DataW.Trod enc Try.prog w base spare held 81 (.slice a len cap) d p) :
    ∃ z : List (Int × Int), len = z.length ∧ Cells w a (z.flatMap pairC) ∧ ∀ p ∈ z, (Lit.int .i64 p.1).wf = true ∧ (Lit.int .i64 p.2).wf = true :=
  open_flat2 (size := 2) (opens_slice Try.underlying81 (by kernel_rfl) (opens_pairB Try.underlying87 (by kernel_rfl) ⟨rfl, rfl⟩ ⟨rfl, rfl⟩ Try.underlying3 Try.underlying3 (by kernel_rfl) (by kernel_rfl))) h

theorem Ext.fresh {w w1 w2 : World} {g : Nat} (h : Ext w w1) (hg : w1.grownBy w2 (some g)) (hb : w.heap.size ≤ g) : Ext w w2 := ext_grown h hg hb
theorem Ext.setF {w w' : World} {s : Nat} (h : Ext w w') (hs : w.heap.size ≤ s) (j : Nat) (v : Value) : Ext w (w'.setCell ⟨s, j, none⟩ v) := Below.setCell h.b (p := ⟨s, j, none⟩) hs v
theorem RefAt.form {W : World} {B : Nat} {v : Value} {bs : List UInt8} {er : Int} (h : RefAt W B v bs er) : ∃ ao n cap, v = .agg #[.slice ao n cap, .int .i64 er] := by
  obtain ⟨bs0, ao, cap, rfl, _⟩ := h
  exact ⟨_, _, _, rfl⟩

set_option maxHeartbeats 4000000 in
set_option maxRecDepth 20000 in
theorem CursorReads_walk (ao0 : Option Addr) (cap0 : Nat) (b0 : List UInt8) (ao1 : Option Addr) (cap1 : Nat) (l1 : List (Int × Int)) (w : World) (hl0 : Cells w ao0 (b0.map byteC) ∧ b0.length ≤ cap0 ∧ b0.length ≤ 140737488351232)
    (hl1 : Cells w ao1 (l1.flatMap pairC) ∧ ∀ p ∈ l1, (Lit.int .i64 p.1).wf = true ∧ (Lit.int .i64 p.2).wf = true) :
    Calls Try.prog 10 #[.slice ao0 b0.length cap0, .slice ao1 l1.length cap1] w fun e w' => e = .returned (.bool true) ∧ Ext w w' := by
  obtain ⟨hc0, hcap, hlen⟩ := hl0
  obtain ⟨hc1, hb1⟩ := hl1
  have HC1 := Lib.hid hc1
  have HB1 := Lib.hid hb1
  have hlow : Lower w.heap.size ao0 b0 := fun hne ad e => by
    subst e
    obtain ⟨bk, off, e2⟩ := hc0.addr (by simpa using hne)
    cases e2
    exact hc0.lt (by simpa using hne)
  have HL := Lib.hid hlow
  have HC0 := Lib.hid hc0
  clear hlow hb1
  go_enter Try.func10, Try.ntmps10
  go_wp2_with fail
  refine (cur_New _ _ _ _ HC0.out hlen).mono ?_
  rintro e w1 ⟨g, rfl, hg, hcu, hx⟩
  have HCU := Lib.hid hcu
  have HX1 := Lib.hid hx
  clear hcu hx
  go_wp2_with fail
  obtain ⟨w2, hw2⟩ : ∃ w2, w2 = w1.alloc (.cells #[.slice ao0 b0.length cap0, .int .i64 0] 83) := ⟨_, rfl⟩
  rw [← hw2]
  have hD1 := HX1.out.size
  have hD2 := HCU.out.lt
  have hxa : Ext w1 w2 := by rw [hw2]; exact (Ext.rf _).al _
  have E0 := Lib.hid (show w2.heap[w1.heap.size]? = some (.cells #[.slice ao0 b0.length cap0, .int .i64 0] 83 (0, 0)) by rw [hw2]; exact alloc_new w1 _)
  have hR0 := Lib.hid (show RefAt w2 w.heap.size (.agg #[.slice ao0 b0.length cap0, .int .i64 0]) b0 0 from ⟨b0, ao0, cap0, rfl, (HC0.out.ext HX1.out).ext hxa, ⟨HL.out, hcap⟩, fun _ => rfl⟩)
  have hC0 := Lib.hid (HCU.out.ext hxa)
  have hX0 := Lib.hid (HX1.out.tr hxa)
  clear hw2 hxa hcap hc0 hc1
  go_loopw [7] (fun i wr => ∃ (k : Nat) (bs : List UInt8) (er : Int) (ao : Option Addr) (n cap : Nat), k ≤ l1.length ∧ k ≤ 40 ∧ i = .int .i64 k ∧ Hid (CurAt wr g bs er) ∧ Hid (wr.heap[w1.heap.size]? = some (.cells #[.slice ao n cap, .int .i64 er] 83 (0, 0))) ∧ Hid (RefAt wr w.heap.size (.agg #[.slice ao n cap, .int .i64 er]) bs er) ∧ Hid (Ext w wr) ∧ bs.length ≤ b0.length)
    (fun i _ => l1.length - (intOf i).toNat)
  case atStart => exact ⟨0, b0, 0, _, _, _, Nat.zero_le _, Nat.zero_le _, rfl, hC0, E0, hR0, hX0, Nat.le_refl _⟩
  case round =>
    obtain ⟨k, bs, er, ao, n, cap, hk1, hk2, rfl, HC, HE, HR, HX, hbs⟩ := hrel
    clear hC0 E0 hR0 hX0
    by_cases hlt : k < l1.length
    · by_cases h40 : k < 40
      · obtain ⟨b, off, rfl, c1, c2⟩ := (HC1.out.ext HX.out).pair (k := k) hlt
        have i1 : (0 : Int) ≤ k := by omega
        have i2 : (k : Int) < l1.length := by omega
        obtain ⟨hw1, hw2⟩ := HB1.out _ (List.getElem_mem hlt)
        have hw2 := wf_i64 hw2
        have hbl := HC1.out.lt (by intro e; rw [List.flatMap_eq_nil_iff] at e; exact absurd (e _ (List.getElem_mem hlt)) (by simp [pairC]))
        generalize l1[k] = q at *
        obtain ⟨q1, q2⟩ := q
        have hg0 := HX.out.size
        have HO := Lib.hid (fun w' (hx : Ext wr w') => law_one w.heap.size g _ bs er q1 q2 w' (HC.out.ext hx) (HR.out.ext hx) (Nat.le_trans hg0 hx.size) hg (by omega) hw2.1 hw2.2)
        have HOL := Lib.hid (oneS_len bs er q1 q2 hw2.2)
        have k0 : wr.cell? ⟨w1.heap.size, 0, none⟩ = some (.slice ao n cap) := blk HE.out 0 rfl
        have k1 : wr.cell? ⟨w1.heap.size, 1, none⟩ = some (.int .i64 er) := blk HE.out 1 rfl
        have hDr := (Array.getElem?_eq_some_iff.1 HE.out).1
        generalize oneS bs er q1 q2 = G at *
        clear hw1 hw2
        go_wp2_with fail
        have n0 := World.new_ne wr _ k0
        have n2 := World.new_ne wr _ c1
        have ZA := Lib.hid ((Ext.rf wr).dr)
        have ZB := Lib.hid (((Ext.rf wr).al (.cells #[.slice none 0 0, .int .i64 0] 83)).dr)
        have Z4 := Lib.hid (alloc_new wr (.cells #[.slice none 0 0, .int .i64 0] 83))
        go_region_held3 (fun w' => w'.cell? ⟨w1.heap.size, 0, none⟩ = some (.slice ao n cap) ∧ w'.cell? ⟨w1.heap.size, 1, none⟩ = some (.int .i64 er) ∧ w'.cell? ⟨b, off + k * 2, none⟩ = some (.int .i64 q1) ∧ w'.cell? ⟨b, off + k * 2 + 1, none⟩ = some (.int .i64 q2)) (refine ⟨?_, ?_, ?_, ?_⟩ <;> first | assumption | go_keep | go_simp)
          (first | (go_at_call 57; refine (HO.out _ ZA.out).mono ?_; rintro e w3 ⟨v3, rfl, hc3, hr3, hg3⟩; have HC3 := Lib.hid hc3; have HR3 := Lib.hid hr3; have HG3 := Lib.hid hg3; obtain ⟨ao3, n3, cap3, rfl⟩ := hr3.form; have k0 : w3.cell? ⟨w1.heap.size, 0, none⟩ = some (.slice ao n cap) := hg3.cell (ZA.out.has k0) (by simp; omega); have k1 : w3.cell? ⟨w1.heap.size, 1, none⟩ = some (.int .i64 er) := hg3.cell (ZA.out.has k1) (by simp; omega); have c1 : w3.cell? ⟨b, off + k * 2, none⟩ = some (.int .i64 q1) := hg3.cell (ZA.out.has c1) (by simp; omega); have c2 : w3.cell? ⟨b, off + k * 2 + 1, none⟩ = some (.int .i64 q2) := hg3.cell (ZA.out.has c2) (by simp; omega); have HD3 := Lib.hid ((hg3.block _ (Array.getElem?_eq_some_iff.1 (ZA.out.blk HE.out)).1 (by simp; omega)).trans (ZA.out.blk HE.out)); have n0 := World.new_ne w3 _ k0; have n2 := World.new_ne w3 _ c1; clear hc3 hr3 hg3) | (go_at_call 57; refine (HO.out _ ZB.out).mono ?_; rintro e w3 ⟨v3, rfl, hc3, hr3, hg3⟩; have HC3 := Lib.hid hc3; have HR3 := Lib.hid hr3; have HG3 := Lib.hid hg3; obtain ⟨ao3, n3, cap3, rfl⟩ := hr3.form; have k0 : w3.cell? ⟨w1.heap.size, 0, none⟩ = some (.slice ao n cap) := hg3.cell (ZB.out.has k0) (by simp; omega); have k1 : w3.cell? ⟨w1.heap.size, 1, none⟩ = some (.int .i64 er) := hg3.cell (ZB.out.has k1) (by simp; omega); have c1 : w3.cell? ⟨b, off + k * 2, none⟩ = some (.int .i64 q1) := hg3.cell (ZB.out.has c1) (by simp; omega); have c2 : w3.cell? ⟨b, off + k * 2 + 1, none⟩ = some (.int .i64 q2) := hg3.cell (ZB.out.has c2) (by simp; omega); have HD3 := Lib.hid ((hg3.block _ (Array.getElem?_eq_some_iff.1 (ZB.out.blk HE.out)).1 (by simp; omega)).trans (ZB.out.blk HE.out)); have HN3 := Lib.hid ((hg3.block wr.heap.size (by simp [World.drew]) (by simp; omega)).trans Z4.out); have e0 := blk HN3.out 0 rfl; have e1 := blk HN3.out 1 rfl; have f0 := frozen_blk HN3.out 0; have f1 := frozen_blk HN3.out 1; clear hc3 hr3 hg3))
        · obtain ⟨W5, hW5⟩ : ∃ W, W = w3.alloc (.cells #[.slice ao3 n3 cap3, .int .i64 G.2] 83) := ⟨_, rfl⟩
          rw [← hW5]
          have hxa : Ext w3 W5 := by rw [hW5]; exact (Ext.rf _).al _
          have HC5 := Lib.hid (HC3.out.ext hxa)
          have HR5 := Lib.hid (HR3.out.ext hxa)
          have HX5 := Lib.hid ((ext_grown (HX.out.tr ZA.out) HG3.out hg).tr hxa)
          have H8 := Lib.hid (show W5.heap[w3.heap.size]? = some (.cells #[.slice ao3 n3 cap3, .int .i64 G.2] 83 (0, 0)) by rw [hW5]; exact alloc_new w3 _)
          have HD5 := Lib.hid (hxa.blk HD3.out)
          clear hW5 hxa
          have hgs : g < w3.heap.size := HC3.out.lt
          have hsD : w3.heap.size ≠ w1.heap.size := by have := (Array.getElem?_eq_some_iff.1 HD3.out).1; omega
          generalize w3.heap.size = S at *
          clear k0 k1 c1 c2 n0 n2 ZA Z4 HD3 HR3 HC3
          have e0 : W5.cell? ⟨S, 0, none⟩ = some (.slice ao3 n3 cap3) := blk H8.out 0 rfl
          have e1 : W5.cell? ⟨S, 1, none⟩ = some (.int .i64 G.2) := blk H8.out 1 rfl
          have k0 : W5.cell? ⟨w1.heap.size, 0, none⟩ = some (.slice ao n cap) := blk HD5.out 0 rfl
          have k1 : W5.cell? ⟨w1.heap.size, 1, none⟩ = some (.int .i64 er) := blk HD5.out 1 rfl
          have f0 := frozen_blk HD5.out 0
          have f1 := frozen_blk HD5.out 1
          go_wp2_with fail
          obtain ⟨W6, hW6⟩ : ∃ W, W = (W5.setCell ⟨w1.heap.size, 0, none⟩ (.slice ao3 n3 cap3)).setCell ⟨w1.heap.size, 1, none⟩ (.int .i64 G.2) := ⟨_, rfl⟩
          rw [← hW6]
          have HC6 := Lib.hid (show CurAt W6 g G.1 G.2 by rw [hW6]; exact HC5.out.set2 HD5.out (by omega) _ _)
          have HR6 := Lib.hid (show RefAt W6 w.heap.size (.agg #[.slice ao3 n3 cap3, .int .i64 G.2]) G.1 G.2 by rw [hW6]; exact (HR5.out.grown (grown_set _ _ 0 _) hD1).grown (grown_set _ _ 1 _) hD1)
          have HX6 := Lib.hid (show Ext w W6 by rw [hW6]; exact (HX5.out.setF hD1 _ _).setF hD1 _ _)
          have HD6 := Lib.hid (show W6.heap[w1.heap.size]? = some (.cells #[.slice ao3 n3 cap3, .int .i64 G.2] 83 (0, 0)) by rw [hW6]; exact set2 HD5.out _ _)
          have k0 : W6.cell? ⟨w1.heap.size, 0, none⟩ = some (.slice ao3 n3 cap3) := blk HD6.out 0 rfl
          have k1 : W6.cell? ⟨w1.heap.size, 1, none⟩ = some (.int .i64 G.2) := blk HD6.out 1 rfl
          clear hW6 HC5 HR5 HX5 H8 HD5 e0 e1 f0 f1
          have hq1 : (G.2 != G.2) = false := by simp
          have HLc := Lib.hid (fun w' (h : Ext W6 w') => cur_Left g G.1 G.2 w' (HC6.out.ext h))
          have HLr := Lib.hid (fun w' (h : Ext W6 w') => ref_Left _ w.heap.size G.1 G.2 w' (HR6.out.ext h))
          have HEc := Lib.hid (fun w' (h : Ext W6 w') => cur_End g G.1 G.2 w' (HC6.out.ext h))
          have HEr := Lib.hid (fun w' (h : Ext W6 w') => ref_End _ w.heap.size G.1 G.2 w' (HR6.out.ext h))
          generalize (if G.2 = 0 then G.1.length else 0) = L at HLc HLr
          generalize endS G.1 G.2 = E at HEc HEr
          have hq2 : ((L : Int) != L) = false := by simp
          have hq3 : (E != E) = false := by simp
          refine wp_region_ext (fun W => Ext W6 W) (by kernel_rfl) ((Ext.rf _).dr) (fun hS0 => ?_)
          refine take_op 0 (v := ?_) rfl (by kernel_rfl) (by kernel_rfl) (by kernel_rfl) (Or.inl ⟨by rfl, ?_⟩) (by assumption) ?_
          rotate_left 1
          · (intro W hS; go_simp; try with_reducible rfl)
          (try simp only [Act.put, List.setIfInBounds_toArray, List.set_cons_zero, List.set_cons_succ])
          refine take_op 1 (v := ?_) rfl (by kernel_rfl) (by kernel_rfl) (by kernel_rfl) (Or.inl ⟨by rfl, ?_⟩) (by assumption) ?_
          rotate_left 1
          · (intro W hS; go_simp; try with_reducible rfl)
          (try simp only [Act.put, List.setIfInBounds_toArray, List.set_cons_zero, List.set_cons_succ])
          refine take_op 2 (v := ?_) rfl (by kernel_rfl) (by kernel_rfl) (by kernel_rfl) (Or.inl ⟨by rfl, ?_⟩) (by assumption) ?_
          rotate_left 1
          · (intro W hS; go_simp; try with_reducible rfl)
          (try simp only [Act.put, List.setIfInBounds_toArray, List.set_cons_zero, List.set_cons_succ])
          refine take_op 3 (v := ?_) rfl (by kernel_rfl) (by kernel_rfl) (by kernel_rfl) (Or.inl ⟨by rfl, ?_⟩) (by assumption) ?_
          rotate_left 1
          · (intro W hS; go_simp; try with_reducible rfl)
          (try simp only [Act.put, List.setIfInBounds_toArray, List.set_cons_zero, List.set_cons_succ])
          refine take_op 5 (v := ?_) rfl (by kernel_rfl) (by kernel_rfl) (by kernel_rfl) (Or.inl ⟨by rfl, ?_⟩) (by assumption) ?_
          rotate_left 1
          · (intro W hS; go_simp; try with_reducible rfl)
          (try simp only [Act.put, List.setIfInBounds_toArray, List.set_cons_zero, List.set_cons_succ])
          refine take_op 6 (v := ?_) rfl (by kernel_rfl) (by kernel_rfl) (by kernel_rfl) (Or.inl ⟨by rfl, ?_⟩) (by assumption) ?_
          rotate_left 1
          · (intro W hS; have k0 := hS.has k0; have k1 := hS.has k1; go_simp; try with_reducible rfl)
          (try simp only [Act.put, List.setIfInBounds_toArray, List.set_cons_zero, List.set_cons_succ])
          refine do_op 4 rfl (by kernel_rfl) (fun K hK => ?_)
          go_simp; (with_reducible refine (cur_Err g G.1 G.2 _ (HC6.out.ext (Ext.rf _).dr)).mono ?_); rintro e w7 ⟨rfl, rfl⟩
          refine hK.out _ _ ((Ext.rf _).dr) (fun hS => ?_)
          clear hK K
          (try simp only [Act.put, List.setIfInBounds_toArray, List.set_cons_zero, List.set_cons_succ])
          refine take_op 7 (v := ?_) rfl (by kernel_rfl) (by kernel_rfl) (by kernel_rfl) (Or.inl ⟨by rfl, ?_⟩) (by assumption) ?_
          rotate_left 1
          · (intro W hS; go_simp; try with_reducible rfl)
          (try simp only [Act.put, List.setIfInBounds_toArray, List.set_cons_zero, List.set_cons_succ])
          refine take_op 8 (v := ?_) rfl (by kernel_rfl) (by kernel_rfl) (by kernel_rfl) (Or.inl ⟨by rfl, ?_⟩) (by assumption) ?_
          rotate_left 1
          · (intro W hS; go_simp; try with_reducible rfl)
          (try simp only [Act.put, List.setIfInBounds_toArray, List.set_cons_zero, List.set_cons_succ])
          refine take_op 9 (v := ?_) rfl (by kernel_rfl) (by kernel_rfl) (by kernel_rfl) (Or.inl ⟨by rfl, ?_⟩) (by assumption) ?_
          rotate_left 1
          · (intro W hS; go_simp; try with_reducible rfl)
          (try simp only [Act.put, List.setIfInBounds_toArray, List.set_cons_zero, List.set_cons_succ])
          refine take_op 10 (v := ?_) rfl (by kernel_rfl) (by kernel_rfl) (by kernel_rfl) (Or.inl ⟨by rfl, ?_⟩) (by assumption) ?_
          rotate_left 1
          · (intro W hS; go_simp; try with_reducible rfl)
          (try simp only [Act.put, List.setIfInBounds_toArray, List.set_cons_zero, List.set_cons_succ])
          refine take_op 12 (v := ?_) rfl (by kernel_rfl) (by kernel_rfl) (by kernel_rfl) (Or.inl ⟨by rfl, ?_⟩) (by assumption) ?_
          rotate_left 1
          · (intro W hS; have k0 := hS.has k0; have k1 := hS.has k1; go_simp; try with_reducible rfl)
          (try simp only [Act.put, List.setIfInBounds_toArray, List.set_cons_zero, List.set_cons_succ])
          refine do_op 11 rfl (by kernel_rfl) (fun K hK => ?_)
          go_simp; (with_reducible refine (HLc.out _ (Ext.rf _).dr).mono ?_); rintro e w7 ⟨rfl, rfl⟩
          refine hK.out _ _ ((Ext.rf _).dr) (fun hS => ?_)
          clear hK K
          (try simp only [Act.put, List.setIfInBounds_toArray, List.set_cons_zero, List.set_cons_succ])
          refine do_op 13 rfl (by kernel_rfl) (fun K hK => ?_)
          go_simp; (with_reducible refine (HLr.out _ (Ext.rf _).dr).mono ?_); rintro e w7 ⟨rfl, hx7⟩; have hy7 := (Ext.rf W6).dr.tr hx7
          refine hK.out _ _ hy7 (fun hS => ?_)
          clear hK K
          (try simp only [Act.put, List.setIfInBounds_toArray, List.set_cons_zero, List.set_cons_succ])
          refine take_op 14 (v := ?_) rfl (by kernel_rfl) (by kernel_rfl) (by kernel_rfl) (Or.inl ⟨by rfl, ?_⟩) (by assumption) ?_
          rotate_left 1
          · (intro W hS; go_simp; try with_reducible rfl)
          (try simp only [Act.put, List.setIfInBounds_toArray, List.set_cons_zero, List.set_cons_succ])
          refine take_op 15 (v := ?_) rfl (by kernel_rfl) (by kernel_rfl) (by kernel_rfl) (Or.inl ⟨by rfl, ?_⟩) (by assumption) ?_
          rotate_left 1
          · (intro W hS; go_simp; try with_reducible rfl)
          (try simp only [Act.put, List.setIfInBounds_toArray, List.set_cons_zero, List.set_cons_succ])
          refine take_op 16 (v := ?_) rfl (by kernel_rfl) (by kernel_rfl) (by kernel_rfl) (Or.inl ⟨by rfl, ?_⟩) (by assumption) ?_
          rotate_left 1
          · (intro W hS; go_simp; try with_reducible rfl)
          (try simp only [Act.put, List.setIfInBounds_toArray, List.set_cons_zero, List.set_cons_succ])
          refine take_op 17 (v := ?_) rfl (by kernel_rfl) (by kernel_rfl) (by kernel_rfl) (Or.inl ⟨by rfl, ?_⟩) (by assumption) ?_
          rotate_left 1
          · (intro W hS; go_simp; try with_reducible rfl)
          (try simp only [Act.put, List.setIfInBounds_toArray, List.set_cons_zero, List.set_cons_succ])
          refine take_op 19 (v := ?_) rfl (by kernel_rfl) (by kernel_rfl) (by kernel_rfl) (Or.inl ⟨by rfl, ?_⟩) (by assumption) ?_
          rotate_left 1
          · (intro W hS; have k0 := hS.has k0; have k1 := hS.has k1; go_simp; try with_reducible rfl)
          (try simp only [Act.put, List.setIfInBounds_toArray, List.set_cons_zero, List.set_cons_succ])
          refine do_op 18 rfl (by kernel_rfl) (fun K hK => ?_)
          go_simp; (with_reducible refine (HEc.out _ hy7).mono ?_); rintro e w8 ⟨rfl, rfl⟩
          refine hK.out _ _ hy7 (fun hS => ?_)
          clear hK K
          (try simp only [Act.put, List.setIfInBounds_toArray, List.set_cons_zero, List.set_cons_succ])
          refine do_op 20 rfl (by kernel_rfl) (fun K hK => ?_)
          go_simp; (with_reducible refine (HEr.out _ hy7).mono ?_); rintro e w9 ⟨rfl, hx9⟩; have hy9 := hy7.tr hx9
          refine hK.out _ _ hy9 (fun hS => ?_)
          clear hK K
          (try simp only [Act.put, List.setIfInBounds_toArray, List.set_cons_zero, List.set_cons_succ])
          refine take_op 21 (v := ?_) rfl (by kernel_rfl) (by kernel_rfl) (by kernel_rfl) (Or.inl ⟨by rfl, ?_⟩) (by assumption) ?_
          rotate_left 1
          · (intro W hS; go_simp; try with_reducible rfl)
          (try simp only [Act.put, List.setIfInBounds_toArray, List.set_cons_zero, List.set_cons_succ])
          refine take_op 22 (v := ?_) rfl (by kernel_rfl) (by kernel_rfl) (by kernel_rfl) (Or.inl ⟨by rfl, ?_⟩) (by assumption) ?_
          rotate_left 1
          · (intro W hS; go_simp; try with_reducible rfl)
          (try simp only [Act.put, List.setIfInBounds_toArray, List.set_cons_zero, List.set_cons_succ])
          refine wpAnyH_done (by kernel_rfl) ?_ _
          refine NoPanic.normal ?_
          go_wp2_with fail
          go_roundw
          case rel => exact ⟨k + 1, G.1, G.2, ao3, n3, cap3, by omega, by omega, by go_num, Lib.hid (HC6.out.ext hy9), Lib.hid (hy9.blk HD6.out), Lib.hid (HR6.out.ext hy9), Lib.hid (HX6.out.tr hy9), Nat.le_trans HOL.out hbs⟩
          case measure => simp [intOf]; omega
        · obtain ⟨W5, hW5⟩ : ∃ W, W = (w3.setCell ⟨wr.heap.size, 0, none⟩ (.slice ao3 n3 cap3)).setCell ⟨wr.heap.size, 1, none⟩ (.int .i64 G.2) := ⟨_, rfl⟩
          rw [← hW5]
          have HC5 := Lib.hid (show CurAt W5 g G.1 G.2 by rw [hW5]; exact HC3.out.set2 HN3.out (by have := HC.out.lt; omega) _ _)
          have HR5 := Lib.hid (show RefAt W5 w.heap.size (.agg #[.slice ao3 n3 cap3, .int .i64 G.2]) G.1 G.2 by rw [hW5]; exact (HR3.out.grown (grown_set _ _ 0 _) hg0).grown (grown_set _ _ 1 _) hg0)
          have HX5 := Lib.hid (show Ext w W5 by rw [hW5]; exact ((ext_grown (HX.out.tr ZB.out) HG3.out hg).setF hg0 _ _).setF hg0 _ _)
          have H8 := Lib.hid (show W5.heap[wr.heap.size]? = some (.cells #[.slice ao3 n3 cap3, .int .i64 G.2] 83 (0, 0)) by rw [hW5]; exact set2 HN3.out _ _)
          have HD5 := Lib.hid (show W5.heap[w1.heap.size]? = some (.cells #[.slice ao n cap, .int .i64 er] 83 (0, 0)) by rw [hW5]; exact (((grown_set _ _ 0 _).trans (grown_set _ _ 1 _)).block _ (Array.getElem?_eq_some_iff.1 HD3.out).1 (by simp; omega)).trans HD3.out)
          clear hW5
          have hgs : g < wr.heap.size := HC.out.lt
          have hsD : wr.heap.size ≠ w1.heap.size := n0
          generalize wr.heap.size = S at *
          clear e0 e1 f0 f1 k0 k1 c1 c2 n0 n2 ZA Z4 HN3 HD3 HR3 HC3
          have e0 : W5.cell? ⟨S, 0, none⟩ = some (.slice ao3 n3 cap3) := blk H8.out 0 rfl
          have e1 : W5.cell? ⟨S, 1, none⟩ = some (.int .i64 G.2) := blk H8.out 1 rfl
          have k0 : W5.cell? ⟨w1.heap.size, 0, none⟩ = some (.slice ao n cap) := blk HD5.out 0 rfl
          have k1 : W5.cell? ⟨w1.heap.size, 1, none⟩ = some (.int .i64 er) := blk HD5.out 1 rfl
          have f0 := frozen_blk HD5.out 0
          have f1 := frozen_blk HD5.out 1
          go_wp2_with fail
          obtain ⟨W6, hW6⟩ : ∃ W, W = (W5.setCell ⟨w1.heap.size, 0, none⟩ (.slice ao3 n3 cap3)).setCell ⟨w1.heap.size, 1, none⟩ (.int .i64 G.2) := ⟨_, rfl⟩
          rw [← hW6]
          have HC6 := Lib.hid (show CurAt W6 g G.1 G.2 by rw [hW6]; exact HC5.out.set2 HD5.out (by omega) _ _)
          have HR6 := Lib.hid (show RefAt W6 w.heap.size (.agg #[.slice ao3 n3 cap3, .int .i64 G.2]) G.1 G.2 by rw [hW6]; exact (HR5.out.grown (grown_set _ _ 0 _) hD1).grown (grown_set _ _ 1 _) hD1)
          have HX6 := Lib.hid (show Ext w W6 by rw [hW6]; exact (HX5.out.setF hD1 _ _).setF hD1 _ _)
          have HD6 := Lib.hid (show W6.heap[w1.heap.size]? = some (.cells #[.slice ao3 n3 cap3, .int .i64 G.2] 83 (0, 0)) by rw [hW6]; exact set2 HD5.out _ _)
          have k0 : W6.cell? ⟨w1.heap.size, 0, none⟩ = some (.slice ao3 n3 cap3) := blk HD6.out 0 rfl
          have k1 : W6.cell? ⟨w1.heap.size, 1, none⟩ = some (.int .i64 G.2) := blk HD6.out 1 rfl
          clear hW6 HC5 HR5 HX5 H8 HD5 e0 e1 f0 f1
          have hq1 : (G.2 != G.2) = false := by simp
          have HLc := Lib.hid (fun w' (h : Ext W6 w') => cur_Left g G.1 G.2 w' (HC6.out.ext h))
          have HLr := Lib.hid (fun w' (h : Ext W6 w') => ref_Left _ w.heap.size G.1 G.2 w' (HR6.out.ext h))
          have HEc := Lib.hid (fun w' (h : Ext W6 w') => cur_End g G.1 G.2 w' (HC6.out.ext h))
          have HEr := Lib.hid (fun w' (h : Ext W6 w') => ref_End _ w.heap.size G.1 G.2 w' (HR6.out.ext h))
          generalize (if G.2 = 0 then G.1.length else 0) = L at HLc HLr
          generalize endS G.1 G.2 = E at HEc HEr
          have hq2 : ((L : Int) != L) = false := by simp
          have hq3 : (E != E) = false := by simp
          refine wp_region_ext (fun W => Ext W6 W) (by kernel_rfl) ((Ext.rf _).dr) (fun hS0 => ?_)
          refine take_op 0 (v := ?_) rfl (by kernel_rfl) (by kernel_rfl) (by kernel_rfl) (Or.inl ⟨by rfl, ?_⟩) (by assumption) ?_
          rotate_left 1
          · (intro W hS; go_simp; try with_reducible rfl)
          (try simp only [Act.put, List.setIfInBounds_toArray, List.set_cons_zero, List.set_cons_succ])
          refine take_op 1 (v := ?_) rfl (by kernel_rfl) (by kernel_rfl) (by kernel_rfl) (Or.inl ⟨by rfl, ?_⟩) (by assumption) ?_
          rotate_left 1
          · (intro W hS; go_simp; try with_reducible rfl)
          (try simp only [Act.put, List.setIfInBounds_toArray, List.set_cons_zero, List.set_cons_succ])
          refine take_op 2 (v := ?_) rfl (by kernel_rfl) (by kernel_rfl) (by kernel_rfl) (Or.inl ⟨by rfl, ?_⟩) (by assumption) ?_
          rotate_left 1
          · (intro W hS; go_simp; try with_reducible rfl)
          (try simp only [Act.put, List.setIfInBounds_toArray, List.set_cons_zero, List.set_cons_succ])
          refine take_op 3 (v := ?_) rfl (by kernel_rfl) (by kernel_rfl) (by kernel_rfl) (Or.inl ⟨by rfl, ?_⟩) (by assumption) ?_
          rotate_left 1
          · (intro W hS; go_simp; try with_reducible rfl)
          (try simp only [Act.put, List.setIfInBounds_toArray, List.set_cons_zero, List.set_cons_succ])
          refine take_op 5 (v := ?_) rfl (by kernel_rfl) (by kernel_rfl) (by kernel_rfl) (Or.inl ⟨by rfl, ?_⟩) (by assumption) ?_
          rotate_left 1
          · (intro W hS; go_simp; try with_reducible rfl)
          (try simp only [Act.put, List.setIfInBounds_toArray, List.set_cons_zero, List.set_cons_succ])
          refine take_op 6 (v := ?_) rfl (by kernel_rfl) (by kernel_rfl) (by kernel_rfl) (Or.inl ⟨by rfl, ?_⟩) (by assumption) ?_
          rotate_left 1
          · (intro W hS; have k0 := hS.has k0; have k1 := hS.has k1; go_simp; try with_reducible rfl)
          (try simp only [Act.put, List.setIfInBounds_toArray, List.set_cons_zero, List.set_cons_succ])
          refine do_op 4 rfl (by kernel_rfl) (fun K hK => ?_)
          go_simp; (with_reducible refine (cur_Err g G.1 G.2 _ (HC6.out.ext (Ext.rf _).dr)).mono ?_); rintro e w7 ⟨rfl, rfl⟩
          refine hK.out _ _ ((Ext.rf _).dr) (fun hS => ?_)
          clear hK K
          (try simp only [Act.put, List.setIfInBounds_toArray, List.set_cons_zero, List.set_cons_succ])
          refine take_op 7 (v := ?_) rfl (by kernel_rfl) (by kernel_rfl) (by kernel_rfl) (Or.inl ⟨by rfl, ?_⟩) (by assumption) ?_
          rotate_left 1
          · (intro W hS; go_simp; try with_reducible rfl)
          (try simp only [Act.put, List.setIfInBounds_toArray, List.set_cons_zero, List.set_cons_succ])
          refine take_op 8 (v := ?_) rfl (by kernel_rfl) (by kernel_rfl) (by kernel_rfl) (Or.inl ⟨by rfl, ?_⟩) (by assumption) ?_
          rotate_left 1
          · (intro W hS; go_simp; try with_reducible rfl)
          (try simp only [Act.put, List.setIfInBounds_toArray, List.set_cons_zero, List.set_cons_succ])
          refine take_op 9 (v := ?_) rfl (by kernel_rfl) (by kernel_rfl) (by kernel_rfl) (Or.inl ⟨by rfl, ?_⟩) (by assumption) ?_
          rotate_left 1
          · (intro W hS; go_simp; try with_reducible rfl)
          (try simp only [Act.put, List.setIfInBounds_toArray, List.set_cons_zero, List.set_cons_succ])
          refine take_op 10 (v := ?_) rfl (by kernel_rfl) (by kernel_rfl) (by kernel_rfl) (Or.inl ⟨by rfl, ?_⟩) (by assumption) ?_
          rotate_left 1
          · (intro W hS; go_simp; try with_reducible rfl)
          (try simp only [Act.put, List.setIfInBounds_toArray, List.set_cons_zero, List.set_cons_succ])
          refine take_op 12 (v := ?_) rfl (by kernel_rfl) (by kernel_rfl) (by kernel_rfl) (Or.inl ⟨by rfl, ?_⟩) (by assumption) ?_
          rotate_left 1
          · (intro W hS; have k0 := hS.has k0; have k1 := hS.has k1; go_simp; try with_reducible rfl)
          (try simp only [Act.put, List.setIfInBounds_toArray, List.set_cons_zero, List.set_cons_succ])
          refine do_op 11 rfl (by kernel_rfl) (fun K hK => ?_)
          go_simp; (with_reducible refine (HLc.out _ (Ext.rf _).dr).mono ?_); rintro e w7 ⟨rfl, rfl⟩
          refine hK.out _ _ ((Ext.rf _).dr) (fun hS => ?_)
          clear hK K
          (try simp only [Act.put, List.setIfInBounds_toArray, List.set_cons_zero, List.set_cons_succ])
          refine do_op 13 rfl (by kernel_rfl) (fun K hK => ?_)
          go_simp; (with_reducible refine (HLr.out _ (Ext.rf _).dr).mono ?_); rintro e w7 ⟨rfl, hx7⟩; have hy7 := (Ext.rf W6).dr.tr hx7
          refine hK.out _ _ hy7 (fun hS => ?_)
          clear hK K
          (try simp only [Act.put, List.setIfInBounds_toArray, List.set_cons_zero, List.set_cons_succ])
          refine take_op 14 (v := ?_) rfl (by kernel_rfl) (by kernel_rfl) (by kernel_rfl) (Or.inl ⟨by rfl, ?_⟩) (by assumption) ?_
          rotate_left 1
          · (intro W hS; go_simp; try with_reducible rfl)
          (try simp only [Act.put, List.setIfInBounds_toArray, List.set_cons_zero, List.set_cons_succ])
          refine take_op 15 (v := ?_) rfl (by kernel_rfl) (by kernel_rfl) (by kernel_rfl) (Or.inl ⟨by rfl, ?_⟩) (by assumption) ?_
          rotate_left 1
          · (intro W hS; go_simp; try with_reducible rfl)
          (try simp only [Act.put, List.setIfInBounds_toArray, List.set_cons_zero, List.set_cons_succ])
          refine take_op 16 (v := ?_) rfl (by kernel_rfl) (by kernel_rfl) (by kernel_rfl) (Or.inl ⟨by rfl, ?_⟩) (by assumption) ?_
          rotate_left 1
          · (intro W hS; go_simp; try with_reducible rfl)
          (try simp only [Act.put, List.setIfInBounds_toArray, List.set_cons_zero, List.set_cons_succ])
          refine take_op 17 (v := ?_) rfl (by kernel_rfl) (by kernel_rfl) (by kernel_rfl) (Or.inl ⟨by rfl, ?_⟩) (by assumption) ?_
          rotate_left 1
          · (intro W hS; go_simp; try with_reducible rfl)
          (try simp only [Act.put, List.setIfInBounds_toArray, List.set_cons_zero, List.set_cons_succ])
          refine take_op 19 (v := ?_) rfl (by kernel_rfl) (by kernel_rfl) (by kernel_rfl) (Or.inl ⟨by rfl, ?_⟩) (by assumption) ?_
          rotate_left 1
          · (intro W hS; have k0 := hS.has k0; have k1 := hS.has k1; go_simp; try with_reducible rfl)
          (try simp only [Act.put, List.setIfInBounds_toArray, List.set_cons_zero, List.set_cons_succ])
          refine do_op 18 rfl (by kernel_rfl) (fun K hK => ?_)
          go_simp; (with_reducible refine (HEc.out _ hy7).mono ?_); rintro e w8 ⟨rfl, rfl⟩
          refine hK.out _ _ hy7 (fun hS => ?_)
          clear hK K
          (try simp only [Act.put, List.setIfInBounds_toArray, List.set_cons_zero, List.set_cons_succ])
          refine do_op 20 rfl (by kernel_rfl) (fun K hK => ?_)
          go_simp; (with_reducible refine (HEr.out _ hy7).mono ?_); rintro e w9 ⟨rfl, hx9⟩; have hy9 := hy7.tr hx9
          refine hK.out _ _ hy9 (fun hS => ?_)
          clear hK K
          (try simp only [Act.put, List.setIfInBounds_toArray, List.set_cons_zero, List.set_cons_succ])
          refine take_op 21 (v := ?_) rfl (by kernel_rfl) (by kernel_rfl) (by kernel_rfl) (Or.inl ⟨by rfl, ?_⟩) (by assumption) ?_
          rotate_left 1
          · (intro W hS; go_simp; try with_reducible rfl)
          (try simp only [Act.put, List.setIfInBounds_toArray, List.set_cons_zero, List.set_cons_succ])
          refine take_op 22 (v := ?_) rfl (by kernel_rfl) (by kernel_rfl) (by kernel_rfl) (Or.inl ⟨by rfl, ?_⟩) (by assumption) ?_
          rotate_left 1
          · (intro W hS; go_simp; try with_reducible rfl)
          (try simp only [Act.put, List.setIfInBounds_toArray, List.set_cons_zero, List.set_cons_succ])
          refine wpAnyH_done (by kernel_rfl) ?_ _
          refine NoPanic.normal ?_
          go_wp2_with fail
          go_roundw
          case rel => exact ⟨k + 1, G.1, G.2, ao3, n3, cap3, by omega, by omega, by go_num, Lib.hid (HC6.out.ext hy9), Lib.hid (hy9.blk HD6.out), Lib.hid (HR6.out.ext hy9), Lib.hid (HX6.out.tr hy9), Nat.le_trans HOL.out hbs⟩
          case measure => simp [intOf]; omega
      · have t1 : decide ((k : Int) < 40) = false := decide_eq_false (by omega)
        have t2 : decide (k < 40) = false := decide_eq_false h40
        have i1 : decide ((k : Int) < l1.length) = true := decide_eq_true (by omega)
        have i2 : decide (k < l1.length) = true := decide_eq_true hlt
        go_wp2_with fail
        refine (cur_lives _).mono ?_
        rintro e w3 ⟨rfl, hb⟩
        go_wp2_with fail
        go_ret
        exact ⟨rfl, HX.out.tr hb⟩
    · have i1 : decide ((k : Int) < l1.length) = false := decide_eq_false (by omega)
      have i2 : decide (k < l1.length) = false := decide_eq_false hlt
      go_wp2_with fail
      refine (cur_lives _).mono ?_
      rintro e w3 ⟨rfl, hb⟩
      go_wp2_with fail
      go_ret
      exact ⟨rfl, HX.out.tr hb⟩
end Go.Proofs.Ytfeddkfpkdjbeaa
