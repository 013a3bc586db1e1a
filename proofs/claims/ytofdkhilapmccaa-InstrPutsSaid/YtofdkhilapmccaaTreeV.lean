/- Inline trees: the walks of tree.take and tree.Take. -/
import Derived.Test.YtofdkhilapmccaaTreeT
import Derived.Test.YtofdkhilapmccaaSigTakes
namespace Go.Proofs.Ytofdkhilapmccaa
open Go.RowKit

/-- An element of an array of things of one cell. -/
theorem run_index_any {P : Program} {ki : IntKind} {t e : TypeId} {n : Nat} (ht : P.underlying t = some (.array n e)) (he : ∀ w, (isAgg e).run P w = .ok false w) (hs : ∀ w, (sizeOf e).run P w = .ok 1 w) (xs : Array Value) (i : Nat) (hi : i < n) (v : Value) (hv : xs[i]? = some v) (w : World) :
    (Instr.index t (.agg xs) (.int ki i)).run P w = .ok v w := by
  have e1 : xs[i * 1]? = some v := by rw [Nat.mul_one]; exact hv
  have h1 : (0 : Int) ≤ (i : Int) ∧ (i : Int) < (n : Int) := by omega
  simp only [Instr.index, asIntOf, Sem.run_bind, run_underlying ht, Result.andThen_ok, Sem.run_pure, Sem.run_ite, h1, if_true, Int.toNat_natCast, hs, and_self]
  simp [part, Sem.run_bind, he, hv]

theorem load_node {W : World} {g : Nat} {n : NodeT} {t : TypeId} {fz : Nat × Nat} (h : W.heap[g]? = some (.cells (nodeC n).toArray t fz)) : (loadVar 87 ⟨g, 0, none⟩).run Try.prog W = .ok (.agg #[.int .i64 n.par, .int .i64 n.fn, .int .i64 n.line, .int .i64 n.frm, .int .i64 n.args, .int .i64 n.upto, .int .i64 n.res]) W := by
  have c0 : W.cell? ⟨g, 0, none⟩ = some (.int .i64 n.par) := blk h 0 rfl
  have c1 : W.cell? ⟨g, 1, none⟩ = some (.int .i64 n.fn) := blk h 1 rfl
  have c2 : W.cell? ⟨g, 2, none⟩ = some (.int .i64 n.line) := blk h 2 rfl
  have c3 : W.cell? ⟨g, 3, none⟩ = some (.int .i64 n.frm) := blk h 3 rfl
  have c4 : W.cell? ⟨g, 4, none⟩ = some (.int .i64 n.args) := blk h 4 rfl
  have c5 : W.cell? ⟨g, 5, none⟩ = some (.int .i64 n.upto) := blk h 5 rfl
  have c6 : W.cell? ⟨g, 6, none⟩ = some (.int .i64 n.res) := blk h 6 rfl
  go_simp
/-- A node that is laid over another one. -/
theorem set7 {W : World} {g : Nat} {m : NodeT} {t : TypeId} (h : W.heap[g]? = some (.cells (nodeC m).toArray t (0, 0))) (n : NodeT) :
    (((((((W.setCell ⟨g, 0, none⟩ (.int .i64 n.par)).setCell ⟨g, 1, none⟩ (.int .i64 n.fn)).setCell ⟨g, 2, none⟩ (.int .i64 n.line)).setCell ⟨g, 3, none⟩ (.int .i64 n.frm)).setCell ⟨g, 4, none⟩ (.int .i64 n.args)).setCell ⟨g, 5, none⟩ (.int .i64 n.upto)).setCell ⟨g, 6, none⟩ (.int .i64 n.res)).heap[g]? = some (.cells (nodeC n).toArray t (0, 0)) := by
  rw [set_blk (set_blk (set_blk (set_blk (set_blk (set_blk (set_blk h 0 _) 1 _) 2 _) 3 _) 4 _) 5 _) 6 _]
  simp [nodeC]
theorem GrowG.set7 {g : Nat} {w W : World} {s : Nat} (h : GrowG g w W) (hs : w.heap.size ≤ s) (a b c d e f k : Value) :
    GrowG g w (((((((W.setCell ⟨s, 0, none⟩ a).setCell ⟨s, 1, none⟩ b).setCell ⟨s, 2, none⟩ c).setCell ⟨s, 3, none⟩ d).setCell ⟨s, 4, none⟩ e).setCell ⟨s, 5, none⟩ f).setCell ⟨s, 6, none⟩ k) :=
  ((((((h.setF hs 0 a).setF hs 1 b).setF hs 2 c).setF hs 3 d).setF hs 4 e).setF hs 5 f).setF hs 6 k
/-- The addresses of a node's numbers. -/
def ptrs7 (S : Nat) : Array Value := #[.pointer (some ⟨S, 0, none⟩), .pointer (some ⟨S, 1, none⟩), .pointer (some ⟨S, 2, none⟩), .pointer (some ⟨S, 3, none⟩), .pointer (some ⟨S, 4, none⟩), .pointer (some ⟨S, 5, none⟩), .pointer (some ⟨S, 6, none⟩)]
theorem ptrs7_at (S q : Nat) (h : q < 7) : (ptrs7 S)[q]? = some (.pointer (some ⟨S, q, none⟩)) := by
  rcases (by omega : q = 0 ∨ q = 1 ∨ q = 2 ∨ q = 3 ∨ q = 4 ∨ q = 5 ∨ q = 6) with rfl | rfl | rfl | rfl | rfl | rfl | rfl <;> rfl
theorem map_set_int (l : List Int) (q : Nat) (v : Int) : ((l.map (Value.int .i64)).toArray).setIfInBounds q (.int .i64 v) = ((l.set q v).map (Value.int .i64)).toArray := by
  rw [List.setIfInBounds_toArray, List.map_set]

set_option maxHeartbeats 1000000 in
set_option maxRecDepth 20000 in
theorem tree_take (g : Nat) (bs : List UInt8) (er : Int) (w : World) (hc : CurAt w g bs er) (hl : bs.length ≤ 140737488351232) :
    Calls Try.prog 124 #[.pointer (some ⟨g, 0, none⟩)] w (Goes g (.agg #[.int .i64 (nodeS bs er).1.par, .int .i64 (nodeS bs er).1.fn, .int .i64 (nodeS bs er).1.line, .int .i64 (nodeS bs er).1.frm, .int .i64 (nodeS bs er).1.args, .int .i64 (nodeS bs er).1.upto, .int .i64 (nodeS bs er).1.res]) (nodeS bs er).2.1 (nodeS bs er).2.2 w) := by
  have hgl := hc.lt
  have HI : Hid (∀ q S : Nat, q < 7 → ∀ W, (Instr.index 190 (.agg (ptrs7 S)) (.int .i64 q)).run Try.prog W = .ok (.pointer (some ⟨S, q, none⟩)) W) := fun q S hq W =>
    run_index_any (P := Try.prog) Try.underlying190 (fun _ => by kernel_rfl) (fun _ => by kernel_rfl) (ptrs7 S) q hq _ (ptrs7_at S q hq) W
  go_enter Try.func124, Try.ntmps124
  go_upto_region 3 with fail
  obtain ⟨W2, hW2⟩ : ∃ x, x = (w.alloc (.cells #[.int .i64 0, .int .i64 0, .int .i64 0, .int .i64 0, .int .i64 0, .int .i64 0, .int .i64 0] 87)).alloc (.cells #[.int .i64 0, .int .i64 0, .int .i64 0, .int .i64 0, .int .i64 0, .int .i64 0, .int .i64 0] 87) := ⟨_, rfl⟩
  have h1 : Hid (W2.heap[w.heap.size]? = some (.cells (nodeC ⟨0, 0, 0, 0, 0, 0, 0⟩).toArray 87 (0, 0))) := by rw [Hid, hW2]; exact ((Ext.rf _).al _).blk (alloc_new w _)
  have h2 : Hid (W2.heap[w.heap.size + 1]? = some (.cells ((partI 0 bs er).map (Value.int .i64)).toArray 87 (0, 0))) := by rw [Hid, hW2]; exact alloc2 w _ _
  have hx2 : Ext w W2 := by rw [hW2]; exact ((Ext.rf w).al _).al _
  rw [← hW2]
  clear hW2
  have HC := Lib.hid (hc.ext hx2)
  have hext : GrowG g w W2 := (GrowG.rf g w).ext hx2
  clear hc hx2
  generalize hS : w.heap.size = S at *
  go_wp2_with fail
  go_loopw [14] (fun i wr => ∃ q : Nat, q ≤ 7 ∧ i = .int .i64 q ∧ Hid (wr.heap[S]? = some (.cells (nodeC ⟨0, 0, 0, 0, 0, 0, 0⟩).toArray 87 (0, 0))) ∧ Hid (wr.heap[S + 1]? = some (.cells ((partI q bs er).map (Value.int .i64)).toArray 87 (0, 0))) ∧ Hid (CurAt wr g (intsS q bs er).2.1 (intsS q bs er).2.2) ∧ GrowG g w wr)
    (fun i _ => 7 - (intOf i).toNat)
  case atStart => exact ⟨0, by decide, rfl, h1, h2, HC, hext⟩
  case round =>
    clear h1 h2 HC hext
    obtain ⟨q, hq, rfl, h1, h2, HC, hext⟩ := hrel
    by_cases hq7 : q < 7
    · have hi := HI.out q (S + 1) hq7
      simp only [ptrs7] at hi
      have i1 : (q : Int) < 7 := by omega
      have HB := Lib.hid (cur_Int g _ _ wr HC.out (Nat.le_trans (intsS_less q bs er) hl))
      have HP := Lib.hid (partI_set q bs er hq7)
      have HPL := Lib.hid (partI_length q bs er hq)
      have HQ1 : Hid ((intsS (q + 1) bs er).2 = (intS (intsS q bs er).2.1 (intsS q bs er).2.2).2) := rfl
      have HV : Hid (∀ v, v = intS (intsS q bs er).2.1 (intsS q bs er).2.2 → v = (unfoldI (bitsS (intsS q bs er).2.1 (intsS q bs er).2.2).1, (bitsS (intsS q bs er).2.1 (intsS q bs er).2.2).2)) := fun v h => h
      go_wp2_with fail
      refine HB.out.mono ?_
      rintro e w2 ⟨rfl, hc2, hg2⟩
      have hext2 := hext.call hg2
      have hsz : S + 1 < wr.heap.size := (Array.getElem?_eq_some_iff.1 h2.out).1
      have k1 := Lib.hid ((hg2.block S (by omega) (by simp; omega)).trans h1.out)
      have k2 := Lib.hid ((hg2.block (S + 1) hsz (by simp; omega)).trans h2.out)
      have c2 : w2.cell? ⟨S + 1, q, none⟩ = some (.int .i64 ((partI q bs er)[q]'(by rw [HPL.out]; exact hq7))) := blk k2.out q (by simp [HPL.out, hq7])
      have f2 := frozen_blk k2.out q
      have HC2 := Lib.hid hc2
      clear hc2 hg2 h1 h2 hext HC HB hi
      go_wp2_with fail
      go_roundw
      case rel => exact ⟨q + 1, by omega, by go_num, (Below.heap_setCell _ _ _ S (by show S ≠ S + 1; omega)).trans k1.out, by rw [← HP.out, ← map_set_int]; exact set_blk k2.out q _, HC2.out.setF (by omega) _ _, hext2.setF (by omega) _ _⟩
      case measure => simp [intOf]; omega
    · obtain rfl : q = 7 := by omega
      have i1 : decide ((7 : Int) < 7) = false := by decide
      have hX : nodeI (nodeS bs er).1 = (intsS 7 bs er).1 := nodeI_of _ (intsS_length 7 bs er)
      have HR2 : Hid ((nodeS bs er).2 = (intsS 7 bs er).2) := rfl
      rw [partI_all, ← hX] at h2
      generalize (nodeS bs er).1 = X at *
      have k2 : Hid (wr.heap[S + 1]? = some (.cells (nodeC X).toArray 87 (0, 0))) := h2
      have e0 : wr.cell? ⟨S + 1, 0, none⟩ = some (.int .i64 X.par) := blk k2.out 0 rfl
      have e1 : wr.cell? ⟨S + 1, 1, none⟩ = some (.int .i64 X.fn) := blk k2.out 1 rfl
      have e2 : wr.cell? ⟨S + 1, 2, none⟩ = some (.int .i64 X.line) := blk k2.out 2 rfl
      have e3 : wr.cell? ⟨S + 1, 3, none⟩ = some (.int .i64 X.frm) := blk k2.out 3 rfl
      have e4 : wr.cell? ⟨S + 1, 4, none⟩ = some (.int .i64 X.args) := blk k2.out 4 rfl
      have e5 : wr.cell? ⟨S + 1, 5, none⟩ = some (.int .i64 X.upto) := blk k2.out 5 rfl
      have e6 : wr.cell? ⟨S + 1, 6, none⟩ = some (.int .i64 X.res) := blk k2.out 6 rfl
      have d0 : wr.cell? ⟨S, 0, none⟩ = some (.int .i64 0) := blk h1.out 0 rfl
      have d1 : wr.cell? ⟨S, 1, none⟩ = some (.int .i64 0) := blk h1.out 1 rfl
      have d2 : wr.cell? ⟨S, 2, none⟩ = some (.int .i64 0) := blk h1.out 2 rfl
      have d3 : wr.cell? ⟨S, 3, none⟩ = some (.int .i64 0) := blk h1.out 3 rfl
      have d4 : wr.cell? ⟨S, 4, none⟩ = some (.int .i64 0) := blk h1.out 4 rfl
      have d5 : wr.cell? ⟨S, 5, none⟩ = some (.int .i64 0) := blk h1.out 5 rfl
      have d6 : wr.cell? ⟨S, 6, none⟩ = some (.int .i64 0) := blk h1.out 6 rfl
      have f0 := frozen_blk h1.out 0
      have f1 := frozen_blk h1.out 1
      have f2 := frozen_blk h1.out 2
      have f3 := frozen_blk h1.out 3
      have f4 := frozen_blk h1.out 4
      have f5 := frozen_blk h1.out 5
      have f6 := frozen_blk h1.out 6
      clear hX h2
      go_wp2_with fail
      exact bodyPost_ret (ret_cell1 rfl rfl (load_node (set7 h1.out X))) rfl ⟨rfl, by rw [HR2.out]; exact ((((((HC.out.setF (by omega) _ _).setF (by omega) _ _).setF (by omega) _ _).setF (by omega) _ _).setF (by omega) _ _).setF (by omega) _ _).setF (by omega) _ _, (hext.set7 (by omega) _ _ _ _ _ _ _).h⟩

/-- What tree.Take leaves. -/
def TTakeGoes (g : Nat) (R : List NodeT × List UInt8 × Int) (w : World) (e : Ending) (w' : World) : Prop :=
  ∃ ao cap, e = .returned (.slice ao R.1.length cap) ∧ Cells w' ao (R.1.flatMap nodeC) ∧ Fresh w.heap.size ao ∧ CurAt w' g R.2.1 R.2.2 ∧ w.grownBy w' (some g)

set_option maxHeartbeats 2000000 in
set_option maxRecDepth 20000 in
theorem tree_Take (g : Nat) (bs : List UInt8) (er : Int) (w : World) (hc : CurAt w g bs er) (hl : bs.length ≤ 140737488351232) :
    Calls Try.prog 56 #[.pointer (some ⟨g, 0, none⟩)] w (TTakeGoes g (treeTake bs er) w) := by
  have hgl := hc.lt
  have HM := Lib.hid (cur_Num g bs er 120 w hc hl (by decide) (by decide))
  have HR0 : Hid (treeTake bs er = treeEnd (treeR (numS bs er 120).1 [] (numS bs er 120).2.1 (numS bs er 120).2.2)) := rfl
  have HMO := Lib.hid (numS_ok bs er 120 (by decide))
  have hM : (numS bs er 120).1 ≤ 120 := by have := numS_most bs er 120; omega
  have HTL := Lib.hid (treeR_less (numS bs er 120).1 [] (numS bs er 120).2.1 (numS bs er 120).2.2)
  generalize treeTake bs er = R at *
  generalize numS bs er 120 = M at *
  generalize hT : treeR M.1 [] M.2.1 M.2.2 = T at *
  have HT0 := Lib.hid hT.symm
  clear hc hT
  go_enter Try.func56, Try.ntmps56
  go_wp2_with fail
  refine HM.out.mono ?_
  rintro e w1 ⟨rfl, hc1, hg1⟩
  have HC1 := Lib.hid hc1
  have hext1 : GrowG g w w1 := ⟨hg1⟩
  have hsz1 := hext1.size
  clear hc1 hg1 HM
  go_wp2_with fail
  go_loopw [3, 6] (fun v i wr => ∃ (k : Nat) (out : List NodeT) (bs' : List UInt8) (er' : Int), i = .int .i64 out.length ∧ wr.ownsRow w.heap.size 87 7 v out.length (out.flatMap nodeC) ∧ Hid (CurAt wr g bs' er') ∧ GrowG g w wr ∧ out.length + k = M.1 ∧ bs'.length ≤ bs.length ∧ Hid (T = treeR k out bs' er'))
    (fun _ i _ => M.1 - (intOf i).toNat)
  case atStart => exact ⟨M.1, [], M.2.1, M.2.2, rfl, World.ownsRow_nil _ _ _ _, HC1, hext1, by simp, HMO.out.2.2, HT0⟩
  case round =>
    clear HT0 HC1 hext1 hsz1
    obtain ⟨k, out, bs', er', rfl, hown, HC, hext, hk, hbs, HT⟩ := hrel
    obtain ⟨ro, rc, rfl⟩ := own_form hown
    have hsz := hext.size
    by_cases hlt : out.length < M.1
    · obtain ⟨k, rfl⟩ : ∃ k', k = k' + 1 := ⟨k - 1, by omega⟩
      have i1 : (out.length : Int) < M.1 := by omega
      have HB := Lib.hid (tree_take g bs' er' wr HC.out (Nat.le_trans hbs hl))
      have HT2 : Hid (T = treeR k (out ++ [(nodeS bs' er').1]) (nodeS bs' er').2.1 (nodeS bs' er').2.2) := HT.out
      have HVS := Lib.hid (nodeS_less bs' er')
      generalize nodeS bs' er' = V at *
      obtain ⟨x, bs2, er2⟩ := V
      dsimp only at HB HT2 HVS
      clear HT HC
      go_wp2_with fail
      refine HB.out.mono ?_
      rintro e w2 ⟨rfl, hc2, hg2⟩
      have HC2 := Lib.hid hc2
      have hext2 := hext.call hg2
      have hown2 := own_call hown hg2 hgl
      have hsz2 := hext2.size
      clear hc2 hg2 HB hext hown
      go_wp2_with (at_builtin; (refine wpList_push rfl (.tmp 8) (.tmp 11) 25 rfl w.heap.size 87 87 (.agg #[.int .i64 0, .int .i64 0, .int .i64 0, .int .i64 0, .int .i64 0, .int .i64 0, .int .i64 0]) 7 56 Try.underlying25 (by kernel_rfl) rfl (by decide) _ out.length _ [.int .i64 x.par, .int .i64 x.fn, .int .i64 x.line, .int .i64 x.frm, .int .i64 x.args, .int .i64 x.upto, .int .i64 x.res] rfl hown2 _ rfl (by simp) rfl (by simp [Value.oneCell']) (by unfold maxLen; omega) (by omega) hext2.size ?_; intro v' w1 hown1 hgr; have hext1 := hext2.push hown2 (Nat.le_refl _) hgr; have HC3 := Lib.hid (HC2.out.push hown2 hgl hgr); clear hgr hown2 hext2 HC2))
      go_roundw
      case rel => exact ⟨k, out ++ [x], bs2, er2, by rw [List.length_append, List.length_singleton]; go_num, by rw [List.length_append, List.length_singleton, List.flatMap_append, List.flatMap_singleton]; exact hown1, HC3, hext1, by rw [List.length_append, List.length_singleton]; omega, Nat.le_trans HVS.out hbs, HT2⟩
      case measure => simp [intOf]; omega
    · obtain rfl : k = 0 := by omega
      have i1 : decide ((out.length : Int) < M.1) = false := decide_eq_false (by omega)
      have HRR : Hid (T = (out, bs', er')) := HT.out
      obtain ⟨ao', cap', hv, hcc, hfr⟩ := own_cells hown
      cases hv
      have HCC := Lib.hid hcc
      have HFR := Lib.hid hfr
      clear hcc hfr hown HT
      rw [HRR.out] at HR0
      have h120 : out.length ≤ 120 := by omega
      go_wp2_with fail
      refine (cur_Err g bs' er' wr HC.out).mono ?_
      rintro e w2 ⟨rfl, rfl⟩
      by_cases h0 : er' = 0
      · subst h0
        cases hd : rightTree out with
        | true =>
          have HR1 : Hid (R = (out, bs', 0)) := HR0.out.trans (treeEnd_ok rfl hd)
          go_wp2_with fail
          refine (tree_Right _ _ out wr HCC.out (by omega)).mono ?_
          rw [hd]
          rintro e w3 ⟨rfl, hx3⟩
          have HC3 := Lib.hid (HC.out.ext hx3)
          have HCC3 := Lib.hid (HCC.out.ext hx3)
          have hext3 := hext.ext hx3
          clear hx3 hd
          go_wp2_with fail
          refine (cur_Err g bs' 0 w3 HC3.out).mono ?_
          rintro e w4 ⟨rfl, rfl⟩
          go_wp2_with fail
          go_ret
          exact ⟨_, _, by rw [HR1.out] <;> rfl, by rw [HR1.out]; exact HCC3.out, HFR.out, by rw [HR1.out]; exact HC3.out, hext3.h⟩
        | false =>
          have HR1 : Hid (R = ([], bs', 14)) := HR0.out.trans (treeEnd_bad rfl hd)
          go_wp2_with fail
          refine (tree_Right _ _ out wr HCC.out (by omega)).mono ?_
          rw [hd]
          rintro e w3 ⟨rfl, hx3⟩
          have HC3 := Lib.hid (HC.out.ext hx3)
          have hext3 := hext.ext hx3
          have HF := Lib.hid (cur_Fail g bs' 0 14 w3 HC3.out)
          rw [show failE 0 14 = 14 by simp [failE]] at HF
          clear hx3 hd
          go_wp2_with fail
          refine HF.out.mono ?_
          rintro e w5 ⟨⟨v5, rfl⟩, hc5, hg5⟩
          have HC5 := Lib.hid hc5
          have hext5 := hext3.call hg5
          clear hc5 hg5 HF
          go_wp2_with fail
          refine (cur_Err g bs' 14 w5 HC5.out).mono ?_
          rintro e w6 ⟨rfl, rfl⟩
          go_wp2_with fail
          go_ret
          exact ⟨none, 0, by rw [HR1.out] <;> rfl, by rw [HR1.out]; exact Cells.nil _ _, fresh_nil _, by rw [HR1.out]; exact HC5.out, hext5.h⟩
      · have t1 : (er' == 0) = false := by simpa using h0
        have t1n : (er' != 0) = true := by simpa using h0
        have HR1 : Hid (R = ([], bs', er')) := HR0.out.trans (treeEnd_err h0)
        clear h0
        go_wp2_with fail
        refine (cur_Err g bs' er' wr HC.out).mono ?_
        rintro e w4 ⟨rfl, rfl⟩
        go_wp2_with fail
        go_ret
        exact ⟨none, 0, by rw [HR1.out] <;> rfl, by rw [HR1.out]; exact Cells.nil _ _, fresh_nil _, by rw [HR1.out]; exact HC.out, hext.h⟩
end Go.Proofs.Ytofdkhilapmccaa
