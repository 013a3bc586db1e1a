/- The walk of a call of both cursors. -/
import Derived.Test.YtfeddkfpkdjbeaaRefT
import Derived.Test.YtfeddkfpkdjbeaaCurL
import Derived.Laws.ResultCell
namespace Go.Proofs.Ytfeddkfpkdjbeaa
open Go.RowKit

theorem CurAt.ext {w w' : World} {g : Nat} {bs : List UInt8} {er : Int} (h : CurAt w g bs er) (hx : Ext w w') : CurAt w' g bs er := by
  obtain ⟨bs0, ao, cap, h1, h2, h3, h4, h5⟩ := h
  exact ⟨bs0, ao, cap, hx.blk h1, h2.ext hx, h3, h4, h5⟩
theorem RefAt.grown {w w' : World} {B g : Nat} {v : Value} {bs : List UInt8} {er : Int} (h : RefAt w B v bs er) (hg : w.grownBy w' (some g)) (hB : B ≤ g) : RefAt w' B v bs er := by
  obtain ⟨bs0, ao, cap, h1, hc, hl, hbs⟩ := h
  refine ⟨bs0, ao, cap, h1, ?_, hl, hbs⟩
  by_cases hne : bs0 = []
  · subst hne; exact Cells.nil _ _
  · exact hc.grown hg fun ad e => by have := hl.1 hne ad e; omega
/-- Both cursors stand alike. -/
def Both (B g : Nat) (bs : List UInt8) (er : Int) (w : World) (e : Ending) (w' : World) : Prop :=
  ∃ v, e = .returned (.tuple #[v, .bool true]) ∧ CurAt w' g bs er ∧ RefAt w' B v bs er ∧ w.grownBy w' (some g)

theorem ret_cell_tmp {fn : Func} {p u : Tmp} {ty : TypeId} (h : fn.results = #[.cell p ty, .tmp u]) {tmps : Array Value} {P : Program} {w : World} {A : Addr} {v : Value} (hp : tmps.getD p undef = .pointer (some A)) (hv : (loadVar ty A).run P w = .ok v w) :
    (results fn tmps).run P w = .ok (.tuple #[v, tmps.getD u undef]) w := by
  rw [results_cell_tmp h, hp]
  simp [asAddr, Result.andThen, hv]
theorem grown_fresh {w w' : World} {g s : Nat} (h : w.grownBy w' (some g)) (hs : w.heap.size ≤ s) (j : Nat) (v : Value) : w.grownBy (w'.setCell ⟨s, j, none⟩ v) (some g) :=
  ⟨h.os, h.tape, h.output, by simpa [World.setCell] using h.size, fun k hk hne => (Below.heap_setCell _ _ _ k (by show k ≠ s; omega)).trans (h.block k hk hne)⟩
/-- No byte lies in a block of a slice and a number. -/
theorem Cells.apart {W : World} {s : Nat} {a : Option Addr} {b c : Nat} {z : Int} {t : TypeId} {fz : Nat × Nat} {ao : Option Addr} {bs : List UInt8} (h : Cells W ao (bs.map byteC)) (hE : W.heap[s]? = some (.cells #[.slice a b c, .int .i64 z] t fz)) (hne : bs ≠ []) : ∀ ad, ao = some ad → ad.block ≠ s := by
  rintro ad rfl e
  cases bs with
  | nil => exact absurd rfl hne
  | cons x l =>
    obtain ⟨bk, off, e1, hc⟩ := h.at (k := 0) (by simp)
    cases e1
    subst e
    rw [cell_of_row _ _ _ _ _ _ hE] at hc
    match off, hc with
    | 0, hc => simp [byteC] at hc
    | 1, hc => simp [byteC] at hc
    | n + 2, hc => simp at hc
theorem CurAt.set2 {W : World} {g s : Nat} {bs : List UInt8} {er : Int} {a : Option Addr} {b c : Nat} {z : Int} {t : TypeId} {fz : Nat × Nat} (h : CurAt W g bs er) (hE : W.heap[s]? = some (.cells #[.slice a b c, .int .i64 z] t fz)) (hs : g ≠ s) (u v : Value) : CurAt ((W.setCell ⟨s, 0, none⟩ u).setCell ⟨s, 1, none⟩ v) g bs er := by
  obtain ⟨bs0, ao, cap, h1, h2, h3, h4, h5⟩ := h
  have hk : ∀ w', W.grownBy w' (some s) → Cells w' ao (bs0.map byteC) := fun w' hg => by
    by_cases hne : bs0 = []
    · subst hne; exact Cells.nil _ _
    · exact h2.grown hg (h2.apart hE hne)
  have hg := (grown_set W s 0 u).trans (grown_set _ s 1 v)
  exact ⟨bs0, ao, cap, (hg.block g (Array.getElem?_eq_some_iff.1 h1).1 (by simp; omega)).trans h1, hk _ hg, h3, h4, h5⟩

theorem both_end {B g : Nat} {bs : List UInt8} {er : Int} {w W w2 : World} {x y : Value} {a : Option Addr} {b c : Nat} {z : Int} {t : TypeId} {fz : Nat × Nat} (hc : CurAt w2 g bs er) (hE : w2.heap[w.heap.size + 1 + 1]? = some (.cells #[.slice a b c, .int .i64 z] t fz)) (hg : g < w.heap.size) (hx : Ext w W) (hg2 : W.grownBy w2 (some g)) (hr : RefAt W B (.agg #[x, y]) bs er) (hB : B ≤ w.heap.size) (hBg : B ≤ g) :
    Both B g bs er w (.returned (.tuple #[.agg #[x, y], .bool true])) ((w2.setCell ⟨w.heap.size + 1 + 1, 0, none⟩ x).setCell ⟨w.heap.size + 1 + 1, 1, none⟩ y) :=
  ⟨_, rfl, hc.set2 hE (by omega) _ _, ((hr.grown hg2 hBg).grown (grown_set _ _ 0 _) (by omega)).grown (grown_set _ _ 1 _) (by omega), grown_fresh (grown_fresh ((hx.grow g).trans hg2) (by omega) _ _) (by omega) _ _⟩

theorem both_end2 {B g : Nat} {bs : List UInt8} {er : Int} {w w2 : World} {x y : Value} {a : Option Addr} {b c : Nat} {z : Int} {t : TypeId} {fz : Nat × Nat} (hc : CurAt w2 g bs er) (hE : w2.heap[w.heap.size + 1 + 1]? = some (.cells #[.slice a b c, .int .i64 z] t fz)) (hg : g < w.heap.size) (hg2 : w.grownBy w2 (some g)) (hr : RefAt w2 B (.agg #[x, y]) bs er) (hB : B ≤ w.heap.size) :
    Both B g bs er w (.returned (.tuple #[.agg #[x, y], .bool true])) ((w2.setCell ⟨w.heap.size + 1 + 1, 0, none⟩ x).setCell ⟨w.heap.size + 1 + 1, 1, none⟩ y) :=
  ⟨_, rfl, hc.set2 hE (by omega) _ _, (hr.grown (grown_set _ _ 0 _) (by omega)).grown (grown_set _ _ 1 _) (by omega), grown_fresh (grown_fresh hg2 (by omega) _ _) (by omega) _ _⟩

theorem alloc3 (w : World) (o o2 o3 : Obj) : (((w.alloc o).alloc o2).alloc o3).heap[w.heap.size + 1 + 1]? = some o3 := by simpa using alloc2 (w.alloc o) o2 o3
theorem alloc3b (w : World) (o o2 o3 : Obj) : (((w.alloc o).alloc o2).alloc o3).heap[w.heap.size + 1]? = some o2 := Ext.blk ((Ext.rf _).al _) (alloc2 w o o2)

set_option maxHeartbeats 2000000 in
set_option maxRecDepth 20000 in
theorem one_Num (B g : Nat) (v : Value) (bs : List UInt8) (er K N : Int) (w : World) (hc : CurAt w g bs er) (hr : RefAt w B v bs er) (hB : B ≤ w.heap.size) (hBg : B ≤ g) (hl : bs.length ≤ 140737488351232) (hK : K.tmod 6 = 0)
    (hN1 : -9223372036854775808 ≤ N) (hN2 : N ≤ 9223372036854775807) :
    Calls Try.prog 57 #[.pointer (some ⟨g, 0, none⟩), v, .agg #[.int .i64 K, .int .i64 N]] w (Both B g (numS bs er N).2.1 (numS bs er N).2.2 w) := by
  have HR := Lib.hid hr
  have HC := Lib.hid hc
  have hgl := hc.lt
  obtain ⟨bs0, ao, cap, rfl, hrc, hrl, hrb⟩ := hr
  have HF := Lib.hid (fun w' (hx : Ext w w') => ref_Num _ B bs er N w' (HR.out.ext hx) (Nat.le_trans hB hx.size) hl hN1 hN2)
  have HM := Lib.hid (fun w' (h : CurAt w' g bs er) => cur_Num g bs er N w' h hl hN1 hN2)
  have HX : Hid (∀ o o2 o3, Ext w (((w.alloc o).alloc o2).alloc o3)) := fun o o2 o3 => (((Ext.rf w).al _).al _).al _
  generalize numS bs er N = G at *
  clear hrc hrl hrb hc
  go_enter Try.func57, Try.ntmps57
  go_wp2_with fail
  refine (HF.out _ (HX.out _ _ _)).mono ?_
  rintro e w1 ⟨v1, rfl, hr1, hx1⟩
  have HR1 := Lib.hid hr1
  obtain ⟨bs1, ao1, cap1, rfl, hrc, hrl, hrb⟩ := hr1
  have hxw := (HX.out _ _ _).tr hx1
  have D3 := Lib.hid (hx1.blk (alloc3 w _ _ _))
  have DA := Lib.hid (hx1.blk (alloc3b w _ _ _))
  have hs1 := hx1.size
  simp only [World.size_alloc] at hs1
  clear hrc hrl hrb hx1
  go_wp2_with fail
  obtain ⟨W0, hW0⟩ : ∃ W0, W0 = w1.alloc (.cells #[.slice ao1 bs1.length cap1, .int .i64 G.2.2] 83) := ⟨_, rfl⟩
  rw [← hW0]
  have hxa : Ext w1 W0 := by rw [hW0]; exact (Ext.rf _).al _
  have E0 := Lib.hid (show W0.heap[w1.heap.size]? = some (.cells #[.slice ao1 bs1.length cap1, .int .i64 G.2.2] 83 (0, 0)) by rw [hW0]; exact alloc_new w1 _)
  clear hW0
  have hx0 := hxw.tr hxa
  have EA := Lib.hid (hxa.blk DA.out)
  have E3 := Lib.hid (hxa.blk D3.out)
  have k0 : W0.cell? ⟨w1.heap.size, 0, none⟩ = some (.slice ao1 bs1.length cap1) := blk E0.out 0 rfl
  have k1 : W0.cell? ⟨w1.heap.size, 1, none⟩ = some (.int .i64 G.2.2) := blk E0.out 1 rfl
  have k2 : W0.cell? ⟨w.heap.size + 1, 1, none⟩ = some (.int .i64 N) := blk EA.out 1 rfl
  have e0 := blk E3.out 0 rfl
  have e1 := blk E3.out 1 rfl
  have f0 := frozen_blk E3.out 0
  have f1 := frozen_blk E3.out 1
  have HM0 := Lib.hid (HM.out W0.drew (HC.out.ext hx0.dr))
  have HR0 := Lib.hid (HR1.out.ext hxa)
  clear DA D3 hxa hxw HM HF HX HR1
  go_region_held3 (fun w' => w'.cell? ⟨w1.heap.size, 0, none⟩ = some (.slice ao1 bs1.length cap1) ∧ w'.cell? ⟨w1.heap.size, 1, none⟩ = some (.int .i64 G.2.2) ∧ w'.cell? ⟨w.heap.size + 1, 1, none⟩ = some (.int .i64 N)) (refine ⟨?_, ?_, ?_⟩ <;> first | assumption | go_simp)
    (first | (go_at_call 63; refine HM0.out.mono ?_; rintro e w2 ⟨rfl, hc2, hg2⟩; have HG2 := Lib.hid hg2; have HC2 := Lib.hid hc2; have k0 : w2.cell? ⟨w1.heap.size, 0, none⟩ = some (.slice ao1 bs1.length cap1) := hg2.cell k0 (by simp; omega); have k1 : w2.cell? ⟨w1.heap.size, 1, none⟩ = some (.int .i64 G.2.2) := hg2.cell k1 (by simp; omega); have k2 : w2.cell? ⟨w.heap.size + 1, 1, none⟩ = some (.int .i64 N) := hg2.cell k2 (by simp; omega); have E4 := Lib.hid ((hg2.block _ (Array.getElem?_eq_some_iff.1 E3.out).1 (by simp; omega)).trans E3.out); have e0 := blk E4.out 0 rfl; have e1 := blk E4.out 1 rfl; have f0 := frozen_blk E4.out 0; have f1 := frozen_blk E4.out 1; clear hg2 hc2))
  go_wp2
  exact bodyPost_ret (ret_cell_tmp (p := 6) (u := 7) rfl rfl (load_ref (set2 E4.out _ _))) rfl (both_end HC2.out E4.out hgl hx0.dr HG2.out (HR0.out.ext (Ext.rf W0).dr) hB hBg)

set_option maxHeartbeats 2000000 in
set_option maxRecDepth 20000 in
theorem one_Int (B g : Nat) (v : Value) (bs : List UInt8) (er K N : Int) (w : World) (hc : CurAt w g bs er) (hr : RefAt w B v bs er) (hB : B ≤ w.heap.size) (hBg : B ≤ g) (hl : bs.length ≤ 140737488351232) (hK : K.tmod 6 = 1)
    (hN1 : -9223372036854775808 ≤ N) (hN2 : N ≤ 9223372036854775807) :
    Calls Try.prog 57 #[.pointer (some ⟨g, 0, none⟩), v, .agg #[.int .i64 K, .int .i64 N]] w (Both B g (bitsS bs er).2.1 (bitsS bs er).2.2 w) := by
  have HR := Lib.hid hr
  have HC := Lib.hid hc
  have hgl := hc.lt
  obtain ⟨bs0, ao, cap, rfl, hrc, hrl, hrb⟩ := hr
  have HF := Lib.hid (fun w' (hx : Ext w w') => ref_Int _ B bs er w' (HR.out.ext hx) (Nat.le_trans hB hx.size) hl)
  have HM := Lib.hid (fun w' (h : CurAt w' g bs er) => cur_Int g bs er w' h hl)
  have HX : Hid (∀ o o2 o3, Ext w (((w.alloc o).alloc o2).alloc o3)) := fun o o2 o3 => (((Ext.rf w).al _).al _).al _
  generalize bitsS bs er = G at *
  clear hrc hrl hrb hc
  go_enter Try.func57, Try.ntmps57
  go_wp2_with fail
  refine (HF.out _ (HX.out _ _ _)).mono ?_
  rintro e w1 ⟨v1, rfl, hr1, hx1⟩
  have HR1 := Lib.hid hr1
  obtain ⟨bs1, ao1, cap1, rfl, hrc, hrl, hrb⟩ := hr1
  have hxw := (HX.out _ _ _).tr hx1
  have D3 := Lib.hid (hx1.blk (alloc3 w _ _ _))
  have DA := Lib.hid (hx1.blk (alloc3b w _ _ _))
  have hs1 := hx1.size
  simp only [World.size_alloc] at hs1
  clear hrc hrl hrb hx1
  go_wp2_with fail
  obtain ⟨W0, hW0⟩ : ∃ W0, W0 = w1.alloc (.cells #[.slice ao1 bs1.length cap1, .int .i64 G.2.2] 83) := ⟨_, rfl⟩
  rw [← hW0]
  have hxa : Ext w1 W0 := by rw [hW0]; exact (Ext.rf _).al _
  have E0 := Lib.hid (show W0.heap[w1.heap.size]? = some (.cells #[.slice ao1 bs1.length cap1, .int .i64 G.2.2] 83 (0, 0)) by rw [hW0]; exact alloc_new w1 _)
  clear hW0
  have hx0 := hxw.tr hxa
  have EA := Lib.hid (hxa.blk DA.out)
  have E3 := Lib.hid (hxa.blk D3.out)
  have k0 : W0.cell? ⟨w1.heap.size, 0, none⟩ = some (.slice ao1 bs1.length cap1) := blk E0.out 0 rfl
  have k1 : W0.cell? ⟨w1.heap.size, 1, none⟩ = some (.int .i64 G.2.2) := blk E0.out 1 rfl
  have e0 := blk E3.out 0 rfl
  have e1 := blk E3.out 1 rfl
  have f0 := frozen_blk E3.out 0
  have f1 := frozen_blk E3.out 1
  have HM0 := Lib.hid (HM.out W0.drew (HC.out.ext hx0.dr))
  have HR0 := Lib.hid (HR1.out.ext hxa)
  clear DA D3 hxa hxw HM HF HX HR1
  go_region_held3 (fun w' => w'.cell? ⟨w1.heap.size, 0, none⟩ = some (.slice ao1 bs1.length cap1) ∧ w'.cell? ⟨w1.heap.size, 1, none⟩ = some (.int .i64 G.2.2)) (refine ⟨?_, ?_⟩ <;> first | assumption | go_simp)
    (first | (go_at_call 54; refine HM0.out.mono ?_; rintro e w2 ⟨rfl, hc2, hg2⟩; have HG2 := Lib.hid hg2; have HC2 := Lib.hid hc2; have k0 : w2.cell? ⟨w1.heap.size, 0, none⟩ = some (.slice ao1 bs1.length cap1) := hg2.cell k0 (by simp; omega); have k1 : w2.cell? ⟨w1.heap.size, 1, none⟩ = some (.int .i64 G.2.2) := hg2.cell k1 (by simp; omega); have E4 := Lib.hid ((hg2.block _ (Array.getElem?_eq_some_iff.1 E3.out).1 (by simp; omega)).trans E3.out); have e0 := blk E4.out 0 rfl; have e1 := blk E4.out 1 rfl; have f0 := frozen_blk E4.out 0; have f1 := frozen_blk E4.out 1; clear hg2 hc2))
  go_wp2
  exact bodyPost_ret (ret_cell_tmp (p := 6) (u := 7) rfl rfl (load_ref (set2 E4.out _ _))) rfl (both_end HC2.out E4.out hgl hx0.dr HG2.out (HR0.out.ext (Ext.rf W0).dr) hB hBg)

set_option maxHeartbeats 2000000 in
set_option maxRecDepth 20000 in
theorem one_Byte (B g : Nat) (v : Value) (bs : List UInt8) (er K N : Int) (w : World) (hc : CurAt w g bs er) (hr : RefAt w B v bs er) (hB : B ≤ w.heap.size) (hBg : B ≤ g) (hl : bs.length ≤ 140737488351232) (hK : K.tmod 6 = 2)
    (hN1 : -9223372036854775808 ≤ N) (hN2 : N ≤ 9223372036854775807) :
    Calls Try.prog 57 #[.pointer (some ⟨g, 0, none⟩), v, .agg #[.int .i64 K, .int .i64 N]] w (Both B g (byteS bs er).2.1 (byteS bs er).2.2 w) := by
  have HR := Lib.hid hr
  have HC := Lib.hid hc
  have hgl := hc.lt
  obtain ⟨bs0, ao, cap, rfl, hrc, hrl, hrb⟩ := hr
  have HF := Lib.hid (fun w' (hx : Ext w w') => ref_Byte _ B bs er w' (HR.out.ext hx) (Nat.le_trans hB hx.size))
  have HM := Lib.hid (fun w' (h : CurAt w' g bs er) => cur_Byte g bs er w' h hl)
  have HX : Hid (∀ o o2 o3, Ext w (((w.alloc o).alloc o2).alloc o3)) := fun o o2 o3 => (((Ext.rf w).al _).al _).al _
  generalize byteS bs er = G at *
  clear hrc hrl hrb hc
  go_enter Try.func57, Try.ntmps57
  go_wp2_with fail
  refine (HF.out _ (HX.out _ _ _)).mono ?_
  rintro e w1 ⟨v1, rfl, hr1, hx1⟩
  have HR1 := Lib.hid hr1
  obtain ⟨bs1, ao1, cap1, rfl, hrc, hrl, hrb⟩ := hr1
  have hxw := (HX.out _ _ _).tr hx1
  have D3 := Lib.hid (hx1.blk (alloc3 w _ _ _))
  have DA := Lib.hid (hx1.blk (alloc3b w _ _ _))
  have hs1 := hx1.size
  simp only [World.size_alloc] at hs1
  clear hrc hrl hrb hx1
  go_wp2_with fail
  obtain ⟨W0, hW0⟩ : ∃ W0, W0 = w1.alloc (.cells #[.slice ao1 bs1.length cap1, .int .i64 G.2.2] 83) := ⟨_, rfl⟩
  rw [← hW0]
  have hxa : Ext w1 W0 := by rw [hW0]; exact (Ext.rf _).al _
  have E0 := Lib.hid (show W0.heap[w1.heap.size]? = some (.cells #[.slice ao1 bs1.length cap1, .int .i64 G.2.2] 83 (0, 0)) by rw [hW0]; exact alloc_new w1 _)
  clear hW0
  have hx0 := hxw.tr hxa
  have EA := Lib.hid (hxa.blk DA.out)
  have E3 := Lib.hid (hxa.blk D3.out)
  have k0 : W0.cell? ⟨w1.heap.size, 0, none⟩ = some (.slice ao1 bs1.length cap1) := blk E0.out 0 rfl
  have k1 : W0.cell? ⟨w1.heap.size, 1, none⟩ = some (.int .i64 G.2.2) := blk E0.out 1 rfl
  have e0 := blk E3.out 0 rfl
  have e1 := blk E3.out 1 rfl
  have f0 := frozen_blk E3.out 0
  have f1 := frozen_blk E3.out 1
  have HM0 := Lib.hid (HM.out W0.drew (HC.out.ext hx0.dr))
  have HR0 := Lib.hid (HR1.out.ext hxa)
  clear DA D3 hxa hxw HM HF HX HR1
  go_region_held3 (fun w' => w'.cell? ⟨w1.heap.size, 0, none⟩ = some (.slice ao1 bs1.length cap1) ∧ w'.cell? ⟨w1.heap.size, 1, none⟩ = some (.int .i64 G.2.2)) (refine ⟨?_, ?_⟩ <;> first | assumption | go_simp)
    (first | (go_at_call 64; refine HM0.out.mono ?_; rintro e w2 ⟨rfl, hc2, hg2⟩; have HG2 := Lib.hid hg2; have HC2 := Lib.hid hc2; have k0 : w2.cell? ⟨w1.heap.size, 0, none⟩ = some (.slice ao1 bs1.length cap1) := hg2.cell k0 (by simp; omega); have k1 : w2.cell? ⟨w1.heap.size, 1, none⟩ = some (.int .i64 G.2.2) := hg2.cell k1 (by simp; omega); have E4 := Lib.hid ((hg2.block _ (Array.getElem?_eq_some_iff.1 E3.out).1 (by simp; omega)).trans E3.out); have e0 := blk E4.out 0 rfl; have e1 := blk E4.out 1 rfl; have f0 := frozen_blk E4.out 0; have f1 := frozen_blk E4.out 1; clear hg2 hc2))
  go_wp2
  exact bodyPost_ret (ret_cell_tmp (p := 6) (u := 7) rfl rfl (load_ref (set2 E4.out _ _))) rfl (both_end HC2.out E4.out hgl hx0.dr HG2.out (HR0.out.ext (Ext.rf W0).dr) hB hBg)

set_option maxHeartbeats 2000000 in
set_option maxRecDepth 20000 in
theorem one_Text (B g : Nat) (v : Value) (bs : List UInt8) (er K N : Int) (w : World) (hc : CurAt w g bs er) (hr : RefAt w B v bs er) (hB : B ≤ w.heap.size) (hBg : B ≤ g) (hl : bs.length ≤ 140737488351232) (hK : K.tmod 6 = 3)
    (hN1 : -9223372036854775808 ≤ N) (hN2 : N ≤ 9223372036854775807) :
    Calls Try.prog 57 #[.pointer (some ⟨g, 0, none⟩), v, .agg #[.int .i64 K, .int .i64 N]] w (Both B g (curT bs er N).2.1 (curT bs er N).2.2 w) := by
  have HR := Lib.hid hr
  have HC := Lib.hid hc
  have hgl := hc.lt
  obtain ⟨bs0, ao, cap, rfl, hrc, hrl, hrb⟩ := hr
  have HF := Lib.hid (fun w' (hx : Ext w w') => ref_Text _ B bs er N w' (HR.out.ext hx) (Nat.le_trans hB hx.size) hl hN1 hN2)
  have HM := Lib.hid (fun w' (h : CurAt w' g bs er) => cur_Text g bs er N w' h hl hN1 hN2)
  have HX : Hid (∀ o o2 o3, Ext w (((w.alloc o).alloc o2).alloc o3)) := fun o o2 o3 => (((Ext.rf w).al _).al _).al _
  generalize curT bs er N = G at *
  clear hrc hrl hrb hc
  go_enter Try.func57, Try.ntmps57
  go_wp2_with fail
  refine (HF.out _ (HX.out _ _ _)).mono ?_
  rintro e w1 ⟨v1, rfl, hr1, hx1⟩
  have HR1 := Lib.hid hr1
  obtain ⟨bs1, ao1, cap1, rfl, hrc, hrl, hrb⟩ := hr1
  have hxw := (HX.out _ _ _).tr hx1
  have D3 := Lib.hid (hx1.blk (alloc3 w _ _ _))
  have DA := Lib.hid (hx1.blk (alloc3b w _ _ _))
  have hs1 := hx1.size
  simp only [World.size_alloc] at hs1
  clear hrc hrl hrb hx1
  go_wp2_with fail
  obtain ⟨W0, hW0⟩ : ∃ W0, W0 = w1.alloc (.cells #[.slice ao1 bs1.length cap1, .int .i64 G.2.2] 83) := ⟨_, rfl⟩
  rw [← hW0]
  have hxa : Ext w1 W0 := by rw [hW0]; exact (Ext.rf _).al _
  have E0 := Lib.hid (show W0.heap[w1.heap.size]? = some (.cells #[.slice ao1 bs1.length cap1, .int .i64 G.2.2] 83 (0, 0)) by rw [hW0]; exact alloc_new w1 _)
  clear hW0
  have hx0 := hxw.tr hxa
  have EA := Lib.hid (hxa.blk DA.out)
  have E3 := Lib.hid (hxa.blk D3.out)
  have k0 : W0.cell? ⟨w1.heap.size, 0, none⟩ = some (.slice ao1 bs1.length cap1) := blk E0.out 0 rfl
  have k1 : W0.cell? ⟨w1.heap.size, 1, none⟩ = some (.int .i64 G.2.2) := blk E0.out 1 rfl
  have k2 : W0.cell? ⟨w.heap.size + 1, 1, none⟩ = some (.int .i64 N) := blk EA.out 1 rfl
  have e0 := blk E3.out 0 rfl
  have e1 := blk E3.out 1 rfl
  have f0 := frozen_blk E3.out 0
  have f1 := frozen_blk E3.out 1
  have HM0 := Lib.hid (HM.out W0.drew (HC.out.ext hx0.dr))
  have HR0 := Lib.hid (HR1.out.ext hxa)
  clear DA D3 hxa hxw HM HF HX HR1
  go_region_held3 (fun w' => w'.cell? ⟨w1.heap.size, 0, none⟩ = some (.slice ao1 bs1.length cap1) ∧ w'.cell? ⟨w1.heap.size, 1, none⟩ = some (.int .i64 G.2.2) ∧ w'.cell? ⟨w.heap.size + 1, 1, none⟩ = some (.int .i64 N)) (refine ⟨?_, ?_, ?_⟩ <;> first | assumption | go_simp)
    (first | (go_at_call 55; refine HM0.out.mono ?_; rintro e w2 ⟨rfl, hc2, hg2⟩; have HG2 := Lib.hid hg2; have HC2 := Lib.hid hc2; have k0 : w2.cell? ⟨w1.heap.size, 0, none⟩ = some (.slice ao1 bs1.length cap1) := hg2.cell k0 (by simp; omega); have k1 : w2.cell? ⟨w1.heap.size, 1, none⟩ = some (.int .i64 G.2.2) := hg2.cell k1 (by simp; omega); have k2 : w2.cell? ⟨w.heap.size + 1, 1, none⟩ = some (.int .i64 N) := hg2.cell k2 (by simp; omega); have E4 := Lib.hid ((hg2.block _ (Array.getElem?_eq_some_iff.1 E3.out).1 (by simp; omega)).trans E3.out); have e0 := blk E4.out 0 rfl; have e1 := blk E4.out 1 rfl; have f0 := frozen_blk E4.out 0; have f1 := frozen_blk E4.out 1; clear hg2 hc2))
  go_wp2
  exact bodyPost_ret (ret_cell_tmp (p := 6) (u := 7) rfl rfl (load_ref (set2 E4.out _ _))) rfl (both_end HC2.out E4.out hgl hx0.dr HG2.out (HR0.out.ext (Ext.rf W0).dr) hB hBg)

set_option maxHeartbeats 2000000 in
set_option maxRecDepth 20000 in
theorem one_Bits (B g : Nat) (v : Value) (bs : List UInt8) (er K N : Int) (w : World) (hc : CurAt w g bs er) (hr : RefAt w B v bs er) (hB : B ≤ w.heap.size) (hBg : B ≤ g) (hl : bs.length ≤ 140737488351232) (hK : K.tmod 6 = 4)
    (hN1 : -9223372036854775808 ≤ N) (hN2 : N ≤ 9223372036854775807) :
    Calls Try.prog 57 #[.pointer (some ⟨g, 0, none⟩), v, .agg #[.int .i64 K, .int .i64 N]] w (Both B g (bitsS bs er).2.1 (bitsS bs er).2.2 w) := by
  have HR := Lib.hid hr
  have HC := Lib.hid hc
  have hgl := hc.lt
  obtain ⟨bs0, ao, cap, rfl, hrc, hrl, hrb⟩ := hr
  have HF := Lib.hid (fun w' (hx : Ext w w') => ref_Bits _ B bs er w' (HR.out.ext hx) (Nat.le_trans hB hx.size) hl)
  have HM := Lib.hid (fun w' (h : CurAt w' g bs er) => cur_Bits g bs er w' h hl)
  have HX : Hid (∀ o o2 o3, Ext w (((w.alloc o).alloc o2).alloc o3)) := fun o o2 o3 => (((Ext.rf w).al _).al _).al _
  generalize bitsS bs er = G at *
  clear hrc hrl hrb hc
  go_enter Try.func57, Try.ntmps57
  go_wp2_with fail
  refine (HF.out _ (HX.out _ _ _)).mono ?_
  rintro e w1 ⟨v1, rfl, hr1, hx1⟩
  have HR1 := Lib.hid hr1
  obtain ⟨bs1, ao1, cap1, rfl, hrc, hrl, hrb⟩ := hr1
  have hxw := (HX.out _ _ _).tr hx1
  have D3 := Lib.hid (hx1.blk (alloc3 w _ _ _))
  have DA := Lib.hid (hx1.blk (alloc3b w _ _ _))
  have hs1 := hx1.size
  simp only [World.size_alloc] at hs1
  clear hrc hrl hrb hx1
  go_wp2_with fail
  obtain ⟨W0, hW0⟩ : ∃ W0, W0 = w1.alloc (.cells #[.slice ao1 bs1.length cap1, .int .i64 G.2.2] 83) := ⟨_, rfl⟩
  rw [← hW0]
  have hxa : Ext w1 W0 := by rw [hW0]; exact (Ext.rf _).al _
  have E0 := Lib.hid (show W0.heap[w1.heap.size]? = some (.cells #[.slice ao1 bs1.length cap1, .int .i64 G.2.2] 83 (0, 0)) by rw [hW0]; exact alloc_new w1 _)
  clear hW0
  have hx0 := hxw.tr hxa
  have EA := Lib.hid (hxa.blk DA.out)
  have E3 := Lib.hid (hxa.blk D3.out)
  have k0 : W0.cell? ⟨w1.heap.size, 0, none⟩ = some (.slice ao1 bs1.length cap1) := blk E0.out 0 rfl
  have k1 : W0.cell? ⟨w1.heap.size, 1, none⟩ = some (.int .i64 G.2.2) := blk E0.out 1 rfl
  have e0 := blk E3.out 0 rfl
  have e1 := blk E3.out 1 rfl
  have f0 := frozen_blk E3.out 0
  have f1 := frozen_blk E3.out 1
  have HM0 := Lib.hid (HM.out W0.drew (HC.out.ext hx0.dr))
  have HR0 := Lib.hid (HR1.out.ext hxa)
  clear DA D3 hxa hxw HM HF HX HR1
  go_region_held3 (fun w' => w'.cell? ⟨w1.heap.size, 0, none⟩ = some (.slice ao1 bs1.length cap1) ∧ w'.cell? ⟨w1.heap.size, 1, none⟩ = some (.int .i64 G.2.2)) (refine ⟨?_, ?_⟩ <;> first | assumption | go_simp)
    (first | (go_at_call 65; refine HM0.out.mono ?_; rintro e w2 ⟨rfl, hc2, hg2⟩; have HG2 := Lib.hid hg2; have HC2 := Lib.hid hc2; have k0 : w2.cell? ⟨w1.heap.size, 0, none⟩ = some (.slice ao1 bs1.length cap1) := hg2.cell k0 (by simp; omega); have k1 : w2.cell? ⟨w1.heap.size, 1, none⟩ = some (.int .i64 G.2.2) := hg2.cell k1 (by simp; omega); have E4 := Lib.hid ((hg2.block _ (Array.getElem?_eq_some_iff.1 E3.out).1 (by simp; omega)).trans E3.out); have e0 := blk E4.out 0 rfl; have e1 := blk E4.out 1 rfl; have f0 := frozen_blk E4.out 0; have f1 := frozen_blk E4.out 1; clear hg2 hc2))
  go_wp2
  exact bodyPost_ret (ret_cell_tmp (p := 6) (u := 7) rfl rfl (load_ref (set2 E4.out _ _))) rfl (both_end HC2.out E4.out hgl hx0.dr HG2.out (HR0.out.ext (Ext.rf W0).dr) hB hBg)

set_option maxHeartbeats 2000000 in
set_option maxRecDepth 20000 in
theorem one_Fail (B g : Nat) (v : Value) (bs : List UInt8) (er K N : Int) (w : World) (hc : CurAt w g bs er) (hr : RefAt w B v bs er) (hB : B ≤ w.heap.size) (hBg : B ≤ g) (hK0 : (K.tmod 6 == 0) = false) (hK1 : (K.tmod 6 == 1) = false) (hK2 : (K.tmod 6 == 2) = false) (hK3 : (K.tmod 6 == 3) = false) (hK4 : (K.tmod 6 == 4) = false) :
    Calls Try.prog 57 #[.pointer (some ⟨g, 0, none⟩), v, .agg #[.int .i64 K, .int .i64 N]] w (Both B g bs (failE er (bits .and .i64 N 15)) w) := by
  have HR := Lib.hid hr
  have HC := Lib.hid hc
  have hgl := hc.lt
  obtain ⟨bs0, ao, cap, rfl, hrc, hrl, hrb⟩ := hr
  have HX : Hid (∀ o o2 o3, Ext w (((w.alloc o).alloc o2).alloc o3)) := fun o o2 o3 => (((Ext.rf w).al _).al _).al _
  generalize hE : bits .and .i64 N 15 = E
  clear hrc hrl hrb hc
  go_enter Try.func57, Try.ntmps57
  go_wp2_with fail
  obtain ⟨W0, hW0⟩ : ∃ W0, W0 = ((w.alloc (.cells #[.slice ao bs0.length cap, .int .i64 er] 83)).alloc (.cells #[.int .i64 K, .int .i64 N] 87)).alloc (.cells #[.slice none 0 0, .int .i64 0] 83) := ⟨_, rfl⟩
  have hx0 : Ext w W0 := by rw [hW0]; exact HX.out _ _ _
  have E3 := Lib.hid (show W0.heap[w.heap.size + 1 + 1]? = some (.cells #[.slice none 0 0, .int .i64 0] 83 (0, 0)) by rw [hW0]; exact alloc3 w _ _ _)
  have E0 := Lib.hid (show W0.heap[w.heap.size]? = some (.cells #[.slice ao bs0.length cap, .int .i64 er] 83 (0, 0)) by rw [hW0]; exact Ext.blk (((Ext.rf _).al _).al _) (alloc_new w _))
  rw [← hW0]
  clear hW0
  refine (cur_Fail g bs er E W0 (HC.out.ext hx0)).mono ?_
  rintro e w2 ⟨⟨v2, rfl⟩, hc2, hg2⟩
  have HG2 := Lib.hid hg2
  have HC2 := Lib.hid hc2
  have E4 := Lib.hid ((hg2.block _ (Array.getElem?_eq_some_iff.1 E3.out).1 (by simp; omega)).trans E3.out)
  have E5 := Lib.hid ((hg2.block _ (Array.getElem?_eq_some_iff.1 E0.out).1 (by simp; omega)).trans E0.out)
  have k0 := blk E5.out 0 rfl
  have k1 := blk E5.out 1 rfl
  have HR2 := Lib.hid ((HR.out.ext hx0).grown hg2 hBg)
  have hsz : B ≤ w2.heap.size := by have := hx0.size; have := hg2.size; omega
  have HF := Lib.hid (ref_Fail _ B bs er E w2 HR2.out hsz)
  clear hg2 hc2
  go_wp2_with fail
  refine HF.out.mono ?_
  rintro e w3 ⟨v3, rfl, hr3, hx3⟩
  have HR3 := Lib.hid hr3
  obtain ⟨bs1, ao1, cap1, rfl, hrc, hrl, hrb⟩ := hr3
  have E6 := Lib.hid (hx3.blk E4.out)
  have e0 := blk E6.out 0 rfl
  have e1 := blk E6.out 1 rfl
  have f0 := frozen_blk E6.out 0
  have f1 := frozen_blk E6.out 1
  have HC3 := Lib.hid (HC2.out.ext hx3)
  have HG3 := Lib.hid (HG2.out.trans (hx3.grow g))
  clear hrc hrl hrb hx3 k0 k1
  go_wp2_with fail
  have HE := Lib.hid (both_end2 HC3.out E6.out hgl (World.grownBy.trans (hx0.grow g) HG3.out) HR3.out hB)
  exact bodyPost_ret (ret_cell_tmp (p := 6) (u := 7) rfl rfl (load_ref (set2 E6.out _ _))) rfl HE.out

/-- What a call leaves of the bytes, and the first error. -/
def oneS (bs : List UInt8) (er K N : Int) : List UInt8 × Int :=
  if K.tmod 6 = 0 then (numS bs er N).2 else if K.tmod 6 = 1 then (bitsS bs er).2 else if K.tmod 6 = 2 then (byteS bs er).2 else if K.tmod 6 = 3 then (curT bs er N).2 else if K.tmod 6 = 4 then (bitsS bs er).2 else (bs, failE er (bits .and .i64 N 15))

theorem byteS_len (bs : List UInt8) (er : Int) : (byteS bs er).2.1.length ≤ bs.length := by
  unfold byteS
  split
  · cases bs with
    | nil => exact Nat.le_refl _
    | cons b t => exact Nat.le_succ _
  · exact Nat.le_refl _
theorem curT_len (bs : List UInt8) (er N : Int) (h : N ≤ 9223372036854775807) : (curT bs er N).2.1.length ≤ bs.length := by
  have := (numS_ok bs er N h).2.2
  unfold curT
  split
  · split
    · exact this
    · simp only [List.length_drop]; omega
  · exact this
theorem oneS_len (bs : List UInt8) (er K N : Int) (h : N ≤ 9223372036854775807) : (oneS bs er K N).1.length ≤ bs.length := by
  unfold oneS
  split
  · exact (numS_ok bs er N h).2.2
  · split
    · exact (bitsS_ok bs er).2.2
    · split
      · exact byteS_len bs er
      · split
        · exact curT_len bs er N h
        · split
          · exact (bitsS_ok bs er).2.2
          · exact Nat.le_refl _

theorem law_one (B g : Nat) (v : Value) (bs : List UInt8) (er K N : Int) (w : World) (hc : CurAt w g bs er) (hr : RefAt w B v bs er) (hB : B ≤ w.heap.size) (hBg : B ≤ g) (hl : bs.length ≤ 140737488351232)
    (hN1 : -9223372036854775808 ≤ N) (hN2 : N ≤ 9223372036854775807) :
    Calls Try.prog 57 #[.pointer (some ⟨g, 0, none⟩), v, .agg #[.int .i64 K, .int .i64 N]] w (Both B g (oneS bs er K N).1 (oneS bs er K N).2 w) := by
  unfold oneS
  by_cases h0 : K.tmod 6 = 0
  · rw [if_pos h0]; exact one_Num B g v bs er K N w hc hr hB hBg hl h0 hN1 hN2
  rw [if_neg h0]
  by_cases h1 : K.tmod 6 = 1
  · rw [if_pos h1]; exact one_Int B g v bs er K N w hc hr hB hBg hl h1 hN1 hN2
  rw [if_neg h1]
  by_cases h2 : K.tmod 6 = 2
  · rw [if_pos h2]; exact one_Byte B g v bs er K N w hc hr hB hBg hl h2 hN1 hN2
  rw [if_neg h2]
  by_cases h3 : K.tmod 6 = 3
  · rw [if_pos h3]; exact one_Text B g v bs er K N w hc hr hB hBg hl h3 hN1 hN2
  rw [if_neg h3]
  by_cases h4 : K.tmod 6 = 4
  · rw [if_pos h4]; exact one_Bits B g v bs er K N w hc hr hB hBg hl h4 hN1 hN2
  rw [if_neg h4]
  exact one_Fail B g v bs er K N w hc hr hB hBg (by simpa using h0) (by simpa using h1) (by simpa using h2) (by simpa using h3) (by simpa using h4)

end Go.Proofs.Ytfeddkfpkdjbeaa
