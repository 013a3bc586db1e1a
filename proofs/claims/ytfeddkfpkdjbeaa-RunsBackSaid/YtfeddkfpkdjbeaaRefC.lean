/- The walks of the reference's cursor. -/
import Derived.Test.YtfeddkfpkdjbeaaCurX
import Derived.Laws.ResultCell
namespace Go.Proofs.Ytfeddkfpkdjbeaa
open Go.RowKit

theorem ret_cell1 {fn : Func} {p : Tmp} {ty : TypeId} (h : fn.results = #[.cell p ty]) {tmps : Array Value} {P : Program} {w : World} {A : Addr} {v : Value} (hp : tmps.getD p undef = .pointer (some A)) (hv : (loadVar ty A).run P w = .ok v w) :
    (results fn tmps).run P w = .ok v w := by
  rw [Array.getD_eq_getD_getElem?] at hp
  simp [results, h, Sem.run_bind, Result.andThen, hp, asAddr, hv]
theorem ret_tmp_cell {fn : Func} {p u : Tmp} {ty : TypeId} (h : fn.results = #[.tmp u, .cell p ty]) {tmps : Array Value} {P : Program} {w : World} {A : Addr} {v : Value} (hp : tmps.getD p undef = .pointer (some A)) (hv : (loadVar ty A).run P w = .ok v w) :
    (results fn tmps).run P w = .ok (.tuple #[tmps.getD u undef, v]) w := by
  rw [Array.getD_eq_getD_getElem?] at hp
  simp [results, h, Sem.run_bind, Result.andThen, hp, asAddr, hv]

/-- The bytes lie below B. -/
def Lower (B : Nat) (ao : Option Addr) (bs : List UInt8) : Prop := bs ≠ [] → ∀ ad, ao = some ad → ad.block < B
theorem Lower.drop {B : Nat} {ao : Option Addr} {bs : List UInt8} (h : Lower B ao bs) (n : Nat) : Lower B (ao.map fun x => x.add n) (bs.drop n) := fun hne ad e => by
  cases ao with
  | none => cases e
  | some ad' =>
    simp only [Option.map_some, Option.some.injEq] at e
    subst e
    rw [addr_add_block]
    exact h (by rintro rfl; simp at hne) ad' rfl

/-- v is the reference's cursor: ahead of bs, with the first error er (0: none; else the bytes do not matter). -/
def RefAt (W : World) (B : Nat) (v : Value) (bs : List UInt8) (er : Int) : Prop :=
  ∃ bs0 ao cap, v = .agg #[.slice ao bs0.length cap, .int .i64 er] ∧ Cells W ao (bs0.map byteC) ∧ (Lower B ao bs0 ∧ bs0.length ≤ cap) ∧ (er = 0 → bs0 = bs)
theorem RefAt.ext {w w' : World} {B : Nat} {v : Value} {bs : List UInt8} {er : Int} (h : RefAt w B v bs er) (hx : Ext w w') : RefAt w' B v bs er := by
  obtain ⟨bs0, ao, cap, h1, hc, hl, hbs⟩ := h; exact ⟨bs0, ao, cap, h1, hc.ext hx, hl, hbs⟩

def RGoes1 (B : Nat) (bs : List UInt8) (er : Int) (w : World) (e : Ending) (w' : World) : Prop := ∃ v, e = .returned v ∧ RefAt w' B v bs er ∧ Ext w w'
def RGoes (B : Nat) (u : Value) (bs : List UInt8) (er : Int) (w : World) (e : Ending) (w' : World) : Prop := ∃ v, e = .returned (.tuple #[u, v]) ∧ RefAt w' B v bs er ∧ Ext w w'

theorem load_ref {W : World} {g : Nat} {a b : Value} {t : TypeId} {fz : Nat × Nat} (h : W.heap[g]? = some (.cells #[a, b] t fz)) : (loadVar 83 ⟨g, 0, none⟩).run Try.prog W = .ok (.agg #[a, b]) W := by
  have c0 : W.cell? ⟨g, 0, none⟩ = some a := blk h 0 rfl
  have c1 : W.cell? ⟨g, 1, none⟩ = some b := blk h 1 rfl
  go_simp

theorem alloc2 (w : World) (o o2 : Obj) : ((w.alloc o).alloc o2).heap[w.heap.size + 1]? = some o2 := by simpa using alloc_new (w.alloc o) o2

/-- A cursor of two cells, written anew. -/
theorem set2 {W : World} {g : Nat} {x y : Value} {t : TypeId} {fz : Nat × Nat} (h : W.heap[g]? = some (.cells #[x, y] t fz)) (a b : Value) : ((W.setCell ⟨g, 0, none⟩ a).setCell ⟨g, 1, none⟩ b).heap[g]? = some (.cells #[a, b] t fz) :=
  set_blk (set_blk h 0 a) 1 b
theorem ext2 {w W : World} {g : Nat} (h : Ext w W) (hg : w.heap.size ≤ g) (a b : Value) : Ext w ((W.setCell ⟨g, 0, none⟩ a).setCell ⟨g, 1, none⟩ b) :=
  Below.setCell (Below.setCell h.b (p := ⟨g, 0, none⟩) hg a) (p := ⟨g, 1, none⟩) hg b
/-- Cells that lie apart from it stay. -/
theorem Cells.set2 {W : World} {B : Nat} {ao : Option Addr} {bs : List UInt8} {g : Nat} (h : Cells W ao (bs.map byteC)) (hl : Lower B ao bs) (hB : B ≤ g) (a b : Value) : Cells ((W.setCell ⟨g, 0, none⟩ a).setCell ⟨g, 1, none⟩ b) ao (bs.map byteC) := by
  by_cases hne : bs = []
  · subst hne; exact Cells.nil _ _
  · have h2 : ∀ ad, ao = some ad → ad.block ≠ g := fun ad e => by have := hl hne ad e; omega
    exact (h.grown (grown_set W g 0 a) h2).grown (grown_set _ g 1 b) h2

set_option maxRecDepth 20000 in
theorem ref_fail (v : Value) (B : Nat) (bs : List UInt8) (er e2 : Int) (w : World) (h : RefAt w B v bs er) :
    Calls Try.prog 100 #[v, .int .i64 e2] w (RGoes1 B bs (failE er e2) w) := by
  obtain ⟨bs0, ao, cap, rfl, hc, hl, hbs⟩ := h
  have HB := Lib.hid hbs
  have HL := Lib.hid hl
  clear hbs hl
  have hx : ∀ o o2, Ext w ((w.alloc o).alloc o2) := fun o o2 => ((Ext.rf w).al _).al _
  by_cases h0 : er = 0
  · subst h0
    go_enter Try.func100, Try.ntmps100
    go_wp2
    exact bodyPost_ret (ret_cell1 rfl rfl (load_ref (alloc2 w _ _))) rfl ⟨_, rfl, ⟨bs0, ao, cap, rfl, hc.ext (hx _ _), HL.out, fun _ => by simpa using HB.out⟩, hx _ _⟩
  · have t1 : (er == 0) = false := by simpa using h0
    have HE : Hid (failE er e2 = er) := by simp [Hid, failE, h0]
    have HN := Lib.hid h0
    clear h0
    go_enter Try.func100, Try.ntmps100
    go_wp2
    exact bodyPost_ret (ret_cell1 rfl rfl (load_ref (alloc2 w _ _))) rfl ⟨_, rfl, by rw [HE.out]; exact ⟨bs0, ao, cap, rfl, hc.ext (hx _ _), HL.out, fun e => absurd e HN.out⟩, hx _ _⟩

set_option maxRecDepth 20000 in
theorem ref_Fail (v : Value) (B : Nat) (bs : List UInt8) (er en : Int) (w : World) (h : RefAt w B v bs er) (hB : B ≤ w.heap.size) :
    Calls Try.prog 92 #[v, .int .i64 en] w (RGoes1 B bs (failE er en) w) := by
  have HF := Lib.hid (fun w' (hx : Ext w w') => ref_fail v B bs er en w' (h.ext hx))
  obtain ⟨bs0, ao, cap, rfl, hc, hl, hbs⟩ := h
  have hx : ∀ o o2, Ext w ((w.alloc o).alloc o2) := fun o o2 => ((Ext.rf w).al _).al _
  clear hbs hl
  go_enter Try.func92, Try.ntmps92
  go_wp2_with fail
  refine (HF.out _ (hx _ _)).mono ?_
  rintro e w1 ⟨v1, rfl, hr, hx1⟩
  obtain ⟨bs1, ao1, cap1, rfl, hc1, hl1, hbs1⟩ := hr
  have d1 := hx1.blk (alloc2 w _ _)
  have f1 := frozen_blk d1 0
  have f2 := frozen_blk d1 1
  have e1 := blk d1 0 rfl
  have e2 := blk d1 1 rfl
  have D1 := Lib.hid d1
  have HB := Lib.hid hbs1
  clear hbs1 d1
  go_wp2_with fail
  exact bodyPost_ret (ret_cell1 rfl rfl (load_ref (set2 D1.out _ _))) rfl ⟨_, rfl, ⟨bs1, ao1, cap1, rfl, hc1.set2 hl1.1 (by omega) _ _, hl1, HB.out⟩, ext2 ((hx _ _).tr hx1) (by omega) _ _⟩

theorem ref_Left (v : Value) (B : Nat) (bs : List UInt8) (er : Int) (w : World) (h : RefAt w B v bs er) :
    Calls Try.prog 60 #[v] w fun e w' => e = .returned (.int .i64 (if er = 0 then bs.length else 0 : Nat)) ∧ Ext w w' := by
  generalize hV : (if er = 0 then bs.length else 0 : Nat) = V
  have HV := Lib.hid hV.symm
  clear hV
  obtain ⟨bs0, ao, cap, rfl, hc, hl, hbs⟩ := h
  by_cases h0 : er = 0
  · subst h0
    obtain rfl := hbs rfl
    have HE : Hid (V = bs0.length) := HV.out
    clear hbs
    go_enter Try.func60, Try.ntmps60
    go_wp2
    go_ret
    exact ⟨by rw [HE.out] <;> rfl, (Ext.rf w).al _⟩
  · have t1 : (er != 0) = true := by simpa using h0
    have HE : Hid (V = 0) := by rw [Hid, HV.out, if_neg h0]
    clear h0 hbs
    go_enter Try.func60, Try.ntmps60
    go_wp2
    go_ret
    exact ⟨by rw [HE.out] <;> rfl, (Ext.rf w).al _⟩

theorem ref_End (v : Value) (B : Nat) (bs : List UInt8) (er : Int) (w : World) (h : RefAt w B v bs er) :
    Calls Try.prog 61 #[v] w fun e w' => e = .returned (.int .i64 (endS bs er)) ∧ Ext w w' := by
  obtain ⟨bs0, ao, cap, rfl, hc, hl, hbs⟩ := h
  by_cases h0 : er = 0
  · subst h0
    obtain rfl := hbs rfl
    clear hbs
    by_cases hp : 0 < bs0.length
    · have HE : Hid (endS bs0 0 = 4) := by simp [Hid, endS, hp]
      have t1 : decide ((0 : Int) < bs0.length) = true := decide_eq_true (by omega)
      have t2 : decide (0 < bs0.length) = true := decide_eq_true (by omega)
      go_enter Try.func61, Try.ntmps61
      go_wp2
      go_ret
      exact ⟨by rw [HE.out] <;> rfl, (Ext.rf w).al _⟩
    · have HE : Hid (endS bs0 0 = 0) := by simp only [Hid, endS]; rw [if_neg (by omega)]
      have t1 : decide ((0 : Int) < bs0.length) = false := decide_eq_false (by omega)
      have t2 : decide (0 < bs0.length) = false := decide_eq_false (by omega)
      go_enter Try.func61, Try.ntmps61
      go_wp2
      go_ret
      exact ⟨by rw [HE.out] <;> rfl, (Ext.rf w).al _⟩
  · have t1 : (er == 0) = false := by simpa using h0
    have HE : Hid (endS bs er = er) := by simp only [Hid, endS]; rw [if_neg (by omega)]
    clear h0 hbs
    go_enter Try.func61, Try.ntmps61
    go_wp2
    go_ret
    exact ⟨by rw [HE.out] <;> rfl, (Ext.rf w).al _⟩

set_option maxRecDepth 20000 in
theorem ref_Bits (v : Value) (B : Nat) (bs : List UInt8) (er : Int) (w : World) (h : RefAt w B v bs er) (hB : B ≤ w.heap.size) (hl : bs.length ≤ 140737488354328) :
    Calls Try.prog 91 #[v] w (RGoes B (.int .u64 (bitsS bs er).1) (bitsS bs er).2.1 (bitsS bs er).2.2 w) := by
  have HR := Lib.hid h
  obtain ⟨bs0, ao, cap, rfl, hc, hlo, hbs⟩ := h
  have hx : ∀ o o2, Ext w ((w.alloc o).alloc o2) := fun o o2 => ((Ext.rf w).al _).al _
  by_cases h0 : er = 0
  · subst h0
    obtain rfl := hbs rfl
    have HG : Hid (∀ n, n = getB bs0 → bitsS bs0 0 = if n.2.2 = 0 then (n.1, bs0.drop n.2.1, 0) else (0, bs0, n.2.2)) := fun n e => by subst e; rw [bitsS, if_pos rfl]
    have HO := Lib.hid (getB_ok bs0)
    have hgc := uvarref_Get ao cap bs0
    generalize getB bs0 = G at *
    have HG1 := Lib.hid (HG.out G rfl)
    have HGC := Lib.hid hgc
    clear hgc HG
    have HX := Lib.hid hx
    go_enter Try.func91, Try.ntmps91
    go_wp2_with fail
    refine (HGC.out _ (hc.ext (HX.out _ _)) hl).mono ?_
    rintro e w1 ⟨rfl, hx1⟩
    have d0 := hx1.blk ((((Ext.rf _).al (.cells #[.slice none 0 0, .int .i64 0] 83))).blk (alloc_new w (.cells #[.slice ao bs0.length cap, .int .i64 0] 83)))
    have d1 := hx1.blk (alloc2 w _ _)
    have hxw := (hx _ _).tr hx1
    clear hx hx1
    have c0 := blk d0 0 rfl
    have c1 := blk d0 1 rfl
    have e0 := blk d1 0 rfl
    have e1 := blk d1 1 rfl
    have f0 := frozen_blk d1 0
    have f1 := frozen_blk d1 1
    have D1 := Lib.hid d1
    have D0 := Lib.hid d0
    clear d1 d0
    by_cases h0 : G.2.2 = 0
    · have HE : Hid (bitsS bs0 0 = (G.1, bs0.drop G.2.1, 0)) := by rw [Hid, HG1.out, if_pos h0]
      have t1 : (G.2.2 != 0) = false := by simpa using h0
      have hle := HO.out.2.1
      clear h0 HG1
      have hcd : Cells w1 (ao.map fun x => x.add G.2.1) ((bs0.drop G.2.1).map byteC) := by rw [List.map_drop]; exact (hc.ext hxw).drop _
      have hll := hlo.1.drop G.2.1
      have hcap := hlo.2
      by_cases hcn : cap = G.2.1
      · have hzz : bs0.drop G.2.1 = [] := List.drop_of_length_le (by omega)
        have hz : bs0.length - G.2.1 = 0 := by omega
        have HZ := Lib.hid hzz
        clear hzz
        go_wp2_with fail
        go_region_held3 (fun w' => w'.cell? ⟨w.heap.size, 0, none⟩ = some (.slice ao bs0.length G.2.1)) (go_simp) (fail)
        go_wp2
        exact bodyPost_ret (ret_tmp_cell rfl rfl (load_ref (set2 D1.out _ _))) rfl ⟨_, by rw [HE.out] <;> rfl, by
          rw [HE.out, HZ.out]; exact ⟨[], ao, 0, rfl, Cells.nil _ _, ⟨fun h => absurd rfl h, Nat.le_refl _⟩, fun _ => rfl⟩, (ext2 hxw (Nat.le_succ _) _ _).dr⟩
      · go_wp2_with fail
        go_region_held3 (fun w' => w'.cell? ⟨w.heap.size, 0, none⟩ = some (.slice ao bs0.length cap)) (go_simp) (fail)
        go_wp2
        exact bodyPost_ret (ret_tmp_cell rfl rfl (load_ref (set2 D1.out _ _))) rfl ⟨_, by rw [HE.out] <;> rfl, by
          rw [HE.out]; exact ⟨bs0.drop G.2.1, _, cap - G.2.1, by rw [List.length_drop] <;> rfl, ((hcd.set2 hll (by omega) _ _).ext (Ext.rf _).dr), ⟨hll, by rw [List.length_drop]; omega⟩, fun _ => rfl⟩, (ext2 hxw (Nat.le_succ _) _ _).dr⟩
    · have HE : Hid (bitsS bs0 0 = (0, bs0, G.2.2)) := by rw [Hid, HG1.out, if_neg h0]
      have t1 : (G.2.2 != 0) = true := by simpa using h0
      have HF := Lib.hid (fun w' (hx : Ext w w') => ref_fail _ B bs0 0 G.2.2 w' (HR.out.ext hx))
      rw [show failE 0 G.2.2 = G.2.2 by simp [failE]] at HF
      clear h0 HG1
      go_wp2_with fail
      refine (HF.out _ hxw).mono ?_
      rintro e w2 ⟨v2, rfl, hr2, hx2⟩
      obtain ⟨bs2, ao2, cap2, rfl, hc2, hl2, hbs2⟩ := hr2
      have HB2 := Lib.hid hbs2
      have D2 := Lib.hid (hx2.blk D1.out)
      have e0 := blk D2.out 0 rfl
      have e1 := blk D2.out 1 rfl
      have f0 := frozen_blk D2.out 0
      have f1 := frozen_blk D2.out 1
      clear hbs2 c0 c1
      go_wp2_with fail
      exact bodyPost_ret (ret_tmp_cell rfl rfl (load_ref (set2 D2.out _ _))) rfl ⟨_, by rw [HE.out] <;> rfl, by
        rw [HE.out]; exact ⟨bs2, ao2, cap2, rfl, hc2.set2 hl2.1 (by omega) _ _, hl2, HB2.out⟩, ext2 (hxw.tr hx2) (Nat.le_succ _) _ _⟩
  · have t1 : (er != 0) = true := by simpa using h0
    have HE : Hid (bitsS bs er = (0, bs, er)) := by simp [Hid, bitsS, h0]
    have HN := Lib.hid h0
    clear h0 hbs
    go_enter Try.func91, Try.ntmps91
    go_wp2
    go_region_held3 (fun w' => w'.cell? ⟨w.heap.size, 0, none⟩ = some (.slice ao bs0.length cap) ∧ w'.cell? ⟨w.heap.size, 1, none⟩ = some (.int .i64 er)) (constructor <;> go_simp) (fail)
    go_wp2
    exact bodyPost_ret (ret_tmp_cell rfl rfl (load_ref (alloc2 w _ _))) rfl ⟨_, by rw [HE.out] <;> rfl, by rw [HE.out]; exact ⟨bs0, ao, cap, rfl, hc.ext (hx _ _).dr, hlo, fun e => absurd e HN.out⟩, (hx _ _).dr⟩

theorem RefAt.any {W : World} {B : Nat} {v : Value} {bs : List UInt8} {er : Int} (h : RefAt W B v bs er) (h0 : er ≠ 0) (bs' : List UInt8) : RefAt W B v bs' er := by
  obtain ⟨bs0, ao, cap, h1, h2, h3, h4⟩ := h
  exact ⟨bs0, ao, cap, h1, h2, h3, fun e => absurd e h0⟩

set_option maxHeartbeats 1000000 in
set_option maxRecDepth 20000 in
theorem ref_Num (v : Value) (B : Nat) (bs : List UInt8) (er most : Int) (w : World) (h : RefAt w B v bs er) (hB : B ≤ w.heap.size) (hl : bs.length ≤ 140737488354328) (hm1 : -9223372036854775808 ≤ most) (hm2 : most ≤ 9223372036854775807) :
    Calls Try.prog 87 #[v, .int .i64 most] w (RGoes B (.int .i64 (numS bs er most).1) (numS bs er most).2.1 (numS bs er most).2.2 w) := by
  have HR := Lib.hid h
  have HO := Lib.hid (bitsS_ok bs er)
  have HE0 : Hid ((bitsS bs er).2.2 = 0 → er = 0) := fun h => by
    by_cases h0 : er = 0
    · exact h0
    · simp [bitsS, h0] at h
  have HN : Hid (∀ n, n = numS bs er most → n = if (bitsS bs er).2.2 = 0 then (if most < 0 ∨ most < (bitsS bs er).1 then (0, (bitsS bs er).2.1, 6) else bitsS bs er) else (0, (bitsS bs er).2.1, (bitsS bs er).2.2)) := fun n h => h
  have HX : Hid (∀ o o2, Ext w ((w.alloc o).alloc o2)) := fun o o2 => ((Ext.rf w).al _).al _
  have HB := Lib.hid (fun w' (hx : Ext w w') => ref_Bits v B bs er w' (h.ext hx) (Nat.le_trans hB hx.size) hl)
  generalize hV : numS bs er most = V
  have HV := Lib.hid (HN.out V hV.symm)
  clear HN hV
  obtain ⟨bs0, ao, cap, rfl, hc, hlo, hbs⟩ := h
  generalize bitsS bs er = G at *
  clear hbs hc hlo
  go_enter Try.func87, Try.ntmps87
  go_wp2_with fail
  refine (HB.out _ (HX.out _ _)).mono ?_
  rintro e w1 ⟨v1, rfl, hr1, hx1⟩
  obtain ⟨bs1, ao1, cap1, rfl, hc1, hl1, hbs1⟩ := hr1
  have HB1 := Lib.hid hbs1
  have d0 := hx1.blk ((((Ext.rf _).al (.cells #[.slice none 0 0, .int .i64 0] 83))).blk (alloc_new w (.cells #[.slice ao bs0.length cap, .int .i64 er] 83)))
  have d1 := hx1.blk (alloc2 w _ _)
  have hxw := (HX.out _ _).tr hx1
  have hs1 := hx1.size
  simp only [World.size_alloc] at hs1
  have c0 := blk d0 0 rfl
  have c1 := blk d0 1 rfl
  have e0 := blk d1 0 rfl
  have e1 := blk d1 1 rfl
  have f0 := frozen_blk d1 0
  have f1 := frozen_blk d1 1
  have D1 := Lib.hid d1
  clear d1 d0 hx1 hbs1
  have g0 := fun o => Ext.has ((Ext.rf w1).al o) c0
  have g1 := fun o => Ext.has ((Ext.rf w1).al o) c1
  have hu := HO.out.1
  have HXA : Hid (∀ o, Ext w (w1.alloc o)) := fun o => hxw.al o
  by_cases h0 : G.2.2 = 0
  · have HV1 : Hid (V = if most < 0 ∨ most < G.1 then (0, G.2.1, 6) else G) := by rw [Hid, HV.out, if_pos h0]
    have t1 : (G.2.2 == 0) = true := by simpa using h0
    have he0 : er = 0 := HE0.out h0
    have HG0 := Lib.hid h0
    clear HV h0 HE0
    by_cases h1 : most < 0 ∨ most < G.1
    · have HV2 : Hid (V = (0, G.2.1, 6)) := by rw [Hid, HV1.out, if_pos h1]
      have HF := Lib.hid (fun w' (hx : Ext w w') => ref_fail _ B bs er 6 w' (HR.out.ext hx))
      rw [show failE er 6 = 6 by simp [failE, he0]] at HF
      have hq : most < 0 ∨ (0 ≤ most ∧ most < G.1) := by omega
      clear h1 HV1 he0
      rcases hq with h1 | ⟨h1, h2⟩
      · have t2 : decide (most < 0) = true := decide_eq_true h1
        go_wp2_with fail
        refine (HF.out _ (HXA.out _)).mono ?_
        rintro e w2 ⟨v2, rfl, hr2, hx2⟩
        have HR2 := Lib.hid (hr2.any (by decide) G.2.1)
        obtain ⟨bs2, ao2, cap2, rfl, hc2, hl2, hbs2⟩ := hr2
        have D2 := Lib.hid (hx2.blk (Ext.blk ((Ext.rf w1).al _) D1.out))
        have e0 := blk D2.out 0 rfl
        have e1 := blk D2.out 1 rfl
        have f0 := frozen_blk D2.out 0
        have f1 := frozen_blk D2.out 1
        clear hbs2 c0 c1 g0 g1
        go_wp2_with fail
        exact bodyPost_ret (ret_tmp_cell rfl rfl (load_ref (set2 D2.out _ _))) rfl ⟨_, by rw [HV2.out] <;> rfl, by
          rw [HV2.out]; exact ⟨bs2, ao2, cap2, rfl, hc2.set2 hl2.1 (by omega) _ _, hl2, fun e => absurd e (by simp)⟩, ext2 ((HXA.out _).tr hx2) (Nat.le_succ _) _ _⟩
      · have t2 : decide (most < 0) = false := decide_eq_false (by omega)
        have hw : IntKind.u64.wrap most = most := by rw [IntKind.wrap_u64]; omega
        have t3 : decide (most < (G.1 : Int)) = true := decide_eq_true h2
        go_wp2_with fail
        refine (HF.out _ (HXA.out _)).mono ?_
        rintro e w2 ⟨v2, rfl, hr2, hx2⟩
        obtain ⟨bs2, ao2, cap2, rfl, hc2, hl2, hbs2⟩ := hr2
        have D2 := Lib.hid (hx2.blk (Ext.blk ((Ext.rf w1).al _) D1.out))
        have e0 := blk D2.out 0 rfl
        have e1 := blk D2.out 1 rfl
        have f0 := frozen_blk D2.out 0
        have f1 := frozen_blk D2.out 1
        clear hbs2 c0 c1 g0 g1
        go_wp2_with fail
        exact bodyPost_ret (ret_tmp_cell rfl rfl (load_ref (set2 D2.out _ _))) rfl ⟨_, by rw [HV2.out] <;> rfl, by
          rw [HV2.out]; exact ⟨bs2, ao2, cap2, rfl, hc2.set2 hl2.1 (by omega) _ _, hl2, fun e => absurd e (by simp)⟩, ext2 ((HXA.out _).tr hx2) (Nat.le_succ _) _ _⟩
    · have HV2 : Hid (V = G) := by rw [Hid, HV1.out, if_neg h1]
      have t2 : decide (most < 0) = false := decide_eq_false (by omega)
      have hw : IntKind.u64.wrap most = most := by rw [IntKind.wrap_u64]; omega
      have t3 : decide (most < (G.1 : Int)) = false := decide_eq_false (by omega)
      have hb : (G.1 : Int) ≤ 9223372036854775807 := by omega
      have hwi : IntKind.i64.wrap (G.1 : Int) = G.1 := by rw [IntKind.wrap_i64]; omega
      have D2 : Hid (∀ o, (w1.alloc o).heap[w.heap.size + 1]? = _) := fun o => Ext.blk ((Ext.rf w1).al o) D1.out
      have e0' := fun o => blk (D2.out o) 0 rfl
      have e1' := fun o => blk (D2.out o) 1 rfl
      have f0' := fun o => frozen_blk (D2.out o) 0
      have f1' := fun o => frozen_blk (D2.out o) 1
      clear HV1 h1
      go_wp2_with fail
      go_region_held3 (fun w' => w'.cell? ⟨w1.heap.size, 0, none⟩ = some (.slice ao1 bs1.length cap1) ∧ w'.cell? ⟨w1.heap.size, 1, none⟩ = some (.int .i64 G.2.2)) (constructor <;> go_simp) (fail)
      go_wp2
      exact bodyPost_ret (ret_tmp_cell rfl rfl (load_ref (set2 (D2.out _) _ _))) rfl ⟨_, by rw [HV2.out] <;> rfl, by
        rw [HV2.out]; exact ⟨bs1, ao1, cap1, rfl, (((hc1.ext ((Ext.rf w1).al _)).set2 hl1.1 (by omega) _ _).ext (Ext.rf _).dr), hl1, HB1.out⟩, (ext2 (HXA.out _) (Nat.le_succ _) _ _).dr⟩
  · have HV1 : Hid (V = (0, G.2.1, G.2.2)) := by rw [Hid, HV.out, if_neg h0]
    have t1 : (G.2.2 == 0) = false := by simpa using h0
    have hg0 := HO.out.2.1 h0
    have D2 : Hid (∀ o, (w1.alloc o).heap[w.heap.size + 1]? = _) := fun o => Ext.blk ((Ext.rf w1).al o) D1.out
    have e0' := fun o => blk (D2.out o) 0 rfl
    have e1' := fun o => blk (D2.out o) 1 rfl
    have f0' := fun o => frozen_blk (D2.out o) 0
    have f1' := fun o => frozen_blk (D2.out o) 1
    clear HV h0
    go_wp2_with fail
    go_region_held3 (fun w' => w'.cell? ⟨w1.heap.size, 0, none⟩ = some (.slice ao1 bs1.length cap1) ∧ w'.cell? ⟨w1.heap.size, 1, none⟩ = some (.int .i64 G.2.2)) (constructor <;> go_simp) (fail)
    go_wp2
    exact bodyPost_ret (ret_tmp_cell rfl rfl (load_ref (set2 (D2.out _) _ _))) rfl ⟨_, by rw [HV1.out] <;> rfl, by
      rw [HV1.out]; exact ⟨bs1, ao1, cap1, rfl, (((hc1.ext ((Ext.rf w1).al _)).set2 hl1.1 (by omega) _ _).ext (Ext.rf _).dr), hl1, HB1.out⟩, (ext2 (HXA.out _) (Nat.le_succ _) _ _).dr⟩

set_option maxHeartbeats 1000000 in
set_option maxRecDepth 20000 in
theorem ref_Int (v : Value) (B : Nat) (bs : List UInt8) (er : Int) (w : World) (h : RefAt w B v bs er) (hB : B ≤ w.heap.size) (hl : bs.length ≤ 140737488354328) :
    Calls Try.prog 88 #[v] w (RGoes B (.int .i64 (unfoldI (bitsS bs er).1)) (bitsS bs er).2.1 (bitsS bs er).2.2 w) := by
  have HO := Lib.hid (bitsS_ok bs er)
  have HX : Hid (∀ o o2, Ext w ((w.alloc o).alloc o2)) := fun o o2 => ((Ext.rf w).al _).al _
  have HB := Lib.hid (fun w' (hx : Ext w w') => ref_Bits v B bs er w' (h.ext hx) (Nat.le_trans hB hx.size) hl)
  obtain ⟨bs0, ao, cap, rfl, hc, hlo, hbs⟩ := h
  generalize bitsS bs er = G at *
  generalize hU : unfoldI G.1 = U
  have HU := Lib.hid hU
  clear hbs hc hlo hU
  go_enter Try.func88, Try.ntmps88
  go_wp2_with fail
  refine (HB.out _ (HX.out _ _)).mono ?_
  rintro e w1 ⟨v1, rfl, hr1, hx1⟩
  obtain ⟨bs1, ao1, cap1, rfl, hc1, hl1, hbs1⟩ := hr1
  have HB1 := Lib.hid hbs1
  have d1 := hx1.blk (alloc2 w _ _)
  have hxw := (HX.out _ _).tr hx1
  have hs1 := hx1.size
  simp only [World.size_alloc] at hs1
  have D1 := Lib.hid d1
  have HXA : Hid (∀ o, Ext w (w1.alloc o)) := fun o => hxw.al o
  have D2 : Hid (∀ o, (w1.alloc o).heap[w.heap.size + 1]? = _) := fun o => Ext.blk ((Ext.rf w1).al o) D1.out
  have e0' := fun o => blk (D2.out o) 0 rfl
  have e1' := fun o => blk (D2.out o) 1 rfl
  have f0' := fun o => frozen_blk (D2.out o) 0
  have f1' := fun o => frozen_blk (D2.out o) 1
  clear d1 hx1 hbs1
  have hu := HO.out.1
  by_cases h0 : G.2.2 = 0
  · have t1 : (G.2.2 != 0) = false := by simpa using h0
    clear h0
    go_wp2_with fail
    go_region_held3 (fun w' => w'.cell? ⟨w1.heap.size, 0, none⟩ = some (.slice ao1 bs1.length cap1) ∧ w'.cell? ⟨w1.heap.size, 1, none⟩ = some (.int .i64 G.2.2)) (constructor <;> go_simp) (first | (go_at_call 101; refine (uvarref_Unfold G.1 _ hu).mono ?_; rw [HU.out]; rintro e w' ⟨rfl, rfl⟩))
    go_wp2
    exact bodyPost_ret (ret_tmp_cell rfl rfl (load_ref (set2 (D2.out _) _ _))) rfl ⟨_, rfl, ⟨bs1, ao1, cap1, rfl, (((hc1.ext ((Ext.rf w1).al _)).set2 hl1.1 (by omega) _ _).ext (Ext.rf _).dr), hl1, HB1.out⟩, (ext2 (HXA.out _) (Nat.le_succ _) _ _).dr⟩
  · have t1 : (G.2.2 != 0) = true := by simpa using h0
    have hz := HO.out.2.1 h0
    have HU0 : Hid (U = 0) := by rw [Hid, ← HU.out, hz]; rfl
    clear h0 HO hu hz
    go_wp2_with fail
    go_region_held3 (fun w' => w'.cell? ⟨w1.heap.size, 0, none⟩ = some (.slice ao1 bs1.length cap1) ∧ w'.cell? ⟨w1.heap.size, 1, none⟩ = some (.int .i64 G.2.2)) (constructor <;> go_simp) (fail)
    go_wp2
    exact bodyPost_ret (ret_tmp_cell rfl rfl (load_ref (set2 (D2.out _) _ _))) rfl ⟨_, by rw [HU0.out] <;> rfl, ⟨bs1, ao1, cap1, rfl, (((hc1.ext ((Ext.rf w1).al _)).set2 hl1.1 (by omega) _ _).ext (Ext.rf _).dr), hl1, HB1.out⟩, (ext2 (HXA.out _) (Nat.le_succ _) _ _).dr⟩

set_option maxHeartbeats 1000000 in
set_option maxRecDepth 20000 in
theorem ref_Byte (v : Value) (B : Nat) (bs : List UInt8) (er : Int) (w : World) (h : RefAt w B v bs er) (hB : B ≤ w.heap.size) :
    Calls Try.prog 89 #[v] w (RGoes B (.int .u8 (byteS bs er).1) (byteS bs er).2.1 (byteS bs er).2.2 w) := by
  have HR := Lib.hid h
  obtain ⟨bs0, ao, cap, rfl, hc, hlo, hbs⟩ := h
  have hx : ∀ o o2, Ext w ((w.alloc o).alloc o2) := fun o o2 => ((Ext.rf w).al _).al _
  by_cases h0 : er = 0
  · subst h0
    obtain rfl := hbs rfl
    clear hbs
    have HE : Hid (byteS bs0 0 = octS bs0) := by simp [Hid, byteS]
    cases bs0 with
    | nil =>
      have HF := Lib.hid (fun w' (hx : Ext w w') => ref_fail _ B [] 0 3 w' (HR.out.ext hx))
      rw [show failE 0 3 = 3 by simp [failE]] at HF
      have HX := Lib.hid hx
      clear hx
      go_enter Try.func89, Try.ntmps89
      go_wp2_with fail
      refine (HF.out _ (HX.out _ _)).mono ?_
      rintro e w2 ⟨v2, rfl, hr2, hx2⟩
      obtain ⟨bs2, ao2, cap2, rfl, hc2, hl2, hbs2⟩ := hr2
      have D2 := Lib.hid (hx2.blk (alloc2 w _ _))
      have e0 := blk D2.out 0 rfl
      have e1 := blk D2.out 1 rfl
      have f0 := frozen_blk D2.out 0
      have f1 := frozen_blk D2.out 1
      clear hbs2
      go_wp2_with fail
      exact bodyPost_ret (ret_tmp_cell rfl rfl (load_ref (set2 D2.out _ _))) rfl ⟨_, by rw [HE.out] <;> rfl, by
        rw [HE.out]; exact ⟨bs2, ao2, cap2, rfl, hc2.set2 hl2.1 (by omega) _ _, hl2, fun e => absurd e (by simp [octS])⟩, ext2 ((HX.out _ _).tr hx2) (Nat.le_succ _) _ _⟩
    | cons b t =>
      have t1 : (((b :: t).length : Int) == 0) = false := by simp; omega
      have t2 : ((b :: t).length == 0) = false := by simp
      obtain ⟨bk, off, rfl, d0⟩ := hc.at (k := 0) (by simp)
      simp only [List.map_cons, List.getElem_cons_zero, byteC, Nat.add_zero] at d0
      have hcap := hlo.2
      have hd1 := fun o o2 => (hx o o2).has d0
      have HX := Lib.hid hx
      have HC := Lib.hid (hc.drop 1)
      have hll := hlo.1.drop 1
      clear hx d0 hc
      have hcap2 : t.length + 1 ≤ cap := by simpa using hcap
      have i1 : (1 : Int) ≤ (t.length : Int) + 1 := by omega
      have hxd : Hid (∀ o o2, Ext w ((w.alloc o).alloc o2).drew) := fun o o2 => (HX.out o o2).dr
      by_cases hcn : cap = 1
      · subst hcn
        obtain rfl : t = [] := by simpa using hcap
        go_enter Try.func89, Try.ntmps89
        go_wp2_with fail
        go_region_held3 (fun w' => w'.cell? ⟨w.heap.size, 0, none⟩ = some (.slice (some ⟨bk, off, none⟩) 1 1) ∧ w'.cell? ⟨bk, off, none⟩ = some (.int .u8 b.toNat)) (constructor <;> go_simp) (fail)
        go_wp2
        exact bodyPost_ret (ret_tmp_cell rfl rfl (load_ref (alloc2 w _ _))) rfl ⟨_, by rw [HE.out] <;> rfl, by rw [HE.out]; exact ⟨[], _, _, rfl, Cells.nil _ _, ⟨fun h => absurd rfl h, Nat.zero_le _⟩, fun _ => rfl⟩, hxd.out _ _⟩
      · go_enter Try.func89, Try.ntmps89
        go_wp2_with fail
        go_region_held3 (fun w' => w'.cell? ⟨w.heap.size, 0, none⟩ = some (.slice (some ⟨bk, off, none⟩) (t.length + 1) cap) ∧ w'.cell? ⟨bk, off, none⟩ = some (.int .u8 b.toNat)) (constructor <;> go_simp) (fail)
        go_wp2
        exact bodyPost_ret (ret_tmp_cell rfl rfl (load_ref (alloc2 w _ _))) rfl ⟨_, by rw [HE.out] <;> rfl, by rw [HE.out]; exact ⟨t, some ⟨bk, off + 1, none⟩, cap - 1, rfl, by simpa [addr_add] using HC.out.ext (hxd.out _ _), ⟨by simpa [addr_add] using hll, by omega⟩, fun _ => rfl⟩, hxd.out _ _⟩
  · have t1 : (er != 0) = true := by simpa using h0
    have HE : Hid (byteS bs er = (0, bs, er)) := by simp [Hid, byteS, h0]
    have HN := Lib.hid h0
    clear h0 hbs
    go_enter Try.func89, Try.ntmps89
    go_wp2
    go_region_held3 (fun w' => w'.cell? ⟨w.heap.size, 0, none⟩ = some (.slice ao bs0.length cap) ∧ w'.cell? ⟨w.heap.size, 1, none⟩ = some (.int .i64 er)) (constructor <;> go_simp) (fail)
    go_wp2
    exact bodyPost_ret (ret_tmp_cell rfl rfl (load_ref (alloc2 w _ _))) rfl ⟨_, by rw [HE.out] <;> rfl, by rw [HE.out]; exact ⟨bs0, ao, cap, rfl, hc.ext (hx _ _).dr, hlo, fun e => absurd e HN.out⟩, (hx _ _).dr⟩
end Go.Proofs.Ytfeddkfpkdjbeaa
