/- dis.writer: a function's lines. -/
import Derived.Test.YtkdnbnkbnegckaaGreatDoorPur
import Derived.Deep.DeepCutAuto
namespace Go.Proofs.YtkdnbnkbnegckaaGreatDoor
open Go.RowKit
set_option maxRecDepth 20000
set_option linter.unusedVariables false
theorem rep_below {w W : World} {cs : List C} {us : List Value} (h : RepCs w W0 cs us) (hx : Ext w W) : RepCs W W0 cs us := (hand_reps hx.size (fun b h1 _ => hx.block h1) h).mono fun _ _ => rfl
theorem rep_below1 {w W : World} {c : C} {u : Value} (h : RepC w W0 c u) (hx : Ext w W) : RepC W W0 c u := (hand_rep hx.size (fun b h1 _ => hx.block h1) h).mono fun _ _ => rfl
theorem c_Head {W : World} {f : Fn} {cs : List Value} (h : OkT f) (hcs : RepCs W W0 (enc tF f) cs) : Calls Tryz.prog 38 #[.agg cs.toArray] W fun e W' => e = .returned (.string ⟨⟨headT f.1 f.2.1 f.2.2.1 f.2.2.2.1 f.2.2.2.2.1 f.2.2.2.2.2.1⟩⟩) ∧ Ext W W' := by
  have hS : S_dis_Head f.1 f.2.1 f.2.2.1 f.2.2.2.1 f.2.2.2.2.1 f.2.2.2.2.2.1 f.2.2.2.2.2.2.1 f.2.2.2.2.2.2.2.1 f.2.2.2.2.2.2.2.2.1 f.2.2.2.2.2.2.2.2.2.1 f.2.2.2.2.2.2.2.2.2.2 = some (headT f.1 f.2.1 f.2.2.1 f.2.2.2.1 f.2.2.2.2.1 f.2.2.2.2.2.1, ()) := sp_head h.1
  have hw : callW Tryz.prog annX plansX 38 [⟨.agg, fnX f⟩] ⟨[], []⟩ = some (⟨.one, [.c (.v (.string ⟨⟨headT f.1 f.2.1 f.2.2.1 f.2.2.2.1 f.2.2.2.2.1 f.2.2.2.2.2.1⟩⟩))]⟩, ⟨[], []⟩) :=
    k_dis_Head (f.1, (f.2.1, (f.2.2.1, (f.2.2.2.1, (f.2.2.2.2.1, (f.2.2.2.2.2.1, (f.2.2.2.2.2.2.1, (f.2.2.2.2.2.2.2.1, (f.2.2.2.2.2.2.2.2.1, (f.2.2.2.2.2.2.2.2.2.1, (f.2.2.2.2.2.2.2.2.2.2, ()))))))))))) _ hS _ (by kernel_rfl)
  refine (pure_one hw (vs := [.agg cs.toArray]) rfl fun i t u h1 h2 => ?_).mono fun e W' ⟨u, he, hu, hx⟩ => ?_
  · match i with
    | 0 =>
      cases h1
      cases h2
      refine ⟨cs, rfl, by simpa [fnX] using hcs.1, fun i x u h3 h4 => ?_⟩
      rw [fnX, List.getElem?_map] at h3
      cases hq : (enc tF f)[i]? with
      | none => rw [hq] at h3; cases h3
      | some c =>
        rw [hq] at h3
        cases h3
        have := hcs.2 i c u hq h4
        exact ⟨this, this.one⟩
    | i + 1 => simp at h1
  · cases hu
    exact ⟨he, hx⟩
theorem c_At {W : World} {l : List Int} {v : Value} {k : Nat} (hr : RepC W W0 (.fz 1 (encL tI l)) v) : Calls Tryz.prog 71 #[v, .int .i64 (k : Int)] W fun e W' => e = .returned (.int .i64 (atL l k)) ∧ Ext W W' := by
  have hw : callW Tryz.prog annX plansX 71 [⟨.one, [.c (.fz 1 (encL tI l))]⟩, ⟨.one, [.c (.v (.int .i64 (k : Int)))]⟩] ⟨[], []⟩ = some (⟨.one, [.c (.v (.int .i64 (atL l k)))]⟩, ⟨[], []⟩) := k_lines_At (l, ((k : Int), ())) _ sp_lAt _ (by kernel_rfl)
  refine (pure_one hw (vs := [v, .int .i64 (k : Int)]) rfl fun i t u h1 h2 => ?_).mono fun e W' ⟨u, he, hu, hx⟩ => ?_
  · match i with
    | 0 =>
      cases h1
      cases h2
      exact ⟨_, rfl, hr⟩
    | 1 =>
      cases h1
      cases h2
      exact ⟨_, rfl, .v _ rfl⟩
    | i + 2 => simp at h1
  · cases hu
    exact ⟨he, hx⟩
theorem new_strs (w : World) (t : TypeId) (os : Array Value) (bs : List ByteArray) (h : os.toList = bs.map Value.string) : ∀ (j : Nat) x, bs[j]? = some x → (w.alloc (.cells os t)).cell? ⟨w.heap.size, 0 + j, none⟩ = some (.string x) := fun j x hj => by
  refine blk (alloc_new w _) (0 + j) ?_
  rw [Nat.zero_add, ← Array.getElem?_toList, h, List.getElem?_map, hj]
  rfl
theorem kp_blk {b g : Nat} {o : Obj} {w w' : World} (h : Kp b w w') (hg : w.heap[g]? = some o) (hne : g ≠ b) (ho : ownB b w ≠ some g) : w'.heap[g]? = some o ∧ ownB b w' ≠ some g := by
  have hlt := (Array.getElem?_eq_some_iff.1 hg).1
  refine ⟨(h.blk g hlt hne ho).trans hg, fun e => ?_⟩
  rcases h.own g e with e | e
  · exact ho e
  · exact absurd hlt (by omega)
theorem isWr_own {B b : Nat} {l : List UInt8} {w : World} (h : IsWr B b l w) {g : Nat} (hg : w.heap.size ≤ g) : ownB b w ≠ some g := by
  obtain ⟨p, hB, v, hbk, hown, hne⟩ : ∃ p, WrAt B b p l w := by
    rcases h with h | h
    · exact ⟨_, h⟩
    · exact ⟨_, h⟩
  intro e
  have : w.cell? ⟨b, 1, none⟩ = some v := by rw [Lib.cell_of_heap hbk]; rfl
  rw [ownB, this] at e
  exact absurd (hown.lt g e).2 (by omega)
theorem join_one (x s : List UInt8) : Lib.join [x] s = x := by simp [Lib.join]
theorem join_two (x y s : List UInt8) : Lib.join [x, y] s = x ++ s ++ y := by simp [Lib.join]
theorem ownB_ext {b : Nat} {w w' : World} (hx : Ext w w') (hb : b < w.heap.size) : ownB b w' = ownB b w := by rw [ownB, ownB, cell_of_block (hx.block hb)]
theorem ownB_ne {b g : Nat} {w w' : World} (hx : Ext w w') (hb : b < w.heap.size) (h : ownB b w ≠ some g) : ownB b w' ≠ some g := by rw [ownB_ext hx hb]; exact h
theorem kp_cell {b g j : Nat} {v : Value} {w w' : World} (h : Kp b w w') (hc : w.cell? ⟨g, j, none⟩ = some v) (hlt : g < w.heap.size) (hne : g ≠ b) (ho : ownB b w ≠ some g) : w'.cell? ⟨g, j, none⟩ = some v := (cell_of_block (h.blk g hlt hne ho)).trans hc
theorem row_pairs {W : World} {v : Value} {l : List (Int × Int)} (hr : RepC W W0 (.fz 2 (encL tC l)) v) : ∃ ao cap, v = .slice ao l.length cap ∧ (l ≠ [] → ∃ b off, ao = some ⟨b, off, none⟩ ∧ b < W.heap.size ∧ ∀ j (h : j < l.length), W.cell? ⟨b, off + j * 2, none⟩ = some (.int .i64 l[j].1) ∧ W.cell? ⟨b, off + j * 2 + 1, none⟩ = some (.int .i64 l[j].2)) := by
  obtain ⟨es, he⟩ : ∃ es, es = encL tC l := ⟨_, rfl⟩
  have hel : es.length = l.length := by rw [he, encL_len]
  rw [← he] at hr
  cases hr with
  | fz _ cap _ ao us hu hc ha hw hrg hl hrep =>
    refine ⟨ao, cap, by rw [hel], fun hne => ?_⟩
    have hne2 : es ≠ [] := fun h => hne (List.eq_nil_of_length_eq_zero (by rw [← hel, h]; rfl))
    obtain ⟨b, off, rfl⟩ := ha hne2
    refine ⟨b, off, rfl, (hw b off hne2 rfl).2, fun j hj => ?_⟩
    have hj2 : j < es.length := by rw [hel]; exact hj
    have hej : es[j] = enc tC l[j] := by subst he; exact List.getElem_map _
    have hfl := flatten_len es hu
    have hul : us.length = es.length * 2 := by rw [← hl, hfl]
    have hle : j * 2 + 2 ≤ us.length := by omega
    have hflat : ∀ i, i < 2 → es.flatten[j * 2 + i]? = (enc tC l[j])[i]? := fun i hi => by
      rw [← hej]
      have := congrArg (fun l => l[i]?) (flatten_at hu (List.getElem?_eq_getElem hj2))
      simp only [List.getElem?_take, if_pos hi, List.getElem?_drop] at this
      exact this
    have h0 := hrep (j * 2 + 0) _ us[j * 2 + 0] (by rw [hflat 0 (by decide)]; rfl) (List.getElem?_eq_getElem (by omega))
    have h1 := hrep (j * 2 + 1) _ us[j * 2 + 1] (by rw [hflat 1 (by decide)]; rfl) (List.getElem?_eq_getElem (by omega))
    have r0 := hrg b off rfl (j * 2 + 0) _ (List.getElem?_eq_getElem (by omega))
    have r1 := hrg b off rfl (j * 2 + 1) _ (List.getElem?_eq_getElem (by omega))
    generalize us[j * 2 + 0] = u0 at *
    generalize us[j * 2 + 1] = u1 at *
    cases h0
    cases h1
    exact ⟨r0, by rw [Nat.add_assoc]; exact r1⟩
theorem wr_line2 (B b : Nat) (l x y : List UInt8) (X : World) (h : IsWr B b l X) (hB : B ≤ X.heap.size) (hlen : l.length + (x ++ [32] ++ y).length + 1 ≤ 140737488355328) :
    Calls Tryz.prog 70 #[.pointer (some ⟨b, 0, none⟩), .slice (some ⟨X.heap.size, 0, none⟩) 2 2] (X.alloc (.cells #[.string (strB x), .string (strB y)] 9)) fun e w' => e = .returned (.tuple #[]) ∧ (WrAt B b (.pointer (some ⟨b, 0, none⟩)) (l ++ (x ++ [32] ++ y ++ [10])) w' ∧ Below B X w') ∧ Kp b X w' := by
  have hA : Ext X (X.alloc (.cells #[.string ⟨⟨x⟩⟩, .string ⟨⟨y⟩⟩] 9)) := (Ext.rf X).al _
  have hJ : Lib.join [x, y] [32] = x ++ [32] ++ y := join_two _ _ _
  show Calls Tryz.prog 70 #[.pointer (some ⟨b, 0, none⟩), .slice (some ⟨X.heap.size, 0, none⟩) 2 2] (X.alloc (.cells #[.string ⟨⟨x⟩⟩, .string ⟨⟨y⟩⟩] 9)) _
  refine (wr_line B b l X.heap.size 0 2 2 [x, y] _ (isWr_ext h hA) (new_strs X _ _ _ rfl) (by simp) rfl (Nat.le_refl _) (by decide) (by rw [hJ]; exact hlen) (Nat.le_trans hB hA.size)).mono ?_
  rintro e w' ⟨rfl, ⟨h1, h2⟩, h3⟩
  rw [lineB, hJ] at h1
  exact ⟨rfl, ⟨h1, (hA.b.mono hB).trans h2⟩, (Kp.ext (isWr_lt h) hA).tr h3⟩
theorem Ext.trh {a b c : World} (h : Hid (Ext b c)) (k : Ext a b) : Ext a c := k.tr h.out
set_option maxHeartbeats 8000000 in
theorem wr_write (w : World) (b : Nat) (l : List UInt8) (f : Fn) (cs : List Value) (W : World) (h : IsWr w.heap.size b l W) (hx : Ext w W) (hcs : RepCs w W0 (enc tF f) cs) (hf : OkT f) (hlen : l.length ≤ 10000000000000) :
    Calls Tryz.prog 44 #[.pointer (some ⟨b, 0, none⟩), .agg cs.toArray] W fun e W' => e = .returned (.tuple #[]) ∧ WrAt w.heap.size b (.pointer (some ⟨b, 0, none⟩)) (l ++ funcT f) W' ∧ Ext w W' := by
  obtain ⟨a1, c1, a2, c2, a3, c3, a4, c4, a5, c5, a6, c6, a7, c7, a8, c8, a9, c9, hcse⟩ := fn_cells hcs
  subst hcse
  obtain ⟨nm, inn, ou, pa, re, lo, code, lines, no, at', lv⟩ := f
  have HH := Lib.hid fun W' h => c_Head (W := W') hf (rep_below hcs h)
  have HLr := Lib.hid (hcs.2 7 (.fz 1 (encL tI lines)) (.slice a6 lines.length c6) rfl rfl)
  have HCr := Lib.hid (row_pairs (W := w) (v := .slice a5 code.length c5) (l := code) (hcs.2 6 _ _ rfl rfl))
  have HLo : Hid (∀ k, I64s (atL lines k)) := Lib.hid fun k => atL_ok hf.2.2.1
  have HCo : Hid (∀ p ∈ code, I64s p.2) := Lib.hid hf.2.2.2
  have HI : Hid (∀ x ∈ code.zipIdx, (instT lines x).length ≤ 60) := Lib.hid fun x hx => instT_le hf.2.2.1 (hf.2.2.2 x.1 (by
    obtain ⟨i, hi, e⟩ := List.mem_iff_getElem.1 hx
    rw [List.getElem_zipIdx] at e
    rw [← e]
    exact List.getElem_mem _))
  have hN : code.length ≤ 100000 := hf.2.1
  have hhd : (headT nm inn ou pa re lo).length ≤ 200000000 := by
    have h1 := headT_le (name := nm) (inner := inn) (outer := ou) (params := pa) (results := re) (locals := lo)
    obtain ⟨h3, h4, h5, h6, h7⟩ := hf.1
    dsimp only at h3 h4 h5 h6 h7
    omega
  rw [show funcT (nm, inn, ou, pa, re, lo, code, lines, no, at', lv) = headT nm inn ou pa re lo ++ 10 :: (codeT lines code ++ [101, 110, 100, 10]) from rfl]
  dsimp only at HH ⊢
  generalize headT nm inn ou pa re lo = hd at *
  have HW := Lib.hid h
  have HX := Lib.hid hx
  clear h hx hcs hf
  have HBw := Lib.hid HX.out.size
  go_enter Tryz.func44, Tryz.ntmps44
  go_wp2_with fail
  refine (HH.out _ (HX.out.al _)).mono ?_
  rintro e w1 ⟨rfl, hx1⟩
  have hp1 := Lib.hid ((hx1.block (by simp)).trans (alloc_new W _))
  have HX1 := Lib.hid (((Ext.rf W).al _).tr hx1)
  clear hx1 HH
  go_wp2_with fail
  have hw0 := isWr_ext HW.out (HX1.out.tr ((Ext.rf w1).al (.cells #[.string ⟨⟨hd⟩⟩] 9)))
  have h9 : Lib.join [hd] [32] = hd := join_one _ _
  refine (wr_line w.heap.size b l w1.heap.size 0 1 1 [hd] _ hw0 (new_strs w1 _ _ _ rfl) (by simp) rfl (Nat.le_refl _) (by decide) (by rw [h9]; omega) (Nat.le_trans HBw.out (HX1.out.tr ((Ext.rf w1).al _)).size)).mono ?_
  rintro e w2 ⟨rfl, ⟨hw2, hb2⟩, hk2⟩
  have hA := (HX1.out.tr ((Ext.rf w1).al (.cells #[.string ⟨⟨hd⟩⟩] 9)))
  have HWl := Lib.hid (isWr_lt HW.out)
  have HGb : Hid (W.heap.size ≠ b) := Lib.hid (by have := HWl.out; omega)
  obtain ⟨hp2, ho2⟩ := kp_blk hk2 ((((Ext.rf w1).al _).block (Array.getElem?_eq_some_iff.1 hp1.out).1).trans hp1.out) HGb.out (by rw [ownB_ext hA HWl.out]; exact isWr_own HW.out (Nat.le_refl _))
  have HX2 := Lib.hid ((HX.out.tr hA).trans hb2)
  have HP2 := Lib.hid hp2
  have HO2 := Lib.hid ho2
  rw [show lineB [hd] = hd ++ [10] from by rw [lineB, join_one]] at hw2
  have HW2 := Lib.hid hw2
  clear hw2 hb2 hk2 hp2 ho2 hA hw0 h9 hp1 HX1
  have k6 : w2.cell? ⟨W.heap.size, 6, none⟩ = _ := blk HP2.out 6 rfl
  go_wp2_with fail
  go_loopw [17] (fun i wr => ∃ k : Nat, k ≤ code.length ∧ i = .int .i64 k ∧ Hid (WrAt w.heap.size b (.pointer (some ⟨b, 0, none⟩)) (l ++ (hd ++ [10]) ++ (code.zipIdx.take k).flatMap (instT lines)) wr) ∧ Hid (Ext w wr) ∧ Hid (wr.cell? ⟨W.heap.size, 7, none⟩ = some (.slice a6 lines.length c6)) ∧ Hid (ownB b wr ≠ some W.heap.size) ∧ Hid (W.heap.size < wr.heap.size))
    (fun i _ => code.length - (intOf i).toNat)
  case atStart => exact ⟨0, Nat.zero_le _, rfl, Lib.hid (by simpa using HW2.out), HX2, Lib.hid (blk HP2.out 7 rfl), HO2, Lib.hid (Array.getElem?_eq_some_iff.1 HP2.out).1⟩
  case round =>
    obtain ⟨k, hk, rfl, HWr, HXr, HBr, HOr, HSr⟩ := hrel
    clear HP2 HX2 HW2 HO2 k6
    by_cases hlt : k < code.length
    · have hltB : decide ((k : Int) < (code.length : Int)) = true := decide_eq_true (by omega)
      have hltB2 : decide (k < code.length) = true := decide_eq_true hlt
      obtain ⟨ao, cap, he, hcr⟩ := HCr.out
      obtain ⟨bc, off, hao, hbw, hj⟩ := hcr (fun h => by rw [h] at hlt; simp at hlt)
      obtain ⟨e0, e1⟩ := hj k hlt
      have e0 := HXr.out.has e0
      have e1 := HXr.out.has e1
      cases he
      subst hao
      go_wp2_with fail
      have HAx : Ext wr (wr.alloc (.cells #[.int .i64 code[k].1, .int .i64 code[k].2] 25)) := (Ext.rf wr).al _
      have hbl : b < wr.heap.size := by have := HWl.out; have := HSr.out; omega
      have k7x := Lib.hid (HAx.has HBr.out)
      have f0x : Hid ((wr.alloc (.cells #[.int .i64 code[k].1, .int .i64 code[k].2] 25)).cell? ⟨wr.heap.size, 0, none⟩ = some (.int .i64 code[k].1)) := Lib.hid (blk (alloc_new wr _) 0 rfl)
      have f1x : Hid ((wr.alloc (.cells #[.int .i64 code[k].1, .int .i64 code[k].2] 25)).cell? ⟨wr.heap.size, 1, none⟩ = some (.int .i64 code[k].2)) := Lib.hid (blk (alloc_new wr _) 1 rfl)
      have HWx := Lib.hid (isWr_ext (.inr HWr.out) HAx)
      have HOx := Lib.hid (show ownB b (wr.alloc (.cells #[.int .i64 code[k].1, .int .i64 code[k].2] 25)) ≠ some W.heap.size by rw [ownB_ext HAx hbl]; exact HOr.out)
      have HSx : Hid (W.heap.size < (wr.alloc (.cells #[.int .i64 code[k].1, .int .i64 code[k].2] 25)).heap.size) := Lib.hid (Nat.lt_of_lt_of_le HSr.out HAx.size)
      have HXx := Lib.hid (HXr.out.tr HAx)
      have HTx := Lib.hid (show wr.heap.size < (wr.alloc (.cells #[.int .i64 code[k].1, .int .i64 code[k].2] 25)).heap.size ∧ wr.heap.size ≠ b ∧ ownB b (wr.alloc (.cells #[.int .i64 code[k].1, .int .i64 code[k].2] 25)) ≠ some wr.heap.size from ⟨by simp, by omega, by rw [ownB_ext HAx hbl]; exact isWr_own (.inr HWr.out) (Nat.le_refl _)⟩)
      have HBx := Lib.hid HXx.out.size
      have hbx := Lib.hid (Nat.lt_of_lt_of_le hbl HAx.size)
      clear hj hbw e0 e1 HBr HOr HSr HXr HWr hcr HAx hbl
      clear e0 e1
      generalize wr.alloc (.cells #[.int .i64 code[k].1, .int .i64 code[k].2] 25) = wx at *
      have HL : Hid ((l ++ (hd ++ [10]) ++ (code.zipIdx.take k).flatMap (instT lines)).length + (decB (atL lines k) ++ [32] ++ textI (code[k].1, code[k].2)).length + 1 ≤ 140737488355328) := by
        have h1 : ((code.zipIdx.take k).flatMap (instT lines)).length ≤ (code.zipIdx.take k).length * 60 := flatMap_le fun x hx => HI.out x (List.mem_of_mem_take hx)
        have h2 : (code.zipIdx.take k).length ≤ code.length := by simp; omega
        have h3 : (instT lines (code[k], k)).length ≤ 60 := HI.out (code[k], k) (List.mem_iff_getElem.2 ⟨k, by simpa using hlt, by simp [List.getElem_zipIdx]⟩)
        have h4 : (instT lines (code[k], k)).length = (decB (atL lines k)).length + (textI (code[k].1, code[k].2)).length + 2 := by
          show (decB (atL lines k) ++ 32 :: (textI (code[k].1, code[k].2) ++ [10])).length = _
          simp only [List.length_append, List.length_cons, List.length_nil]
          omega
        refine Lib.hid ?_
        simp only [List.length_append, List.length_cons, List.length_nil]
        omega
      have HLine : Hid (∀ X : World, Ext wx X → Calls Tryz.prog 70 #[.pointer (some ⟨b, 0, none⟩), .slice (some ⟨X.heap.size, 0, none⟩) 2 2] (X.alloc (.cells #[.string (strB (decB (atL lines k))), .string (strB (textI (code[k].1, code[k].2)))] 9)) fun e v => e = .returned (.tuple #[]) ∧ v.cell? ⟨W.heap.size, 7, none⟩ = some (.slice a6 lines.length c6) ∧ v.cell? ⟨wr.heap.size, 0, none⟩ = some (.int .i64 code[k].1) ∧ v.cell? ⟨wr.heap.size, 1, none⟩ = some (.int .i64 code[k].2) ∧ Hid (WrAt w.heap.size b (.pointer (some ⟨b, 0, none⟩)) (l ++ (hd ++ [10]) ++ (code.zipIdx.take (k + 1)).flatMap (instT lines)) v) ∧ Hid (Ext w v) ∧ Hid (ownB b v ≠ some W.heap.size) ∧ Hid (W.heap.size < v.heap.size)) := by
        refine Lib.hid fun X hX => (wr_line2 w.heap.size b (l ++ (hd ++ [10]) ++ (code.zipIdx.take k).flatMap (instT lines)) (decB (atL lines k)) (textI (code[k].1, code[k].2)) X (isWr_ext HWx.out hX) (Nat.le_trans HBx.out hX.size) HL.out).mono ?_
        rintro e v ⟨rfl, ⟨hwd, hbd⟩, hkd⟩
        have l1 := Nat.lt_of_lt_of_le HSx.out hX.size
        have l2 := Nat.lt_of_lt_of_le HTx.out.1 hX.size
        have o1 := ownB_ne hX hbx.out HOx.out
        have o2 := ownB_ne hX hbx.out HTx.out.2.2
        refine ⟨rfl, kp_cell hkd (hX.has k7x.out) l1 HGb.out o1, kp_cell hkd (hX.has f0x.out) l2 HTx.out.2.1 o2, kp_cell hkd (hX.has f1x.out) l2 HTx.out.2.1 o2, Lib.hid ?_, Lib.hid (Below.trans (HXx.out.tr hX) hbd), Lib.hid fun e => (hkd.own _ e).elim o1 fun h => Nat.lt_irrefl _ (Nat.lt_of_lt_of_le l1 h), Lib.hid (Nat.lt_of_lt_of_le l1 hkd.size)⟩
        rw [List.take_succ_eq_append_getElem (by simpa using hlt), List.flatMap_append, List.flatMap_singleton, ← List.append_assoc, List.getElem_zipIdx]
        rw [show instT lines (code[k], 0 + k) = decB (atL lines k) ++ [32] ++ textI (code[k].1, code[k].2) ++ [10] by simp [instT]]
        exact hwd
      clear HL HTx HOx HSx
      have k7 := k7x.out
      have f0 := f0x.out
      have f1 := f1x.out
      go_region_held3 (fun w' => w'.cell? ⟨W.heap.size, 7, none⟩ = some (.slice a6 lines.length c6) ∧ w'.cell? ⟨wr.heap.size, 0, none⟩ = some (.int .i64 code[k].1) ∧ w'.cell? ⟨wr.heap.size, 1, none⟩ = some (.int .i64 code[k].2)) (refine ⟨?_, ?_, ?_⟩ <;> first | assumption | (refine Ext.has (a := wx) ?_ (Hid.out (by assumption)); (repeat' (first | exact Ext.rf _ | refine Ext.al ?_ _ | refine Ext.dr ?_ | refine Ext.trh (by assumption) ?_)); done) | skip)
        (first | (go_at_call 71; refine (c_At (l := lines) (k := k) (rep_below1 HLr.out (Ext.tr HXx.out (Ext.tr (b := wx) (Ext.rf wx) ?_)))).mono ?_; (repeat' (first | exact Ext.rf _ | refine Ext.al ?_ _ | refine Ext.dr ?_ | refine Ext.trh (by assumption) ?_)); rintro e va ⟨rfl, hxa⟩; have Hva := Lib.hid hxa; clear hxa; have k7 : va.cell? ⟨W.heap.size, 7, none⟩ = _ := Ext.has (a := wx) (by (repeat' (first | exact Ext.rf _ | refine Ext.al ?_ _ | refine Ext.dr ?_ | refine Ext.trh (by assumption) ?_))) k7x.out; have f0 : va.cell? ⟨wr.heap.size, 0, none⟩ = _ := Ext.has (a := wx) (by (repeat' (first | exact Ext.rf _ | refine Ext.al ?_ _ | refine Ext.dr ?_ | refine Ext.trh (by assumption) ?_))) f0x.out; have f1 : va.cell? ⟨wr.heap.size, 1, none⟩ = _ := Ext.has (a := wx) (by (repeat' (first | exact Ext.rf _ | refine Ext.al ?_ _ | refine Ext.dr ?_ | refine Ext.trh (by assumption) ?_))) f1x.out) | (go_at_call 48; refine (instr_Digits (atL lines k) _ (HLo.out k).1 (HLo.out k).2).mono ?_; rintro e vb ⟨rfl, hxb⟩; have Hvb := Lib.hid hxb; clear hxb; have k7 : vb.cell? ⟨W.heap.size, 7, none⟩ = _ := Ext.has (a := wx) (by (repeat' (first | exact Ext.rf _ | refine Ext.al ?_ _ | refine Ext.dr ?_ | refine Ext.trh (by assumption) ?_))) k7x.out; have f0 : vb.cell? ⟨wr.heap.size, 0, none⟩ = _ := Ext.has (a := wx) (by (repeat' (first | exact Ext.rf _ | refine Ext.al ?_ _ | refine Ext.dr ?_ | refine Ext.trh (by assumption) ?_))) f0x.out; have f1 : vb.cell? ⟨wr.heap.size, 1, none⟩ = _ := Ext.has (a := wx) (by (repeat' (first | exact Ext.rf _ | refine Ext.al ?_ _ | refine Ext.dr ?_ | refine Ext.trh (by assumption) ?_))) f1x.out) | (go_at_call 72; refine (instr_Text code[k].1 code[k].2 _ (HCo.out code[k] (List.getElem_mem hlt))).mono ?_; rintro e vc ⟨rfl, hxc⟩; have Hvc := Lib.hid hxc; clear hxc; have k7 : vc.cell? ⟨W.heap.size, 7, none⟩ = _ := Ext.has (a := wx) (by (repeat' (first | exact Ext.rf _ | refine Ext.al ?_ _ | refine Ext.dr ?_ | refine Ext.trh (by assumption) ?_))) k7x.out; have f0 : vc.cell? ⟨wr.heap.size, 0, none⟩ = _ := Ext.has (a := wx) (by (repeat' (first | exact Ext.rf _ | refine Ext.al ?_ _ | refine Ext.dr ?_ | refine Ext.trh (by assumption) ?_))) f0x.out; have f1 : vc.cell? ⟨wr.heap.size, 1, none⟩ = _ := Ext.has (a := wx) (by (repeat' (first | exact Ext.rf _ | refine Ext.al ?_ _ | refine Ext.dr ?_ | refine Ext.trh (by assumption) ?_))) f1x.out) | (with_reducible show Calls _ 70 _ _ _; refine (HLine.out _ ?_).mono ?_; (repeat' (first | exact Ext.rf _ | refine Ext.al ?_ _ | refine Ext.dr ?_ | refine Ext.trh (by assumption) ?_)); rintro e vd ⟨rfl, k7, f0, f1, HWd, HXd, HOd, HSd⟩))
      all_goals (clear f0 f1 k7x f0x f1x HLine HWx)
      all_goals (go_wp2_with fail)
      all_goals exact ⟨⟨k + 1, hlt, rfl, HWd, HXd, Lib.hid k7, HOd, HSd⟩, (by show code.length - ((k : Int) + 1).toNat < code.length - ((k : Int)).toNat; omega)⟩
    · obtain rfl : k = code.length := by omega
      have hltB : decide ((code.length : Int) < (code.length : Int)) = false := decide_eq_false (by omega)
      have hltB2 : decide (code.length < code.length) = false := decide_eq_false (by omega)
      go_wp2_with fail
      have hz : code.zipIdx.take code.length = code.zipIdx := List.take_of_length_le (by simp)
      have hc : (code.zipIdx.flatMap (instT lines)).length ≤ code.zipIdx.length * 60 := flatMap_le HI.out
      rw [List.length_zipIdx] at hc
      have hA : Ext wr (wr.alloc (.cells #[.string ⟨⟨[101, 110, 100]⟩⟩] 9)) := (Ext.rf wr).al _
      have h9 : Lib.join [[101, 110, 100]] [32] = ([101, 110, 100] : List UInt8) := join_one _ _
      refine (wr_line w.heap.size b (l ++ (hd ++ [10]) ++ (code.zipIdx.take code.length).flatMap (instT lines)) wr.heap.size 0 1 1 [[101, 110, 100]] _ (isWr_ext (.inr HWr.out) hA) (new_strs wr _ _ _ rfl) (by simp) rfl (Nat.le_refl _) (by decide) (by rw [h9, hz]; simp only [List.length_append, List.length_cons, List.length_nil]; omega) (Nat.le_trans HXr.out.size hA.size)).mono ?_
      rintro e wd ⟨rfl, ⟨hwd, hbd⟩, hkd⟩
      rw [hz, lineB, h9] at hwd
      have HXe := Lib.hid (Below.trans (HXr.out.tr hA) hbd)
      have HWe := Lib.hid hwd
      clear hwd hbd hkd
      go_wp2_with fail
      go_end0
      refine ⟨rfl, ?_, HXe.out⟩
      have := HWe.out
      rw [show l ++ (hd ++ 10 :: (codeT lines code ++ [101, 110, 100, 10])) = l ++ (hd ++ [10]) ++ code.zipIdx.flatMap (instT lines) ++ ([101, 110, 100] ++ [10]) from by simp [codeT]]
      exact this
end Go.Proofs.YtkdnbnkbnegckaaGreatDoor
