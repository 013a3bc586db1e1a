/- asm.Head, walked. -/
import Derived.Test.YtkdnbnkbnegckaaGreatDoorAhd
namespace Go.Proofs.YtkdnbnkbnegckaaGreatDoor
open Go.RowKit
set_option maxRecDepth 20000
set_option linter.unusedVariables false
/-- The types read so far. -/
def tyUp (ws : List (List UInt8)) (i k : Nat) : List Int := if i < k then readL (wordAt ws (2 + i)) else []
theorem errT_ok {ws : List (List UInt8)} (h : ∀ i, 2 + i < ws.length → readE (wordAt ws (2 + i)) = 0) : errT ws = 0 := by
  unfold errT
  have : ((ws.drop 2).map readE).find? (fun e => e != 0) = none := by
    rw [List.find?_eq_none]
    intro x hx
    obtain ⟨y, hy, rfl⟩ := List.mem_map.1 hx
    obtain ⟨i, hi, rfl⟩ := List.mem_iff_getElem.1 hy
    rw [List.length_drop] at hi
    have h2 := h i (by omega)
    rw [List.getElem_drop]
    rw [wordAt, List.getElem?_eq_getElem (by omega)] at h2
    simpa using h2
  rw [this]
  rfl
theorem errT_bad {ws : List (List UInt8)} {k : Nat} (hk : 2 + k < ws.length) (h : ∀ i, i < k → readE (wordAt ws (2 + i)) = 0) (hb : readE (wordAt ws (2 + k)) ≠ 0) : errT ws = readE (wordAt ws (2 + k)) := by
  unfold errT
  have hd : ws.drop 2 = (ws.drop 2).take k ++ (ws[2 + k] :: ws.drop (2 + k + 1)) := by
    rw [← List.drop_eq_getElem_cons hk, show 2 + k = 2 + k from rfl]
    have := (List.take_append_drop k (ws.drop 2)).symm
    rw [List.drop_drop] at this
    exact this
  have hw : wordAt ws (2 + k) = ws[2 + k] := by rw [wordAt, List.getElem?_eq_getElem hk]; rfl
  rw [hw] at hb ⊢
  rw [hd, List.map_append, List.find?_append]
  have h1 : (((ws.drop 2).take k).map readE).find? (fun e => e != 0) = none := by
    rw [List.find?_eq_none]
    intro x hx
    obtain ⟨y, hy, rfl⟩ := List.mem_map.1 hx
    obtain ⟨i, hi, rfl⟩ := List.mem_iff_getElem.1 hy
    rw [List.length_take, List.length_drop] at hi
    have h2 := h i (by omega)
    rw [List.getElem_take, List.getElem_drop]
    rw [wordAt, List.getElem?_eq_getElem (by omega)] at h2
    simpa using h2
  rw [h1, Option.none_or, List.map_cons, List.find?_cons_of_pos (by simpa using hb)]
  rfl
theorem load_fn {W : World} {g : Nat} {x0 x1 x2 x3 x4 x5 x6 x7 x8 x9 x10 : Value} {t : TypeId} {fz : Nat × Nat} (h : W.heap[g]? = some (.cells #[x0, x1, x2, x3, x4, x5, x6, x7, x8, x9, x10] t fz)) : (loadVar 35 ⟨g, 0, none⟩).run Tryz.prog W = .ok (.agg #[x0, x1, x2, x3, x4, x5, x6, x7, x8, x9, x10]) W :=
  run_loadVar_row W g _ _ #[x0, x1, x2, x3, x4, x5, x6, x7, x8, x9, x10] fz _ h Tryz.underlying35 rfl (by kernel_rfl)
theorem set11 {W : World} {g : Nat} {x0 x1 x2 x3 x4 x5 x6 x7 x8 x9 x10 : Value} {t : TypeId} {fz : Nat × Nat} (h : W.heap[g]? = some (.cells #[x0, x1, x2, x3, x4, x5, x6, x7, x8, x9, x10] t fz)) (u0 u1 u2 u3 u4 u5 u6 u7 u8 u9 u10 : Value) : ((((((((((((((((((((((W).setCell ⟨g, 0, none⟩ u0)).setCell ⟨g, 1, none⟩ u1)).setCell ⟨g, 2, none⟩ u2)).setCell ⟨g, 3, none⟩ u3)).setCell ⟨g, 4, none⟩ u4)).setCell ⟨g, 5, none⟩ u5)).setCell ⟨g, 6, none⟩ u6)).setCell ⟨g, 7, none⟩ u7)).setCell ⟨g, 8, none⟩ u8)).setCell ⟨g, 9, none⟩ u9)).setCell ⟨g, 10, none⟩ u10).heap[g]? = some (.cells #[u0, u1, u2, u3, u4, u5, u6, u7, u8, u9, u10] t fz) := by
  have h := set_blk (set_blk (set_blk (set_blk (set_blk (set_blk (set_blk (set_blk (set_blk (set_blk (set_blk (h) 0 u0) 1 u1) 2 u2) 3 u3) 4 u4) 5 u5) 6 u6) 7 u7) 8 u8) 9 u9) 10 u10
  rw [h]
  simp
theorem ext11 {w W : World} {g : Nat} (h : Ext w W) (hg : w.heap.size ≤ g) (u0 u1 u2 u3 u4 u5 u6 u7 u8 u9 u10 : Value) : Ext w ((((((((((((((((((((((W).setCell ⟨g, 0, none⟩ u0)).setCell ⟨g, 1, none⟩ u1)).setCell ⟨g, 2, none⟩ u2)).setCell ⟨g, 3, none⟩ u3)).setCell ⟨g, 4, none⟩ u4)).setCell ⟨g, 5, none⟩ u5)).setCell ⟨g, 6, none⟩ u6)).setCell ⟨g, 7, none⟩ u7)).setCell ⟨g, 8, none⟩ u8)).setCell ⟨g, 9, none⟩ u9)).setCell ⟨g, 10, none⟩ u10) :=
  Below.setCell (Below.setCell (Below.setCell (Below.setCell (Below.setCell (Below.setCell (Below.setCell (Below.setCell (Below.setCell (Below.setCell (Below.setCell (h.b) (p := ⟨g, 0, none⟩) hg u0) (p := ⟨g, 1, none⟩) hg u1) (p := ⟨g, 2, none⟩) hg u2) (p := ⟨g, 3, none⟩) hg u3) (p := ⟨g, 4, none⟩) hg u4) (p := ⟨g, 5, none⟩) hg u5) (p := ⟨g, 6, none⟩) hg u6) (p := ⟨g, 7, none⟩) hg u7) (p := ⟨g, 8, none⟩) hg u8) (p := ⟨g, 9, none⟩) hg u9) (p := ⟨g, 10, none⟩) hg u10
/-! Lists of types beside a box that holds no numbers -/
def NonI (v : Value) : Prop := ∀ n, v ≠ .int .i64 n
def NoI (W : World) (g : Nat) : Prop := ∃ (cs : Array Value) (t : TypeId) (fz : Nat × Nat), W.heap[g]? = some (.cells cs t fz) ∧ ∀ (j : Nat) (u : Value), cs[j]? = some u → NonI u
theorem SlT.non {B : Nat} {W : World} {x : List Int} {v : Value} (h : SlT B W x v) : NonI v := by
  obtain ⟨ao, cap, rfl, -⟩ := h
  intro n e
  cases e
theorem SlT.form {B : Nat} {W : World} {x : List Int} {v : Value} (h : SlT B W x v) : ∃ ao n cap, v = .slice ao n cap := by
  obtain ⟨ao, cap, rfl, -⟩ := h
  exact ⟨ao, _, cap, rfl⟩
theorem SlT.set {B : Nat} {W : World} {x : List Int} {v : Value} {g : Nat} (h : SlT B W x v) (hn : NoI W g) (j : Nat) (u : Value) : SlT B (W.setCell ⟨g, j, none⟩ u) x v := by
  obtain ⟨ao, cap, rfl, h2, h3⟩ := h
  refine ⟨ao, cap, rfl, ⟨h2.addr, fun b off e i y hy => ?_⟩, h3⟩
  have h4 := h2.cell b off e i y hy
  by_cases hb : b = g
  · subst hb
    obtain ⟨cs, t, fz, h5, h6⟩ := hn
    rw [cell_of_row _ _ _ _ _ _ h5] at h4
    rw [List.getElem?_map] at hy
    obtain ⟨n, hn, rfl⟩ := Option.map_eq_some_iff.1 hy
    exact absurd rfl (h6 _ _ h4 n)
  · have h5 : (W.setCell ⟨g, j, none⟩ u).heap[b]? = W.heap[b]? := Below.heap_setCell _ _ _ _ fun e => hb (by simp [e])
    rw [← h4]
    simp [World.cell?, h5]
theorem NoI.set {W : World} {g : Nat} (hn : NoI W g) (j : Nat) {u : Value} (hu : NonI u) : NoI (W.setCell ⟨g, j, none⟩ u) g := by
  obtain ⟨cs, t, fz, h5, h6⟩ := hn
  refine ⟨_, t, fz, set_blk h5 j u, fun i y hy => ?_⟩
  rw [Array.getElem?_setIfInBounds] at hy
  split at hy
  · split at hy
    · cases hy; exact hu
    · cases hy
  · exact h6 i y hy
def Four (B : Nat) (W : World) (ws : List (List UInt8)) (k : Nat) (v2 v3 v4 v5 : Value) : Prop := SlT B W (tyUp ws 3 k) v2 ∧ SlT B W (tyUp ws 0 k) v3 ∧ SlT B W (tyUp ws 1 k) v4 ∧ SlT B W (tyUp ws 2 k) v5
theorem Four.set {B : Nat} {W : World} {ws : List (List UInt8)} {k : Nat} {v2 v3 v4 v5 : Value} {g : Nat} (h : Four B W ws k v2 v3 v4 v5 ∧ NoI W g) (j : Nat) {u : Value} (hu : NonI u) : Four B (W.setCell ⟨g, j, none⟩ u) ws k v2 v3 v4 v5 ∧ NoI (W.setCell ⟨g, j, none⟩ u) g :=
  ⟨⟨h.1.1.set h.2 _ _, h.1.2.1.set h.2 _ _, h.1.2.2.1.set h.2 _ _, h.1.2.2.2.set h.2 _ _⟩, h.2.set j hu⟩
theorem Four.ext {B : Nat} {W W' : World} {ws : List (List UInt8)} {k : Nat} {v2 v3 v4 v5 : Value} (h : Four B W ws k v2 v3 v4 v5) (hx : Ext W W') : Four B W' ws k v2 v3 v4 v5 :=
  ⟨h.1.ext hx, h.2.1.ext hx, h.2.2.1.ext hx, h.2.2.2.ext hx⟩
theorem noi_box {W : World} {g : Nat} {s : ByteArray} {i : Bool} {v2 v3 v4 v5 : Value} {t : TypeId} {fz : Nat × Nat} (h : W.heap[g]? = some (.cells #[.string s, .bool i, v2, v3, v4, v5, .slice none 0 0, .slice none 0 0, .slice none 0 0, .slice none 0 0, .slice none 0 0] t fz)) (h2 : NonI v2) (h3 : NonI v3) (h4 : NonI v4) (h5 : NonI v5) : NoI W g := by
  refine ⟨_, t, fz, h, fun j u hu => ?_⟩
  have hm := Array.mem_of_getElem? hu
  simp at hm
  rcases hm with rfl | rfl | rfl | rfl | rfl | rfl | rfl <;> first | assumption | (intro n e; cases e)
theorem nonI_nil : NonI (.slice none 0 0) := fun n e => by cases e
theorem nonI_str {s : ByteArray} : NonI (.string s) := fun n e => by cases e
theorem nonI_bool {b : Bool} : NonI (.bool b) := fun n e => by cases e
theorem Four.start (B : Nat) (W : World) (ws : List (List UInt8)) : Four B W ws 0 (.slice none 0 0) (.slice none 0 0) (.slice none 0 0) (.slice none 0 0) := ⟨SlT.nil B W, SlT.nil B W, SlT.nil B W, SlT.nil B W⟩
/-- The next list, in its place. -/
theorem Four.next {B : Nat} {W : World} {ws : List (List UInt8)} {k : Nat} {v2 v3 v4 v5 v : Value} (h : Four B W ws k v2 v3 v4 v5) (hv : SlT B W (readL (wordAt ws (2 + k))) v) (hk : k < 4) : Four B W ws (k + 1) (if k = 3 then v else v2) (if k = 0 then v else v3) (if k = 1 then v else v4) (if k = 2 then v else v5) := by
  obtain ⟨h2, h3, h4, h5⟩ := h
  obtain rfl | rfl | rfl | rfl : k = 0 ∨ k = 1 ∨ k = 2 ∨ k = 3 := by omega
  · exact ⟨h2, hv, h4, h5⟩
  · exact ⟨h2, h3, hv, h5⟩
  · exact ⟨h2, h3, h4, hv⟩
  · exact ⟨hv, h3, h4, h5⟩
set_option maxHeartbeats 8000000 in
theorem asm_Head (s : List UInt8) (w : World) (hl : s.length ≤ 1000000) : Calls Tryz.prog 8 #[.string (strB s)] w (RetHead s w) := by
  have hne := (wordsF_ne s s.length).1
  have HEL := Lib.hid (wordsF_elem (s := s) s.length)
  rw [List.take_length] at hne HEL
  have HWS := Lib.hid (fun W => c_words (W := W) hl)
  have HR : Hid (∀ (cs : List Value) (er : Int) (e : Ending) (w' : World), headE s = er → HeadR w.heap.size w' (headF s) cs → Ext w w' → e = .returned (.tuple #[.agg cs.toArray, .int .i64 er]) → RetHead s w e w') := Lib.hid fun cs er e w' h1 h2 h3 h4 => ⟨cs, by rw [h4, h1], h2, h3⟩
  have HE : Hid (∀ ws, ws = wordsF s → headE s = if badH ws = true then 19 else if mayName (strB (wordAt ws 1)) = false then 7 else errT ws) := Lib.hid fun ws h => by subst h; rfl
  have HF : Hid (∀ ws, ws = wordsF s → headF s = if headE s = 0 then (wordAt ws 1, (decide (ws.length = 6), ((if ws.length = 6 then readL (wordAt ws 5) else []), (readL (wordAt ws 2), (readL (wordAt ws 3), (readL (wordAt ws 4), ([], ([], ([], ([], [])))))))))) else zeroFn) := Lib.hid fun ws h => by subst h; rfl
  generalize hws : wordsF s = ws at *
  have HE := Lib.hid (HE.out ws rfl)
  have HF := Lib.hid (HF.out ws rfl)
  have hq : ∀ P, RetHead s w = P → RetHead s w = P := fun _ h => h
  generalize RetHead s w = RH at *
  clear hq hws
  go_enter Tryz.func8, Tryz.ntmps8
  go_wp2_with fail
  refine (HWS.out _).mono ?_
  rintro e w1 ⟨ao, cap, rfl, hC, hcap, hx1⟩
  have D0 := Lib.hid (hx1.blk (alloc_new w _))
  have HX1 := Lib.hid (((Ext.rf w).al _).tr hx1)
  have hpos : 0 < ws.length := List.length_pos_iff.2 hne
  have hcw : ∀ (i : Nat) (h : i < (ws.map strOf).length), (ws.map strOf)[i] = .string (strB (wordAt ws i)) := fun i h => by
    rw [List.getElem_map, wordAt, List.getElem?_eq_getElem (by simpa using h)]; rfl
  have HWL : Hid (∀ i, (wordAt ws i).length ≤ s.length) := Lib.hid fun i => by
    rw [wordAt]
    cases hi : ws[i]? with
    | none => simp
    | some x => exact HEL.out x (List.mem_of_getElem? hi)
  obtain ⟨b, off, rfl, h0⟩ := hC.at (k := 0) (by simpa using hpos)
  rw [hcw] at h0
  have hc0 : w1.cell? ⟨b, off, none⟩ = some (.string (strB (wordAt ws 0))) := h0
  have HCW := Lib.hid (fun (W : World) (hx : Ext w1 W) (i : Nat) (h : i < ws.length) => (show W.cell? ⟨b, off + i, none⟩ = some (.string (strB (wordAt ws i))) from by
    obtain ⟨b', off', he, h1⟩ := (hC.ext hx).at (k := i) (by simpa using h)
    cases he
    rw [hcw] at h1
    exact h1))
  have e0 := blk D0.out 0 rfl
  have e1 := blk D0.out 1 rfl
  have e2 := blk D0.out 2 rfl
  have e3 := blk D0.out 3 rfl
  have e4 := blk D0.out 4 rfl
  have e5 := blk D0.out 5 rfl
  have e6 := blk D0.out 6 rfl
  have e7 := blk D0.out 7 rfl
  have e8 := blk D0.out 8 rfl
  have e9 := blk D0.out 9 rfl
  have e10 := blk D0.out 10 rfl
  have f0 := frozen_blk D0.out 0
  have f1 := frozen_blk D0.out 1
  have f2 := frozen_blk D0.out 2
  have f3 := frozen_blk D0.out 3
  have f4 := frozen_blk D0.out 4
  have f5 := frozen_blk D0.out 5
  have f6 := frozen_blk D0.out 6
  have f7 := frozen_blk D0.out 7
  have f8 := frozen_blk D0.out 8
  have f9 := frozen_blk D0.out 9
  have f10 := frozen_blk D0.out 10
  clear hx1 HWS h0 hcw hne hC HEL
  have HZ : Hid (∀ u, headE s = u → u ≠ 0 → headF s = zeroFn) := Lib.hid fun u h1 h2 => by rw [HF.out, if_neg (by rw [h1]; exact h2)]
  by_cases ha : wordAt ws 0 = funcW
  · have t1 : ((strB (wordAt ws 0)).toList == [102, 117, 110, 99]) = true := by rw [beq_iff_eq, ByteArray.toList_eq, strB_toL]; exact ha
    by_cases h5 : ws.length ≠ 5 ∧ ws.length ≠ 6
    · have t2 : ((ws.length : Int) != 5) = true := by rw [bne_iff_ne]; omega
      have t3 : ((ws.length : Int) != 6) = true := by rw [bne_iff_ne]; omega
      have t1 : ((strB (wordAt ws 0)).toList != [102, 117, 110, 99]) = false := by rw [bne, t1]; rfl
      have hE : Hid (headE s = 19) := Lib.hid (by rw [HE.out, if_pos]; exact decide_eq_true (.inr h5))
      clear ha h5
      go_wp2_with fail
      refine bodyPost_ret (ret_cell_tmp rfl rfl (load_fn (set11 D0.out _ _ _ _ _ _ _ _ _ _ _))) rfl ?_
      exact HR.out _ _ _ _ hE.out (by rw [HZ.out _ hE.out (by decide)]; exact zero_head) (ext11 HX1.out (Nat.le_refl _) _ _ _ _ _ _ _ _ _ _ _) rfl
    · have hbad : ¬(badH ws = true) := by
        unfold badH
        rw [decide_eq_true_eq]
        rintro (h | h)
        · exact h ha
        · exact h5 h
      have HE := Lib.hid (HE.out.trans (if_neg hbad))
      clear hbad ha
      have hn : ws.length = 5 ∨ ws.length = 6 := by omega
      clear h5
      rcases hn with hn | hn
      · rw [hn]
        have HNN := Lib.hid hn
        have hc1 := HCW.out w1 (Ext.rf _) 1 (by omega)
        clear hn
        go_wp2_with fail
        refine (names_May _ _ (by rw [strB_size]; have := HWL.out 1; omega)).mono ?_
        rintro e w2 ⟨rfl, rfl⟩
        have D5 := Lib.hid (alloc_new w1 (.cells #[.string (strB (wordAt ws 1)), .bool false, .slice none 0 0, .slice none 0 0, .slice none 0 0, .slice none 0 0, .slice none 0 0, .slice none 0 0, .slice none 0 0, .slice none 0 0, .slice none 0 0] 35))
        have HW2 := Lib.hid ((Ext.rf w1).al (.cells #[.string (strB (wordAt ws 1)), .bool false, .slice none 0 0, .slice none 0 0, .slice none 0 0, .slice none 0 0, .slice none 0 0, .slice none 0 0, .slice none 0 0, .slice none 0 0, .slice none 0 0] 35))
        have HS5 : Hid (w.heap.size < w1.heap.size) := Lib.hid (Array.getElem?_eq_some_iff.1 D0.out).1
        have HX2 := Lib.hid (HX1.out.tr HW2.out)
        have D0 := Lib.hid (HW2.out.blk D0.out)
        have HS2 : Hid ((w1.alloc (.cells #[.string (strB (wordAt ws 1)), .bool false, .slice none 0 0, .slice none 0 0, .slice none 0 0, .slice none 0 0, .slice none 0 0, .slice none 0 0, .slice none 0 0, .slice none 0 0, .slice none 0 0] 35)).heap.size = w1.heap.size + 1) := Lib.hid (by simp)
        generalize hW : w1.alloc (.cells #[.string (strB (wordAt ws 1)), .bool false, .slice none 0 0, .slice none 0 0, .slice none 0 0, .slice none 0 0, .slice none 0 0, .slice none 0 0, .slice none 0 0, .slice none 0 0, .slice none 0 0] 35) = w2 at *
        cases hW' : mayName (strB (wordAt ws 1)) with
        | false =>
          have hE : Hid (headE s = 7) := Lib.hid (by rw [HE.out, if_pos hW'])
          have e0 := blk D0.out 0 rfl
          have e1 := blk D0.out 1 rfl
          have e2 := blk D0.out 2 rfl
          have e3 := blk D0.out 3 rfl
          have e4 := blk D0.out 4 rfl
          have e5 := blk D0.out 5 rfl
          have e6 := blk D0.out 6 rfl
          have e7 := blk D0.out 7 rfl
          have e8 := blk D0.out 8 rfl
          have e9 := blk D0.out 9 rfl
          have e10 := blk D0.out 10 rfl
          have f0 := frozen_blk D0.out 0
          have f1 := frozen_blk D0.out 1
          have f2 := frozen_blk D0.out 2
          have f3 := frozen_blk D0.out 3
          have f4 := frozen_blk D0.out 4
          have f5 := frozen_blk D0.out 5
          have f6 := frozen_blk D0.out 6
          have f7 := frozen_blk D0.out 7
          have f8 := frozen_blk D0.out 8
          have f9 := frozen_blk D0.out 9
          have f10 := frozen_blk D0.out 10
          clear hW
          go_wp2_with fail
          refine bodyPost_ret (ret_cell_tmp rfl rfl (load_fn (set11 D0.out _ _ _ _ _ _ _ _ _ _ _))) rfl ?_
          exact HR.out _ _ _ _ hE.out (by rw [HZ.out _ hE.out (by decide)]; exact zero_head) (ext11 HX2.out (Nat.le_refl _) _ _ _ _ _ _ _ _ _ _ _) rfl
        | true =>
          have HE := Lib.hid (HE.out.trans (if_neg (by rw [hW']; decide)))
          have hp1 : (2 : Int) ≤ cap := by have := HNN.out; omega
          have hp2 : (2 : Nat) ≤ cap := by have := HNN.out; omega
          have hp3 : (5 : Int) ≤ cap := by have := HNN.out; omega
          have hp4 : (5 : Nat) ≤ cap := by have := HNN.out; omega
          clear hW
          go_wp2_with fail
          have D6 := Lib.hid (alloc_new w2 (.cells #[.pointer (some ⟨w1.heap.size, 3, none⟩), .pointer (some ⟨w1.heap.size, 4, none⟩), .pointer (some ⟨w1.heap.size, 5, none⟩), .pointer (some ⟨w1.heap.size, 2, none⟩)] 59))
          have HW3 := Lib.hid ((Ext.rf w2).al (.cells #[.pointer (some ⟨w1.heap.size, 3, none⟩), .pointer (some ⟨w1.heap.size, 4, none⟩), .pointer (some ⟨w1.heap.size, 5, none⟩), .pointer (some ⟨w1.heap.size, 2, none⟩)] 59))
          have D5 := Lib.hid (HW3.out.blk D5.out)
          have D0 := Lib.hid (HW3.out.blk D0.out)
          have HX3 := Lib.hid (HW2.out.tr HW3.out)
          have HS6 : Hid (w1.heap.size < w2.heap.size) := Lib.hid (by rw [HS2.out]; omega)
          generalize w2.alloc (.cells #[.pointer (some ⟨w1.heap.size, 3, none⟩), .pointer (some ⟨w1.heap.size, 4, none⟩), .pointer (some ⟨w1.heap.size, 5, none⟩), .pointer (some ⟨w1.heap.size, 2, none⟩)] 59) = w3 at *
          go_loopw [48] (fun i wr => ∃ (k : Nat) (v2 v3 v4 v5 : Value), i = .int .i64 k ∧ k ≤ 3 ∧ Hid (wr.heap[w1.heap.size]? = some (.cells #[.string (strB (wordAt ws 1)), .bool false, v2, v3, v4, v5, .slice none 0 0, .slice none 0 0, .slice none 0 0, .slice none 0 0, .slice none 0 0] 35)) ∧ Hid (wr.heap[w2.heap.size]? = some (.cells #[.pointer (some ⟨w1.heap.size, 3, none⟩), .pointer (some ⟨w1.heap.size, 4, none⟩), .pointer (some ⟨w1.heap.size, 5, none⟩), .pointer (some ⟨w1.heap.size, 2, none⟩)] 59)) ∧ Hid (wr.heap[w.heap.size]? = some (.cells #[.string ⟨#[]⟩, .bool false, .slice none 0 0, .slice none 0 0, .slice none 0 0, .slice none 0 0, .slice none 0 0, .slice none 0 0, .slice none 0 0, .slice none 0 0, .slice none 0 0] 35)) ∧ Hid (Four w.heap.size wr ws k v2 v3 v4 v5) ∧ Hid (∀ j, j < k → readE (wordAt ws (2 + j)) = 0) ∧ Hid (Ext w1 wr))
            (fun i _ => 3 - (intOf i).toNat)
          case atStart => exact ⟨0, _, _, _, _, rfl, Nat.zero_le _, D5, D6, D0, Lib.hid (Four.start _ _ _), Lib.hid (fun j hj => absurd hj (Nat.not_lt_zero _)), HX3⟩
          case round =>
            obtain ⟨k, v2, v3, v4, v5, rfl, hk, G5, G6, G0, GS, GE, GX⟩ := hrel
            by_cases hlt : k < 3
            · have hltI : (k : Int) < 3 := by omega
              have i0 : (0 : Int) ≤ (k : Int) := by omega
              have hcw := HCW.out _ GX.out (2 + k) (by rw [HNN.out]; omega)
              rw [← Nat.add_assoc] at hcw
              have HRD := Lib.hid (fun W => sig_Read (strB (wordAt ws (2 + k))) W (by rw [strB_size]; have := HWL.out (2 + k); omega))
              rw [strB_toL] at HRD
              go_wp2_with fail
              refine (HRD.out _).mono ?_
              rintro e w4 ⟨ao', cap', rfl, hc4, hx4, hcap4, hfr4⟩
              have hfr5 := hfr4.mono (show w.heap.size ≤ wr.heap.size by have := HX1.out.size; have := GX.out.size; omega)
              have G5 := Lib.hid (hx4.blk G5.out)
              have G6 := Lib.hid (hx4.blk G6.out)
              have G0 := Lib.hid (hx4.blk G0.out)
              have GS := Lib.hid (GS.out.ext hx4)
              have GX := Lib.hid (GX.out.tr hx4)
              have SV : Hid (SlT w.heap.size w4 (readL (wordAt ws (2 + k))) (.slice ao' (readL (wordAt ws (2 + k))).length cap')) := Lib.hid ⟨ao', cap', rfl, hc4, hcap4, hfr5⟩
              clear hx4 hc4 hcap4 hfr4 hfr5 HRD hcw
              by_cases hre : readE (wordAt ws (2 + k)) = 0
              · have t9 : (readE (wordAt ws (2 + k)) != 0) = false := by rw [hre]; rfl
                have GE := Lib.hid (show ∀ j, j < k + 1 → readE (wordAt ws (2 + j)) = 0 from fun j hj => by
                  by_cases h : j = k
                  · rw [h]; exact hre
                  · exact GE.out j (by omega))
                clear hre
                obtain rfl | rfl | rfl : k = 0 ∨ k = 1 ∨ k = 2 := by omega
                · have c6 := blk G6.out 0 rfl
                  have c5 := blk G5.out 3 rfl
                  have z5 := frozen_blk G5.out 3
                  have z0 : (2 : Nat) + 0 = 2 := rfl
                  go_wp2_with fail
                  go_roundw
                  case rel => exact ⟨1, _, _, _, _, by go_num, by omega, Lib.hid (set_blk G5.out 3 _), Lib.hid ((Below.heap_setCell _ ⟨w1.heap.size, 3, none⟩ _ _ (show w2.heap.size ≠ w1.heap.size by have := HS6.out; omega)).trans G6.out), Lib.hid ((Below.heap_setCell _ ⟨w1.heap.size, 3, none⟩ _ _ (show w.heap.size ≠ w1.heap.size by have := HS5.out; omega)).trans G0.out), Lib.hid ((Four.set ⟨GS.out.next SV.out (by decide), noi_box G5.out GS.out.1.non GS.out.2.1.non GS.out.2.2.1.non GS.out.2.2.2.non⟩ 3 SV.out.non).1), GE, Lib.hid (Below.setCell GX.out.b (p := ⟨w1.heap.size, 3, none⟩) (Nat.le_refl _) _)⟩
                  case measure => simp [intOf]
                · have c6 := blk G6.out 1 rfl
                  have c5 := blk G5.out 4 rfl
                  have z5 := frozen_blk G5.out 4
                  have z0 : (2 : Nat) + 1 = 3 := rfl
                  go_wp2_with fail
                  go_roundw
                  case rel => exact ⟨2, _, _, _, _, by go_num, by omega, Lib.hid (set_blk G5.out 4 _), Lib.hid ((Below.heap_setCell _ ⟨w1.heap.size, 4, none⟩ _ _ (show w2.heap.size ≠ w1.heap.size by have := HS6.out; omega)).trans G6.out), Lib.hid ((Below.heap_setCell _ ⟨w1.heap.size, 4, none⟩ _ _ (show w.heap.size ≠ w1.heap.size by have := HS5.out; omega)).trans G0.out), Lib.hid ((Four.set ⟨GS.out.next SV.out (by decide), noi_box G5.out GS.out.1.non GS.out.2.1.non GS.out.2.2.1.non GS.out.2.2.2.non⟩ 4 SV.out.non).1), GE, Lib.hid (Below.setCell GX.out.b (p := ⟨w1.heap.size, 4, none⟩) (Nat.le_refl _) _)⟩
                  case measure => simp [intOf]
                · have c6 := blk G6.out 2 rfl
                  have c5 := blk G5.out 5 rfl
                  have z5 := frozen_blk G5.out 5
                  have z0 : (2 : Nat) + 2 = 4 := rfl
                  go_wp2_with fail
                  go_roundw
                  case rel => exact ⟨3, _, _, _, _, by go_num, by omega, Lib.hid (set_blk G5.out 5 _), Lib.hid ((Below.heap_setCell _ ⟨w1.heap.size, 5, none⟩ _ _ (show w2.heap.size ≠ w1.heap.size by have := HS6.out; omega)).trans G6.out), Lib.hid ((Below.heap_setCell _ ⟨w1.heap.size, 5, none⟩ _ _ (show w.heap.size ≠ w1.heap.size by have := HS5.out; omega)).trans G0.out), Lib.hid ((Four.set ⟨GS.out.next SV.out (by decide), noi_box G5.out GS.out.1.non GS.out.2.1.non GS.out.2.2.1.non GS.out.2.2.2.non⟩ 5 SV.out.non).1), GE, Lib.hid (Below.setCell GX.out.b (p := ⟨w1.heap.size, 5, none⟩) (Nat.le_refl _) _)⟩
                  case measure => simp [intOf]
              · have t9 : (readE (wordAt ws (2 + k)) != 0) = true := by rw [bne_iff_ne]; exact hre
                have hE : Hid (headE s = readE (wordAt ws (2 + k))) := Lib.hid (by rw [HE.out, errT_bad (k := k) (by rw [HNN.out]; omega) GE.out hre])
                have HX4 := Lib.hid (HX1.out.tr GX.out)
                have e0 := blk G0.out 0 rfl
                have e1 := blk G0.out 1 rfl
                have e2 := blk G0.out 2 rfl
                have e3 := blk G0.out 3 rfl
                have e4 := blk G0.out 4 rfl
                have e5 := blk G0.out 5 rfl
                have e6 := blk G0.out 6 rfl
                have e7 := blk G0.out 7 rfl
                have e8 := blk G0.out 8 rfl
                have e9 := blk G0.out 9 rfl
                have e10 := blk G0.out 10 rfl
                have f0 := frozen_blk G0.out 0
                have f1 := frozen_blk G0.out 1
                have f2 := frozen_blk G0.out 2
                have f3 := frozen_blk G0.out 3
                have f4 := frozen_blk G0.out 4
                have f5 := frozen_blk G0.out 5
                have f6 := frozen_blk G0.out 6
                have f7 := frozen_blk G0.out 7
                have f8 := frozen_blk G0.out 8
                have f9 := frozen_blk G0.out 9
                have f10 := frozen_blk G0.out 10
                clear hre
                go_wp2_with fail
                refine bodyPost_ret (ret_cell_tmp rfl rfl (load_fn (set11 G0.out _ _ _ _ _ _ _ _ _ _ _))) rfl ?_
                exact HR.out _ _ _ _ hE.out (by rw [HZ.out _ hE.out (by simpa using t9)]; exact zero_head) (ext11 HX4.out (Nat.le_refl _) _ _ _ _ _ _ _ _ _ _ _) rfl
            · obtain rfl : k = 3 := by omega
              obtain ⟨a2, n2, q2, rfl⟩ := GS.out.1.form
              obtain ⟨a3, n3, q3, rfl⟩ := GS.out.2.1.form
              obtain ⟨a4, n4, q4, rfl⟩ := GS.out.2.2.1.form
              obtain ⟨a5, n5, q5, rfl⟩ := GS.out.2.2.2.form
              have hE : Hid (headE s = 0) := Lib.hid (by rw [HE.out, errT_ok (fun i hi => GE.out i (by have := HNN.out; omega))])
              have HX4 := Lib.hid (HX1.out.tr GX.out)
              have e0 := blk G0.out 0 rfl
              have e1 := blk G0.out 1 rfl
              have e2 := blk G0.out 2 rfl
              have e3 := blk G0.out 3 rfl
              have e4 := blk G0.out 4 rfl
              have e5 := blk G0.out 5 rfl
              have e6 := blk G0.out 6 rfl
              have e7 := blk G0.out 7 rfl
              have e8 := blk G0.out 8 rfl
              have e9 := blk G0.out 9 rfl
              have e10 := blk G0.out 10 rfl
              have f0 := frozen_blk G0.out 0
              have f1 := frozen_blk G0.out 1
              have f2 := frozen_blk G0.out 2
              have f3 := frozen_blk G0.out 3
              have f4 := frozen_blk G0.out 4
              have f5 := frozen_blk G0.out 5
              have f6 := frozen_blk G0.out 6
              have f7 := frozen_blk G0.out 7
              have f8 := frozen_blk G0.out 8
              have f9 := frozen_blk G0.out 9
              have f10 := frozen_blk G0.out 10
              have g0 := blk G5.out 0 rfl
              have g1 := blk G5.out 1 rfl
              have g2 := blk G5.out 2 rfl
              have g3 := blk G5.out 3 rfl
              have g4 := blk G5.out 4 rfl
              have g5 := blk G5.out 5 rfl
              have g6 := blk G5.out 6 rfl
              have g7 := blk G5.out 7 rfl
              have g8 := blk G5.out 8 rfl
              have g9 := blk G5.out 9 rfl
              have g10 := blk G5.out 10 rfl
              have HV : Hid (Four w.heap.size wr ws 3 (.slice a2 n2 q2) (.slice a3 n3 q3) (.slice a4 n4 q4) (.slice a5 n5 q5) ∧ NoI wr w.heap.size) := Lib.hid ⟨GS.out, noi_box G0.out nonI_nil nonI_nil nonI_nil nonI_nil⟩
              go_wp2_with fail
              refine bodyPost_ret (ret_cell_tmp rfl rfl (load_fn (set11 G0.out _ _ _ _ _ _ _ _ _ _ _))) rfl ?_
              have HV := Four.set (Four.set (Four.set (Four.set (Four.set (Four.set (Four.set (Four.set (Four.set (Four.set (Four.set (HV.out) 0 (nonI_str (s := strB (wordAt ws 1)))) 1 (nonI_bool (b := false))) 2 GS.out.1.non) 3 GS.out.2.1.non) 4 GS.out.2.2.1.non) 5 GS.out.2.2.2.non) 6 nonI_nil) 7 nonI_nil) 8 nonI_nil) 9 nonI_nil) 10 nonI_nil
              refine HR.out _ _ _ _ hE.out ?_ (ext11 HX4.out (Nat.le_refl _) _ _ _ _ _ _ _ _ _ _ _) rfl
              rw [HF.out, if_pos hE.out]
              rw [if_neg (by have := HNN.out; omega), show decide (ws.length = 6) = false from decide_eq_false (by have := HNN.out; omega)]
              exact fn_head HV.1.1 HV.1.2.1 HV.1.2.2.1 HV.1.2.2.2
      · rw [hn]
        have HNN := Lib.hid hn
        have hc1 := HCW.out w1 (Ext.rf _) 1 (by omega)
        clear hn
        go_wp2_with fail
        refine (names_May _ _ (by rw [strB_size]; have := HWL.out 1; omega)).mono ?_
        rintro e w2 ⟨rfl, rfl⟩
        have D5 := Lib.hid (alloc_new w1 (.cells #[.string (strB (wordAt ws 1)), .bool true, .slice none 0 0, .slice none 0 0, .slice none 0 0, .slice none 0 0, .slice none 0 0, .slice none 0 0, .slice none 0 0, .slice none 0 0, .slice none 0 0] 35))
        have HW2 := Lib.hid ((Ext.rf w1).al (.cells #[.string (strB (wordAt ws 1)), .bool true, .slice none 0 0, .slice none 0 0, .slice none 0 0, .slice none 0 0, .slice none 0 0, .slice none 0 0, .slice none 0 0, .slice none 0 0, .slice none 0 0] 35))
        have HS5 : Hid (w.heap.size < w1.heap.size) := Lib.hid (Array.getElem?_eq_some_iff.1 D0.out).1
        have HX2 := Lib.hid (HX1.out.tr HW2.out)
        have D0 := Lib.hid (HW2.out.blk D0.out)
        have HS2 : Hid ((w1.alloc (.cells #[.string (strB (wordAt ws 1)), .bool true, .slice none 0 0, .slice none 0 0, .slice none 0 0, .slice none 0 0, .slice none 0 0, .slice none 0 0, .slice none 0 0, .slice none 0 0, .slice none 0 0] 35)).heap.size = w1.heap.size + 1) := Lib.hid (by simp)
        generalize hW : w1.alloc (.cells #[.string (strB (wordAt ws 1)), .bool true, .slice none 0 0, .slice none 0 0, .slice none 0 0, .slice none 0 0, .slice none 0 0, .slice none 0 0, .slice none 0 0, .slice none 0 0, .slice none 0 0] 35) = w2 at *
        cases hW' : mayName (strB (wordAt ws 1)) with
        | false =>
          have hE : Hid (headE s = 7) := Lib.hid (by rw [HE.out, if_pos hW'])
          have e0 := blk D0.out 0 rfl
          have e1 := blk D0.out 1 rfl
          have e2 := blk D0.out 2 rfl
          have e3 := blk D0.out 3 rfl
          have e4 := blk D0.out 4 rfl
          have e5 := blk D0.out 5 rfl
          have e6 := blk D0.out 6 rfl
          have e7 := blk D0.out 7 rfl
          have e8 := blk D0.out 8 rfl
          have e9 := blk D0.out 9 rfl
          have e10 := blk D0.out 10 rfl
          have f0 := frozen_blk D0.out 0
          have f1 := frozen_blk D0.out 1
          have f2 := frozen_blk D0.out 2
          have f3 := frozen_blk D0.out 3
          have f4 := frozen_blk D0.out 4
          have f5 := frozen_blk D0.out 5
          have f6 := frozen_blk D0.out 6
          have f7 := frozen_blk D0.out 7
          have f8 := frozen_blk D0.out 8
          have f9 := frozen_blk D0.out 9
          have f10 := frozen_blk D0.out 10
          clear hW
          go_wp2_with fail
          refine bodyPost_ret (ret_cell_tmp rfl rfl (load_fn (set11 D0.out _ _ _ _ _ _ _ _ _ _ _))) rfl ?_
          exact HR.out _ _ _ _ hE.out (by rw [HZ.out _ hE.out (by decide)]; exact zero_head) (ext11 HX2.out (Nat.le_refl _) _ _ _ _ _ _ _ _ _ _ _) rfl
        | true =>
          have HE := Lib.hid (HE.out.trans (if_neg (by rw [hW']; decide)))
          have hp1 : (2 : Int) ≤ cap := by have := HNN.out; omega
          have hp2 : (2 : Nat) ≤ cap := by have := HNN.out; omega
          have hp3 : (6 : Int) ≤ cap := by have := HNN.out; omega
          have hp4 : (6 : Nat) ≤ cap := by have := HNN.out; omega
          clear hW
          go_wp2_with fail
          have D6 := Lib.hid (alloc_new w2 (.cells #[.pointer (some ⟨w1.heap.size, 3, none⟩), .pointer (some ⟨w1.heap.size, 4, none⟩), .pointer (some ⟨w1.heap.size, 5, none⟩), .pointer (some ⟨w1.heap.size, 2, none⟩)] 59))
          have HW3 := Lib.hid ((Ext.rf w2).al (.cells #[.pointer (some ⟨w1.heap.size, 3, none⟩), .pointer (some ⟨w1.heap.size, 4, none⟩), .pointer (some ⟨w1.heap.size, 5, none⟩), .pointer (some ⟨w1.heap.size, 2, none⟩)] 59))
          have D5 := Lib.hid (HW3.out.blk D5.out)
          have D0 := Lib.hid (HW3.out.blk D0.out)
          have HX3 := Lib.hid (HW2.out.tr HW3.out)
          have HS6 : Hid (w1.heap.size < w2.heap.size) := Lib.hid (by rw [HS2.out]; omega)
          generalize w2.alloc (.cells #[.pointer (some ⟨w1.heap.size, 3, none⟩), .pointer (some ⟨w1.heap.size, 4, none⟩), .pointer (some ⟨w1.heap.size, 5, none⟩), .pointer (some ⟨w1.heap.size, 2, none⟩)] 59) = w3 at *
          go_loopw [48] (fun i wr => ∃ (k : Nat) (v2 v3 v4 v5 : Value), i = .int .i64 k ∧ k ≤ 4 ∧ Hid (wr.heap[w1.heap.size]? = some (.cells #[.string (strB (wordAt ws 1)), .bool true, v2, v3, v4, v5, .slice none 0 0, .slice none 0 0, .slice none 0 0, .slice none 0 0, .slice none 0 0] 35)) ∧ Hid (wr.heap[w2.heap.size]? = some (.cells #[.pointer (some ⟨w1.heap.size, 3, none⟩), .pointer (some ⟨w1.heap.size, 4, none⟩), .pointer (some ⟨w1.heap.size, 5, none⟩), .pointer (some ⟨w1.heap.size, 2, none⟩)] 59)) ∧ Hid (wr.heap[w.heap.size]? = some (.cells #[.string ⟨#[]⟩, .bool false, .slice none 0 0, .slice none 0 0, .slice none 0 0, .slice none 0 0, .slice none 0 0, .slice none 0 0, .slice none 0 0, .slice none 0 0, .slice none 0 0] 35)) ∧ Hid (Four w.heap.size wr ws k v2 v3 v4 v5) ∧ Hid (∀ j, j < k → readE (wordAt ws (2 + j)) = 0) ∧ Hid (Ext w1 wr))
            (fun i _ => 4 - (intOf i).toNat)
          case atStart => exact ⟨0, _, _, _, _, rfl, Nat.zero_le _, D5, D6, D0, Lib.hid (Four.start _ _ _), Lib.hid (fun j hj => absurd hj (Nat.not_lt_zero _)), HX3⟩
          case round =>
            obtain ⟨k, v2, v3, v4, v5, rfl, hk, G5, G6, G0, GS, GE, GX⟩ := hrel
            by_cases hlt : k < 4
            · have hltI : (k : Int) < 4 := by omega
              have i0 : (0 : Int) ≤ (k : Int) := by omega
              have hcw := HCW.out _ GX.out (2 + k) (by rw [HNN.out]; omega)
              rw [← Nat.add_assoc] at hcw
              have HRD := Lib.hid (fun W => sig_Read (strB (wordAt ws (2 + k))) W (by rw [strB_size]; have := HWL.out (2 + k); omega))
              rw [strB_toL] at HRD
              go_wp2_with fail
              refine (HRD.out _).mono ?_
              rintro e w4 ⟨ao', cap', rfl, hc4, hx4, hcap4, hfr4⟩
              have hfr5 := hfr4.mono (show w.heap.size ≤ wr.heap.size by have := HX1.out.size; have := GX.out.size; omega)
              have G5 := Lib.hid (hx4.blk G5.out)
              have G6 := Lib.hid (hx4.blk G6.out)
              have G0 := Lib.hid (hx4.blk G0.out)
              have GS := Lib.hid (GS.out.ext hx4)
              have GX := Lib.hid (GX.out.tr hx4)
              have SV : Hid (SlT w.heap.size w4 (readL (wordAt ws (2 + k))) (.slice ao' (readL (wordAt ws (2 + k))).length cap')) := Lib.hid ⟨ao', cap', rfl, hc4, hcap4, hfr5⟩
              clear hx4 hc4 hcap4 hfr4 hfr5 HRD hcw
              by_cases hre : readE (wordAt ws (2 + k)) = 0
              · have t9 : (readE (wordAt ws (2 + k)) != 0) = false := by rw [hre]; rfl
                have GE := Lib.hid (show ∀ j, j < k + 1 → readE (wordAt ws (2 + j)) = 0 from fun j hj => by
                  by_cases h : j = k
                  · rw [h]; exact hre
                  · exact GE.out j (by omega))
                clear hre
                obtain rfl | rfl | rfl | rfl : k = 0 ∨ k = 1 ∨ k = 2 ∨ k = 3 := by omega
                · have c6 := blk G6.out 0 rfl
                  have c5 := blk G5.out 3 rfl
                  have z5 := frozen_blk G5.out 3
                  have z0 : (2 : Nat) + 0 = 2 := rfl
                  go_wp2_with fail
                  go_roundw
                  case rel => exact ⟨1, _, _, _, _, by go_num, by omega, Lib.hid (set_blk G5.out 3 _), Lib.hid ((Below.heap_setCell _ ⟨w1.heap.size, 3, none⟩ _ _ (show w2.heap.size ≠ w1.heap.size by have := HS6.out; omega)).trans G6.out), Lib.hid ((Below.heap_setCell _ ⟨w1.heap.size, 3, none⟩ _ _ (show w.heap.size ≠ w1.heap.size by have := HS5.out; omega)).trans G0.out), Lib.hid ((Four.set ⟨GS.out.next SV.out (by decide), noi_box G5.out GS.out.1.non GS.out.2.1.non GS.out.2.2.1.non GS.out.2.2.2.non⟩ 3 SV.out.non).1), GE, Lib.hid (Below.setCell GX.out.b (p := ⟨w1.heap.size, 3, none⟩) (Nat.le_refl _) _)⟩
                  case measure => simp [intOf]
                · have c6 := blk G6.out 1 rfl
                  have c5 := blk G5.out 4 rfl
                  have z5 := frozen_blk G5.out 4
                  have z0 : (2 : Nat) + 1 = 3 := rfl
                  go_wp2_with fail
                  go_roundw
                  case rel => exact ⟨2, _, _, _, _, by go_num, by omega, Lib.hid (set_blk G5.out 4 _), Lib.hid ((Below.heap_setCell _ ⟨w1.heap.size, 4, none⟩ _ _ (show w2.heap.size ≠ w1.heap.size by have := HS6.out; omega)).trans G6.out), Lib.hid ((Below.heap_setCell _ ⟨w1.heap.size, 4, none⟩ _ _ (show w.heap.size ≠ w1.heap.size by have := HS5.out; omega)).trans G0.out), Lib.hid ((Four.set ⟨GS.out.next SV.out (by decide), noi_box G5.out GS.out.1.non GS.out.2.1.non GS.out.2.2.1.non GS.out.2.2.2.non⟩ 4 SV.out.non).1), GE, Lib.hid (Below.setCell GX.out.b (p := ⟨w1.heap.size, 4, none⟩) (Nat.le_refl _) _)⟩
                  case measure => simp [intOf]
                · have c6 := blk G6.out 2 rfl
                  have c5 := blk G5.out 5 rfl
                  have z5 := frozen_blk G5.out 5
                  have z0 : (2 : Nat) + 2 = 4 := rfl
                  go_wp2_with fail
                  go_roundw
                  case rel => exact ⟨3, _, _, _, _, by go_num, by omega, Lib.hid (set_blk G5.out 5 _), Lib.hid ((Below.heap_setCell _ ⟨w1.heap.size, 5, none⟩ _ _ (show w2.heap.size ≠ w1.heap.size by have := HS6.out; omega)).trans G6.out), Lib.hid ((Below.heap_setCell _ ⟨w1.heap.size, 5, none⟩ _ _ (show w.heap.size ≠ w1.heap.size by have := HS5.out; omega)).trans G0.out), Lib.hid ((Four.set ⟨GS.out.next SV.out (by decide), noi_box G5.out GS.out.1.non GS.out.2.1.non GS.out.2.2.1.non GS.out.2.2.2.non⟩ 5 SV.out.non).1), GE, Lib.hid (Below.setCell GX.out.b (p := ⟨w1.heap.size, 5, none⟩) (Nat.le_refl _) _)⟩
                  case measure => simp [intOf]
                · have c6 := blk G6.out 3 rfl
                  have c5 := blk G5.out 2 rfl
                  have z5 := frozen_blk G5.out 2
                  have z0 : (2 : Nat) + 3 = 5 := rfl
                  go_wp2_with fail
                  go_roundw
                  case rel => exact ⟨4, _, _, _, _, by go_num, by omega, Lib.hid (set_blk G5.out 2 _), Lib.hid ((Below.heap_setCell _ ⟨w1.heap.size, 2, none⟩ _ _ (show w2.heap.size ≠ w1.heap.size by have := HS6.out; omega)).trans G6.out), Lib.hid ((Below.heap_setCell _ ⟨w1.heap.size, 2, none⟩ _ _ (show w.heap.size ≠ w1.heap.size by have := HS5.out; omega)).trans G0.out), Lib.hid ((Four.set ⟨GS.out.next SV.out (by decide), noi_box G5.out GS.out.1.non GS.out.2.1.non GS.out.2.2.1.non GS.out.2.2.2.non⟩ 2 SV.out.non).1), GE, Lib.hid (Below.setCell GX.out.b (p := ⟨w1.heap.size, 2, none⟩) (Nat.le_refl _) _)⟩
                  case measure => simp [intOf]
              · have t9 : (readE (wordAt ws (2 + k)) != 0) = true := by rw [bne_iff_ne]; exact hre
                have hE : Hid (headE s = readE (wordAt ws (2 + k))) := Lib.hid (by rw [HE.out, errT_bad (k := k) (by rw [HNN.out]; omega) GE.out hre])
                have HX4 := Lib.hid (HX1.out.tr GX.out)
                have e0 := blk G0.out 0 rfl
                have e1 := blk G0.out 1 rfl
                have e2 := blk G0.out 2 rfl
                have e3 := blk G0.out 3 rfl
                have e4 := blk G0.out 4 rfl
                have e5 := blk G0.out 5 rfl
                have e6 := blk G0.out 6 rfl
                have e7 := blk G0.out 7 rfl
                have e8 := blk G0.out 8 rfl
                have e9 := blk G0.out 9 rfl
                have e10 := blk G0.out 10 rfl
                have f0 := frozen_blk G0.out 0
                have f1 := frozen_blk G0.out 1
                have f2 := frozen_blk G0.out 2
                have f3 := frozen_blk G0.out 3
                have f4 := frozen_blk G0.out 4
                have f5 := frozen_blk G0.out 5
                have f6 := frozen_blk G0.out 6
                have f7 := frozen_blk G0.out 7
                have f8 := frozen_blk G0.out 8
                have f9 := frozen_blk G0.out 9
                have f10 := frozen_blk G0.out 10
                clear hre
                go_wp2_with fail
                refine bodyPost_ret (ret_cell_tmp rfl rfl (load_fn (set11 G0.out _ _ _ _ _ _ _ _ _ _ _))) rfl ?_
                exact HR.out _ _ _ _ hE.out (by rw [HZ.out _ hE.out (by simpa using t9)]; exact zero_head) (ext11 HX4.out (Nat.le_refl _) _ _ _ _ _ _ _ _ _ _ _) rfl
            · obtain rfl : k = 4 := by omega
              obtain ⟨a2, n2, q2, rfl⟩ := GS.out.1.form
              obtain ⟨a3, n3, q3, rfl⟩ := GS.out.2.1.form
              obtain ⟨a4, n4, q4, rfl⟩ := GS.out.2.2.1.form
              obtain ⟨a5, n5, q5, rfl⟩ := GS.out.2.2.2.form
              have hE : Hid (headE s = 0) := Lib.hid (by rw [HE.out, errT_ok (fun i hi => GE.out i (by have := HNN.out; omega))])
              have HX4 := Lib.hid (HX1.out.tr GX.out)
              have e0 := blk G0.out 0 rfl
              have e1 := blk G0.out 1 rfl
              have e2 := blk G0.out 2 rfl
              have e3 := blk G0.out 3 rfl
              have e4 := blk G0.out 4 rfl
              have e5 := blk G0.out 5 rfl
              have e6 := blk G0.out 6 rfl
              have e7 := blk G0.out 7 rfl
              have e8 := blk G0.out 8 rfl
              have e9 := blk G0.out 9 rfl
              have e10 := blk G0.out 10 rfl
              have f0 := frozen_blk G0.out 0
              have f1 := frozen_blk G0.out 1
              have f2 := frozen_blk G0.out 2
              have f3 := frozen_blk G0.out 3
              have f4 := frozen_blk G0.out 4
              have f5 := frozen_blk G0.out 5
              have f6 := frozen_blk G0.out 6
              have f7 := frozen_blk G0.out 7
              have f8 := frozen_blk G0.out 8
              have f9 := frozen_blk G0.out 9
              have f10 := frozen_blk G0.out 10
              have g0 := blk G5.out 0 rfl
              have g1 := blk G5.out 1 rfl
              have g2 := blk G5.out 2 rfl
              have g3 := blk G5.out 3 rfl
              have g4 := blk G5.out 4 rfl
              have g5 := blk G5.out 5 rfl
              have g6 := blk G5.out 6 rfl
              have g7 := blk G5.out 7 rfl
              have g8 := blk G5.out 8 rfl
              have g9 := blk G5.out 9 rfl
              have g10 := blk G5.out 10 rfl
              have HV : Hid (Four w.heap.size wr ws 4 (.slice a2 n2 q2) (.slice a3 n3 q3) (.slice a4 n4 q4) (.slice a5 n5 q5) ∧ NoI wr w.heap.size) := Lib.hid ⟨GS.out, noi_box G0.out nonI_nil nonI_nil nonI_nil nonI_nil⟩
              go_wp2_with fail
              refine bodyPost_ret (ret_cell_tmp rfl rfl (load_fn (set11 G0.out _ _ _ _ _ _ _ _ _ _ _))) rfl ?_
              have HV := Four.set (Four.set (Four.set (Four.set (Four.set (Four.set (Four.set (Four.set (Four.set (Four.set (Four.set (HV.out) 0 (nonI_str (s := strB (wordAt ws 1)))) 1 (nonI_bool (b := true))) 2 GS.out.1.non) 3 GS.out.2.1.non) 4 GS.out.2.2.1.non) 5 GS.out.2.2.2.non) 6 nonI_nil) 7 nonI_nil) 8 nonI_nil) 9 nonI_nil) 10 nonI_nil
              refine HR.out _ _ _ _ hE.out ?_ (ext11 HX4.out (Nat.le_refl _) _ _ _ _ _ _ _ _ _ _ _) rfl
              rw [HF.out, if_pos hE.out]
              rw [if_pos HNN.out, show decide (ws.length = 6) = true from decide_eq_true HNN.out]
              exact fn_head HV.1.1 HV.1.2.1 HV.1.2.2.1 HV.1.2.2.2
  · have t1 : ((strB (wordAt ws 0)).toList == [102, 117, 110, 99]) = false := by
      rw [beq_eq_false_iff_ne, ByteArray.toList_eq, strB_toL]; exact ha
    have hE : Hid (headE s = 19) := Lib.hid (by rw [HE.out, if_pos]; exact decide_eq_true (.inl ha))
    clear ha
    go_wp2_with fail
    refine bodyPost_ret (ret_cell_tmp rfl rfl (load_fn (set11 D0.out _ _ _ _ _ _ _ _ _ _ _))) rfl ?_
    exact HR.out _ _ _ _ hE.out (by rw [HZ.out _ hE.out (by decide)]; exact zero_head) (ext11 HX1.out (Nat.le_refl _) _ _ _ _ _ _ _ _ _ _ _) rfl
end Go.Proofs.YtkdnbnkbnegckaaGreatDoor
