/- The names of the instructions: the walks of ops.all, Name and Find. -/
import Derived.Test.YtkdnbnkbnegckaaGreatDoorCurW
import Derived.Test.YtkdnbnkbnegckaaGreatDoorSigW
namespace Go.Proofs.YtkdnbnkbnegckaaGreatDoor
open Go.RowKit

theorem own_iter {w : World} {base : Nat} {e : TypeId} {size : Nat} {v : Value} {n : Nat} {xs : List Value} {g : Nat} {s : ByteArray} {p : Nat} (h : w.ownsRow base e size v n xs) (hg : w.heap[g]? = some (.stringIter s p)) (q : Nat) : (w.iterAt g s q).ownsRow base e size v n xs := by
  obtain ⟨h1, h2⟩ := h
  refine ⟨h1, ?_⟩
  rcases h2 with h2 | ⟨k, cap, cur, a, b, c, d⟩
  · exact .inl h2
  · refine .inr ⟨k, cap, cur, a, b, ?_, d⟩
    rw [Lib.iterAt_other _ _ _ _ _ (by rintro rfl; rw [hg] at c; cases c)]; exact c
theorem own_at1 {w : World} {base : Nat} {e : TypeId} {size g cap n : Nat} {xs : List Value} (h : w.ownsRow base e size (.slice (some ⟨g, 0, none⟩) n cap) n xs) {j : Nat} {u : Value} (hj : xs[j]? = some u) : w.cell? ⟨g, j, none⟩ = some u := by
  have := h.cells rfl j u hj
  by_cases h0 : j = 0
  · subst h0; simpa [Addr.add] using this
  · simpa [Addr.add, h0] using this
theorem own_frozen {w : World} {base : Nat} {e : TypeId} {size g cap n : Nat} {xs : List Value} (h : w.ownsRow base e size (.slice (some ⟨g, 0, none⟩) n cap) n xs) (j : Nat) : w.frozen? ⟨g, j, none⟩ = false := by
  rcases h.2 with ⟨h0, _⟩ | ⟨k, cap', cur, hv2, _, hh, _⟩
  · cases h0
  · simp only [Value.slice.injEq, Option.some.injEq, Addr.mk.injEq, and_true, true_and] at hv2
    obtain ⟨rfl, rfl⟩ := hv2
    exact frozen_blk hh j
theorem own_no_iter {w : World} {base : Nat} {e : TypeId} {size g cap n : Nat} {xs : List Value} (h : w.ownsRow base e size (.slice (some ⟨g, 0, none⟩) n cap) n xs) {s : ByteArray} {p : Nat} (hk : w.heap[g]? = some (.stringIter s p)) : False := by
  rcases h.2 with ⟨h0, _⟩ | ⟨k, cap', cur, hv2, _, hh, _⟩
  · cases h0
  · simp only [Value.slice.injEq, Option.some.injEq, Addr.mk.injEq, and_true, true_and] at hv2
    obtain ⟨rfl, rfl⟩ := hv2
    rw [hk] at hh; cases hh
theorem keep_iter {w w' : World} {base : Nat} {e : TypeId} {size : Nat} {v v' : Value} {n : Nat} {xs : List Value} {g : Nat} {s : ByteArray} {p : Nat} (hown : w.ownsRow base e size v n xs) (hg : Grow w w' v v') (hk : w.heap[g]? = some (.stringIter s p)) : w'.heap[g]? = some (.stringIter s p) := by
  rw [hg.block g (Array.getElem?_eq_some_iff.1 hk).1 (fun e => ?_)]
  · exact hk
  · rcases hown.2 with ⟨h0, _⟩ | ⟨k, cap, cur, hv2, _, hh, _⟩
    · rw [h0] at e; cases e
    · rw [hv2] at e
      simp only [Value.ownBlock, Option.some.injEq] at e
      subst e
      rw [hk] at hh; cases hh
theorem encode_low (b : UInt8) (h : b.toNat < 128) : Utf8.encode (b.toNat : Int) = strB [b] := by
  have : ∀ b : Fin 256, b.val < 128 → Utf8.encode (b.val : Int) = strB [UInt8.ofNat b.val] := by decide +kernel
  have h2 := this ⟨b.toNat, b.toNat_lt⟩ h
  simpa using h2

def wordsS : ByteArray := strB wordsL
def strV (s : List UInt8) : Value := .string (strB s)

theorem own_full (w : World) (base : Nat) (e : TypeId) (size n : Nat) (xs : List Value) (hb : base ≤ w.heap.size) (hm : n ≤ maxLen) (hx : xs.length = n * size) : (w.alloc (.cells xs.toArray e)).ownsRow base e size (.slice (some ⟨w.heap.size, 0, none⟩) n n) n xs :=
  ⟨hx, .inr ⟨w.heap.size, n, xs.toArray, rfl, hb, heap_alloc_new w _, Nat.le_refl _, hm, by simpa using hx, by rw [← hx]; simp⟩⟩
theorem iterPos_at {w : World} {g : Nat} {s : ByteArray} {pos : Nat} (h : w.heap[g]? = some (.stringIter s pos)) : w.iterPos g = pos := by simp [World.iterPos, h]
theorem words_at {k : Nat} (h : k < 175) : ∃ b, wordsL[k]? = some b ∧ b.toNat < 128 ∧ Utf8.decode wordsS k = (b.toNat, 1) := by
  have hl : wordsL.length = 175 := by decide +kernel
  have hk : k < wordsL.length := by omega
  refine ⟨wordsL[k], List.getElem?_eq_getElem hk, wordsL_low _ (List.getElem_mem hk), ?_⟩
  have hs : k < wordsS.size := by rw [show wordsS.size = wordsL.length from strB_size _]; exact hk
  have e : wordsS[k] = wordsL[k] := rfl
  rw [decode_ascii wordsS k hs (by rw [e]; exact wordsL_low _ (List.getElem_mem hk)), e]
  rfl
theorem wordsS_size : wordsS.size = 175 := by rw [show wordsS.size = wordsL.length from strB_size _]; decide +kernel

set_option maxHeartbeats 1000000 in
set_option maxRecDepth 20000 in
theorem ops_all (w : World) : Calls Tryz.prog 76 #[] w (RetSl 35 (opNames.map strV) w) := by
  have HZ := Lib.hid wordsS_size
  go_enter Tryz.func76, Tryz.ntmps76
  go_wp2
  go_loopw [1] (fun v wr => ∃ (pos : Nat) (L : List (List UInt8)), Hid (L = cutW pos) ∧ pos ≤ 175 ∧ wr.heap[w.heap.size + 1]? = some (.stringIter wordsS pos) ∧ wr.ownsRow w.heap.size 9 1 v L.length (L.map strV) ∧ Ext w wr ∧ w.heap.size + 2 ≤ wr.heap.size)
    (fun _ wr => wordsS.size - wr.iterPos (w.heap.size + 1))
  case atStart =>
    refine ⟨0, [[]], Lib.hid rfl, by decide, ?_, ?_, ((Ext.rf w).al _).al _, ?_⟩
    · have h := World.iter_heap (w.alloc (.cells #[.string ⟨#[]⟩] 9)) wordsS 0
      rw [World.size_alloc] at h
      exact h
    · exact own_ext (own_full w w.heap.size 9 1 1 [.string ⟨#[]⟩] (Nat.le_refl _) (by decide) rfl) ((Ext.rf _).al _)
    · simp [World.iter]
  case round =>
    obtain ⟨pos, L, HL, hpos, hk, hown, hext, hsz⟩ := hrel
    obtain ⟨ro, rc, rfl⟩ := own_form hown
    have hip := iterPos_at hk
    by_cases hlt : pos < 175
    · obtain ⟨b, hb, hb7, hdec⟩ := words_at hlt
      have hn := fun ty => Lib.run_next_any_at (P := Tryz.prog) wr (w.heap.size + 1) wordsS pos ty hk (by rw [HZ.out]; exact hlt)
      rw [hdec] at hn
      have HK2 := Lib.hid (Lib.iterAt_heap wr (w.heap.size + 1) wordsS pos (pos + 1) hk)
      have hsz2 : w.heap.size + 2 ≤ (wr.iterAt (w.heap.size + 1) wordsS (pos + 1)).heap.size := by rw [Lib.iterAt_size]; exact hsz
      have hown2 := own_iter hown hk (pos + 1)
      have hext2 := hext.iterAt (by omega : w.heap.size ≤ w.heap.size + 1) wordsS (pos + 1)
      have HST := Lib.hid (cutW_step pos b hb)
      have hLl : L.length ≤ 176 := by rw [HL.out]; have := cutW_len pos; omega
      have HLne : Hid (L ≠ []) := by rw [HL.out]; exact cutW_ne pos
      have HSM := Lib.hid (cutW_small pos (by omega))
      rw [← HL.out] at HST HSM
      generalize wr.iterAt (w.heap.size + 1) wordsS (pos + 1) = wi at *
      clear hdec hb hown hext hk hsz HL
      by_cases h32 : b = 32
      · have t1 : ((b.toNat : Int) == 32) = true := by rw [h32]; rfl
        have HS2 : Hid (cutW (pos + 1) = L ++ [[]]) := by rw [Hid, HST.out, addW, if_pos h32]
        clear h32 hb7
        go_wp2_with (at_builtin; (refine wpList_push rfl (.tmp 11) (.tmp 12) 56 rfl w.heap.size 9 9 (.string ⟨#[]⟩) 1 16 Tryz.underlying56 (by kernel_rfl) rfl (by decide) _ L.length _ [.string ⟨#[]⟩] rfl hown2 _ rfl (by simp) rfl (by simp [Value.oneCell']) (by unfold maxLen; omega) (by omega) hext2.size ?_; intro v' w1 hown1 hgr; have hext1 := hext2.push hown2 (Nat.le_refl _) hgr; have HK3 := Lib.hid (keep_iter hown2 hgr HK2.out); have hsz3 := Nat.le_trans hsz2 hgr.size; clear hgr hown2 hext2))
        go_roundw
        case rel => exact ⟨pos + 1, L ++ [[]], Lib.hid HS2.out.symm, by omega, HK3.out, by rw [List.length_append, List.length_singleton, List.map_append]; exact hown1, hext1, hsz3⟩
        case measure => rw [hip, iterPos_at HK3.out, HZ.out]; omega
      · have t1 : ((b.toNat : Int) == 32) = false := by rw [beq_eq_false_iff_ne]; intro e; exact h32 (UInt8.toNat_inj.1 (Int.ofNat_inj.1 e))
        obtain ⟨A, x, hA⟩ : ∃ A x, L = A ++ [x] := by
          rcases List.eq_nil_or_concat L with h | ⟨A, x, h⟩
          · exact absurd h HLne.out
          · exact ⟨A, x, by rw [h, List.concat_eq_append]⟩
        have HS2 : Hid (cutW (pos + 1) = A ++ [x ++ [b]]) := by rw [Hid, HST.out, addW, if_neg h32, hA]; simp
        have hn0 : 0 < L.length := List.length_pos_iff.2 HLne.out
        have hxl : x.length ≤ 10 := HSM.out x (by rw [hA]; simp)
        obtain ⟨g, rc', he⟩ := own_some hown2 hn0
        cases he
        have hLA : L.length = A.length + 1 := by rw [hA]; simp
        have c2 : wi.cell? ⟨g, L.length - 1, none⟩ = some (.string (strB x)) := own_at1 hown2 (by rw [hA]; simp [strV])
        have f2 : wi.frozen? ⟨g, L.length - 1, none⟩ = false := own_frozen hown2 _
        have i3 : (0 : Int) ≤ (L.length : Int) - 1 := by omega
        have i4 : (L.length : Int) - 1 < L.length := by omega
        have he1 := encode_low b hb7
        have hs1 : ¬ 9223372036854775807 < (strB x).size + (strB [b]).size := by rw [strB_size, strB_size]; simp; omega
        have hx2 := hown2.stored (L.length - 1) (strV (x ++ [b]))
        have HO2 := Lib.hid hx2.1
        have HG2 := Lib.hid hx2.2
        have HM : Hid ((L.map strV).set (L.length - 1) (strV (x ++ [b])) = (A ++ [x ++ [b]]).map strV) := by rw [Hid, hA]; simp [List.set_append]
        have HX2 := Lib.hid (hext2.stored hown2 (Nat.le_refl _) rfl (L.length - 1) (strV (x ++ [b])))
        have HK3 := Lib.hid (show (wi.setCell ⟨g, L.length - 1, none⟩ (strV (x ++ [b]))).heap[w.heap.size + 1]? = some (.stringIter wordsS (pos + 1)) by
          rw [Below.heap_setCell _ _ _ _ (by show w.heap.size + 1 ≠ g; rintro rfl; exact own_no_iter hown2 HK2.out)]; exact HK2.out)
        have HLA := Lib.hid hLA
        clear hx2 hown2 hext2 h32 hA hb7 HLne hLA
        go_wp2_with fail
        rw [strB_app]
        go_roundw
        case rel => exact ⟨pos + 1, A ++ [x ++ [b]], Lib.hid HS2.out.symm, by omega, HK3.out, by rw [← HM.out, show (A ++ [x ++ [b]]).length = L.length by rw [HLA.out]; simp]; exact HO2.out, HX2.out, by simpa [World.setCell] using hsz2⟩
        case measure =>
          show _ - (wi.setCell ⟨g, L.length - 1, none⟩ (strV (x ++ [b]))).iterPos (w.heap.size + 1) < _
          rw [hip, iterPos_at HK3.out, HZ.out]; omega
    · obtain rfl : pos = 175 := by omega
      have hn := fun ty => Lib.run_next_end_at (P := Tryz.prog) wr (w.heap.size + 1) wordsS 175 ty hk (by rw [HZ.out]; decide)
      rw [cutW_all] at HL
      obtain rfl := HL.out
      obtain ⟨ao', cap', hv, hc, hf⟩ := own_cells hown
      cases hv
      have HC := Lib.hid hc
      clear hown hc hip hk
      go_wp2_with fail
      go_ret
      exact ⟨_, _, rfl, HC.out, hext, hf⟩

theorem opNames_at {k : Nat} (h : k < 35) : (opNames.map strV)[k]? = some (strV (nameAt k)) := by
  have hl : opNames.length = 35 := by decide +kernel
  rw [List.getElem?_map, nameAt, List.getElem?_eq_getElem (by omega)]; rfl

set_option maxHeartbeats 1000000 in
set_option maxRecDepth 20000 in
theorem ops_Name (op : Int) (w : World) : Calls Tryz.prog 97 #[.int .i64 op] w fun e w' => e = .returned (.string (strB (opNameL op))) ∧ Ext w w' := by
  cases t1 : isOp op with
  | false =>
    have HR : Hid (opNameL op = []) := by simp [Hid, opNameL, t1]
    go_enter Tryz.func97, Tryz.ntmps97
    go_wp2_with fail
    refine (ops_is op w).mono ?_
    rw [t1]
    rintro e w1 ⟨rfl, rfl⟩
    clear t1
    go_wp2_with fail
    go_ret
    exact ⟨by rw [HR.out] <;> rfl, Ext.rf _⟩
  | true =>
    have HR : Hid (opNameL op = nameAt op.toNat) := by simp [Hid, opNameL, t1]
    have t2 := t1
    simp only [isOp, Bool.and_eq_true, decide_eq_true_eq] at t2
    obtain ⟨h0, h1⟩ := t2
    obtain ⟨k, rfl⟩ := Int.eq_ofNat_of_zero_le h0
    have hk : k < 35 := by omega
    have hk2 : (k : Int) < ((35 : Nat) : Int) := by omega
    rw [Int.toNat_natCast] at HR
    clear h0 h1
    go_enter Tryz.func97, Tryz.ntmps97
    go_wp2_with fail
    refine (ops_is _ w).mono ?_
    rw [t1]
    rintro e w1 ⟨rfl, rfl⟩
    clear t1
    go_wp2_with fail
    refine (ops_all w).mono ?_
    rintro e w2 ⟨ao, cap, rfl, hc, hx, -⟩
    obtain ⟨b, off, rfl, x1⟩ := hc.at (k := k) (by simp [show opNames.length = 35 by decide +kernel]; exact hk)
    have HN := Lib.hid (opNames_at hk)
    rw [List.getElem?_eq_getElem (by simp [show opNames.length = 35 by decide +kernel]; exact hk)] at HN
    rw [Option.some.inj HN.out] at x1
    clear hc HN
    unfold strV at x1
    go_wp2_with fail
    go_ret
    exact ⟨by rw [HR.out] <;> rfl, hx⟩

theorem strEqL (a b : List UInt8) : ((strB a).toList == (strB b).toList) = decide (a = b) := by
  rw [strEq]; simp [strB]; rfl
set_option maxHeartbeats 1000000 in
set_option maxRecDepth 20000 in
theorem ops_Find (s : List UInt8) (w : World) : Calls Tryz.prog 49 #[.string (strB s)] w fun e w' => e = .returned (.tuple #[.int .i64 (findI s).1, .bool (findI s).2]) ∧ Ext w w' := by
  have HL : Hid (opNames.length = 35) := by rw [Hid]; decide +kernel
  go_enter Tryz.func49, Tryz.ntmps49
  go_wp2_with fail
  refine (ops_all w).mono ?_
  rintro e w2 ⟨ao, cap, rfl, hc, hx, -⟩
  have HC := Lib.hid hc
  have HX := Lib.hid hx
  clear hc hx
  go_wp2_with fail
  go_loop [8] (fun i => ∃ k : Nat, k ≤ 35 ∧ i = .int .i64 k ∧ Hid (∀ j < k, nameAt j ≠ s)) (fun i => 35 - (intOf i).toNat)
  case atStart => exact ⟨0, Nat.zero_le _, rfl, Lib.hid fun j hj => by omega⟩
  case round =>
    obtain ⟨k, hk, rfl, hall⟩ := hrel
    by_cases hlt : k < 35
    · obtain ⟨b, off, rfl, x1⟩ := HC.out.at (k := k) (by rw [List.length_map, HL.out]; exact hlt)
      have HN := Lib.hid (opNames_at hlt)
      rw [List.getElem?_eq_getElem (by rw [List.length_map, HL.out]; exact hlt)] at HN
      rw [Option.some.inj HN.out] at x1
      unfold strV at x1
      have i1 : (k : Int) < 35 := by omega
      have HS := Lib.hid (strEqL (nameAt k) s)
      clear HN
      by_cases hq : nameAt k = s
      · have t1 : ((strB (nameAt k)).toList == (strB s).toList) = true := by rw [HS.out]; exact decide_eq_true hq
        have HR := Lib.hid (findI_some hlt hq hall.out)
        clear hq
        go_wp2_with fail
        go_ret2
        exact ⟨by rw [HR.out] <;> rfl, HX.out⟩
      · have t1 : ((strB (nameAt k)).toList == (strB s).toList) = false := by rw [HS.out]; exact decide_eq_false hq
        have HA : Hid (∀ j < k + 1, nameAt j ≠ s) := fun j hj => by
          rcases Nat.lt_succ_iff_lt_or_eq.1 hj with h | rfl
          · exact hall.out j h
          · exact hq
        clear hq
        go_wp2_with fail
        go_round
        case rel => exact ⟨k + 1, by omega, by go_num, HA⟩
        case measure => simp [intOf]; omega
    · obtain rfl : k = 35 := by omega
      have HR := Lib.hid (findI_none hall.out)
      go_wp2_with fail
      go_ret2
      exact ⟨by rw [HR.out] <;> rfl, HX.out⟩

end Go.Proofs.YtkdnbnkbnegckaaGreatDoor
