/- The walks of package sig's small functions, and of its reference's. -/
import Derived.Test.YtkdnbnkbnegckaaGreatDoorBase
import Derived.Test.YtkdnbnkbnegckaaGreatDoorSigP
namespace Go.Proofs.YtkdnbnkbnegckaaGreatDoor
open Go.RowKit

theorem sig_letter (a : Int) (w : World) :
    Calls Tryz.prog 82 #[.int .i64 a] w fun e w' => e = .returned (.int .i32 (letterI a)) ∧ w = w' := by
  go_enter Tryz.func82, Tryz.ntmps82
  go_wp2
  all_goals go_ret
  all_goals (refine ⟨?_, rfl⟩; simp_all [letterI])

set_option maxHeartbeats 400000 in
theorem sig_Text (ao : Option Addr) (cap : Nat) (l : List Int) (w : World) (hc : Cells w ao (l.map (.int .i64))) (hl : l.length ≤ 17592186044416) :
    Calls Tryz.prog 58 #[.slice ao l.length cap] w fun e w' => e = .returned (.string (textS l)) ∧ Ext w w' := by
  by_cases h0 : l = []
  · subst h0
    go_enter Tryz.func58, Tryz.ntmps58
    go_wp2
    go_ret
    exact ⟨rfl, Ext.rf _⟩
  · have hpos : 0 < l.length := by cases l with | nil => exact absurd rfl h0 | cons => simp
    have hz : ((l.length : Int) == 0) = false := by simp; omega
    go_enter Tryz.func58, Tryz.ntmps58
    go_wp2
    go_loopw [3, 11] (fun v i wr => ∃ k : Nat, k ≤ l.length ∧ i = .int .i64 k ∧ wr.ownsRow w.heap.size 21 1 v k ((l.map fun x => .int .i32 (letterI x)).take k) ∧ Ext w wr)
      (fun _ i _ => l.length - (intOf i).toNat)
    case atStart => exact ⟨0, Nat.zero_le _, rfl, World.ownsRow_nil _ _ _ _, Ext.rf _⟩
    case round =>
      obtain ⟨k, hk, rfl, hown, hext⟩ := hrel
      by_cases hlt : k < l.length
      · obtain ⟨b, off, rfl, hcell⟩ := (hc.ext hext).at (k := k) (by simpa using hlt)
        simp only [List.getElem_map] at hcell
        go_wp2_with (first
          | (go_at_call 82; refine (sig_letter _ _).mono ?_; rintro e w1 ⟨rfl, rfl⟩)
          | (at_builtin; refine wpList_push rfl (.tmp 15) (.tmp 18) 128 rfl w.heap.size 21 21 (.int .i32 0) 1 4 Tryz.underlying128 (by kernel_rfl) rfl (by decide) _ k _ [.int .i32 (letterI l[k])] rfl hown _ rfl (by simp) rfl (by simp [Value.oneCell']) (by unfold maxLen; omega) (by omega) hext.size ?_))
        intro v' w1 hown1 hg
        have hext1 := hext.push hown (Nat.le_refl _) hg
        clear hg hcell hext hown
        go_wp2
        go_roundw
        case rel => exact ⟨k + 1, by omega, by go_num, by rw [List.take_add_one]; simpa [hlt] using hown1, hext1⟩
        case measure => simp [intOf]; omega
      · obtain rfl : k = l.length := by omega
        rw [List.take_of_length_le (by simp)] at hown
        obtain ⟨ao', cap', rfl, -, -, hc'⟩ := Cells.own hown
        have hconv := run_runes_string (P := Tryz.prog) (src := 128) (dst := 9) (e := 21) (cap := cap') (zs := l.map letterI) l.length (by simp) Tryz.underlying128 Tryz.underlying21 Tryz.underlying9 (by simpa [Function.comp_def] using hc')
        rw [runesBytes_letters] at hconv
        clear hown hc' hlt
        go_wp2
        go_ret
        exact ⟨by simp [textS, textB, h0], hext⟩
/-- What a call that hands back a new list leaves. -/
def RetList (k : IntKind) (xs : List Int) (err : Int) (w : World) (e : Ending) (w' : World) : Prop :=
  ∃ ao cap, e = .returned (.tuple #[.slice ao xs.length cap, .int .i64 err]) ∧ Cells w' ao (xs.map (.int k)) ∧ Ext w w' ∧ xs.length ≤ cap ∧ Fresh w.heap.size ao

set_option maxHeartbeats 1000000 in
set_option maxRecDepth 20000 in
theorem sig_Read (s : ByteArray) (w : World) (hl : s.size ≤ 17592186044416) :
    Calls Tryz.prog 25 #[.string s] w (RetList .i64 (readL s.data.toList) (readE s.data.toList) w) := by
  go_enter Tryz.func25, Tryz.ntmps25
  go_wp2
  go_loopw [4] (fun v wr => ∃ pos xs, wr.heap[w.heap.size]? = some (.stringIter s pos) ∧ wr.ownsRow (w.heap.size + 1) 99 1 v xs.length (xs.map (.int .i64)) ∧ Ext w wr ∧ w.heap.size + 1 ≤ wr.heap.size ∧ Gath s pos xs)
    (fun _ wr => s.size - wr.iterPos w.heap.size)
  case atStart => exact ⟨0, [], by simp [World.iter_heap], World.ownsRow_nil _ _ _ _, (Ext.rf w).al _, by simp [World.iter], Gath.start _⟩
  case round =>
    obtain ⟨pos, xs, hk, hown, hext, hsz, hg⟩ := hrel
    have hip : wr.iterPos w.heap.size = pos := by simp [World.iterPos, hk]
    by_cases hlt : pos < s.size
    · obtain ⟨c, d, hdec, hd1, hc1, hc2, hc3⟩ := decode_ic s pos hlt
      have hn := fun ty => Lib.run_next_any_at (P := Tryz.prog) wr w.heap.size s pos ty hk hlt
      rw [hdec] at hn
      have hk2 := Lib.iterAt_heap wr w.heap.size s pos (pos + d) hk
      have hsz2 : w.heap.size + 1 ≤ (wr.iterAt w.heap.size s (pos + d)).heap.size := by rw [Lib.iterAt_size]; exact hsz
      have hown2 := ownsRow_iterAt hown (Nat.lt_succ_self _) s (pos + d)
      have hext2 := hext.iterAt (Nat.le_refl _) s (pos + d)
      generalize wr.iterAt w.heap.size s (pos + d) = wi at *
      obtain ⟨hxl, hxs⟩ := hg.1
      by_cases e1 : c = 105
      · obtain ⟨hb, rfl⟩ := hc1 e1
        subst e1
        have hg2 := hg.hit hlt (by rw [hb]; rfl)
        rw [hb, show typeB 105 = 1 from rfl] at hg2
        clear hc1 hc2 hc3 hg hdec hb
        go_wp2_with (at_builtin; (refine wpList_push rfl (.tmp 15) (.tmp 16) 29 rfl (w.heap.size + 1) 99 99 (.int .i64 0) 1 8 Tryz.underlying29 (by kernel_rfl) rfl (by decide) _ xs.length _ [.int .i64 1] rfl hown2 _ rfl (by simp) rfl (by simp [Value.oneCell']) (by unfold maxLen; omega) (by omega) (by omega) ?_; intro v' w1 hown1 hgr; have hext1 := hext2.push hown2 (by omega) hgr; have hk1 := push_keeps hown2 hgr (Nat.lt_succ_self _) hk2; have hs1 := hgr.size; clear hgr hk2 hown2 hext2))
        go_roundw
        case rel => exact ⟨pos + 1, xs ++ [1], hk1, by simpa using hown1, hext1, by omega, hg2⟩
        case measure => rw [hip, iterPos_of hk1]; omega
      · by_cases e2 : c = 99
        · obtain ⟨hb, rfl⟩ := hc2 e2
          subst e2
          have hg2 := hg.hit hlt (by rw [hb]; rfl)
          rw [hb, show typeB 99 = 2 from rfl] at hg2
          clear hc1 hc2 hc3 hg hdec hb
          go_wp2_with (at_builtin; (refine wpList_push rfl (.tmp 20) (.tmp 21) 29 rfl (w.heap.size + 1) 99 99 (.int .i64 0) 1 8 Tryz.underlying29 (by kernel_rfl) rfl (by decide) _ xs.length _ [.int .i64 2] rfl hown2 _ rfl (by simp) rfl (by simp [Value.oneCell']) (by unfold maxLen; omega) (by omega) (by omega) ?_; intro v' w1 hown1 hgr; have hext1 := hext2.push hown2 (by omega) hgr; have hk1 := push_keeps hown2 hgr (Nat.lt_succ_self _) hk2; have hs1 := hgr.size; clear hgr hk2 hown2 hext2))
          go_roundw
          case rel => exact ⟨pos + 1, xs ++ [2], hk1, by simpa using hown1, hext1, by omega, hg2⟩
          case measure => rw [hip, iterPos_of hk1]; omega
        · have hg2 := hg.miss hlt hd1 (hc3 e1 e2)
          have t1 : ((c : Int) == 105) = false := by simp; omega
          have t2 : ((c : Int) == 99) = false := by simp; omega
          clear hc1 hc2 hc3 hg hdec e1 e2
          go_wp2
          go_roundw
          case rel => exact ⟨pos + d, xs, hk2, hown2, hext2, by omega, hg2⟩
          case measure => rw [hip, iterPos_of hk2]; omega
    · have hn := fun ty => Lib.run_next_end_at (P := Tryz.prog) wr w.heap.size s pos ty hk hlt
      have hend := hg.end hlt
      obtain ⟨ao', cap', rfl, hcl', -, hc'⟩ := Cells.own hown
      have HFR := Lib.hid (show Fresh w.heap.size ao' from by obtain ⟨a2, c2, e2, -, h2⟩ := own_cells hown; cases e2; exact h2.mono (by omega))
      have HCL := Lib.hid hcl'
      clear hcl'
      obtain ⟨hxl, hxs⟩ := hg.1
      clear hown hk hg
      have HE := Lib.hid hend
      clear hend
      go_wp2_with (go_at_call 58; (refine (sig_Text ao' cap' xs wr hc' (by omega)).mono ?_; rintro e w1 ⟨rfl, hb⟩))
      all_goals have ht := ‹(!(textS xs).toList == s.toList) = _›
      all_goals simp only [strEq, textS, Bool.not_eq_true', Bool.not_eq_false', decide_eq_true_eq, decide_eq_false_iff_not] at ht
      · go_ret2
        obtain ⟨e1, e2⟩ := HE.out.2 ht
        exact ⟨none, 0, by rw [e1, e2]; rfl, by rw [e1]; exact Cells.nil _ _, hext.tr hb, by rw [e1]; simp, fun ad e => by cases e⟩
      · go_ret2
        obtain ⟨e1, e2⟩ := HE.out.1 ht
        exact ⟨ao', cap', by rw [e1, e2]; rfl, by rw [e1]; exact hc'.ext hb, hext.tr hb, by rw [e1]; exact HCL.out, HFR.out⟩

set_option maxHeartbeats 1000000 in
set_option maxRecDepth 20000 in
theorem sigref_Read (s : ByteArray) (w : World) (hl : s.size ≤ 17592186044416) :
    Calls Tryz.prog 28 #[.string s] w (RetList .i64 (readL s.data.toList) (readE s.data.toList) w) := by
  by_cases h45 : s.data.toList = [45]
  · have ht : (s.toList == [45]) = true := by rw [ByteArray.toList_eq]; simp [h45]
    have hR : readL s.data.toList = [] ∧ readE s.data.toList = 0 := by rw [h45]; decide
    have HR := Lib.hid hR
    clear h45 hR
    go_enter Tryz.func28, Tryz.ntmps28
    go_wp2
    go_ret2
    exact ⟨none, 0, by rw [HR.out.1, HR.out.2]; rfl, by rw [HR.out.1]; exact Cells.nil _ _, Ext.rf _, by rw [HR.out.1]; simp, fun ad e => by cases e⟩
  · have ht : (s.toList == [45]) = false := by rw [ByteArray.toList_eq]; simpa using h45
    have H45 := Lib.hid h45
    clear h45
    go_enter Tryz.func28, Tryz.ntmps28
    go_wp2
    go_loopw [4, 5] (fun v i wr => ∃ k : Nat, k ≤ s.size ∧ i = .int .i64 k ∧ wr.ownsRow w.heap.size 99 1 v k ((s.data.toList.take k).map fun x => .int .i64 (typeB x)) ∧ Ext w wr ∧ Hid ((s.data.toList.take k).all isIC = true))
      (fun _ i _ => s.size - (intOf i).toNat)
    case atStart => exact ⟨0, Nat.zero_le _, rfl, World.ownsRow_nil _ _ _ _, Ext.rf w, Lib.hid (by simp)⟩
    case round =>
      obtain ⟨k, hk, rfl, hown, hext, hic⟩ := hrel
      by_cases hlt : k < s.size
      · have hs := take_succ_get s k hlt
        by_cases e1 : s[k] = 105
        · have HT : Hid (s.data.toList.take (k + 1) = s.data.toList.take k ++ [105]) := by rw [hs, e1]; exact rfl
          have t1 : ((s[k].toNat : Int) == 105) = true := by rw [e1]; rfl
          have t2 : ((s[k].toNat : Int) == 99) = false := by rw [e1]; rfl
          clear hs e1
          go_wp2_with (at_builtin; (refine wpList_push rfl (.tmp 19) (.tmp 20) 29 rfl w.heap.size 99 99 (.int .i64 0) 1 8 Tryz.underlying29 (by kernel_rfl) rfl (by decide) _ k _ [.int .i64 1] rfl hown _ rfl (by simp) rfl (by simp [Value.oneCell']) (by unfold maxLen; omega) (by omega) hext.size ?_; intro v' w1 hown1 hgr; have hext1 := hext.push hown (Nat.le_refl _) hgr; clear hgr hown hext))
          go_roundw
          case rel => exact ⟨k + 1, by omega, by go_num, by rw [HT.out]; simpa [List.map_take, typeB] using hown1, hext1, Lib.hid (by rw [HT.out, List.all_append, hic.out]; rfl)⟩
          case measure => simp [intOf]; omega
        · by_cases e2 : s[k] = 99
          · have HT : Hid (s.data.toList.take (k + 1) = s.data.toList.take k ++ [99]) := by rw [hs, e2]; exact rfl
            have t1 : ((s[k].toNat : Int) == 105) = false := by rw [e2]; rfl
            have t2 : ((s[k].toNat : Int) == 99) = true := by rw [e2]; rfl
            clear hs e1 e2
            go_wp2_with (at_builtin; (refine wpList_push rfl (.tmp 24) (.tmp 25) 29 rfl w.heap.size 99 99 (.int .i64 0) 1 8 Tryz.underlying29 (by kernel_rfl) rfl (by decide) _ k _ [.int .i64 2] rfl hown _ rfl (by simp) rfl (by simp [Value.oneCell']) (by unfold maxLen; omega) (by omega) hext.size ?_; intro v' w1 hown1 hgr; have hext1 := hext.push hown (Nat.le_refl _) hgr; clear hgr hown hext))
            go_roundw
            case rel => exact ⟨k + 1, by omega, by go_num, by rw [HT.out]; simpa [List.map_take, typeB] using hown1, hext1, Lib.hid (by rw [HT.out, List.all_append, hic.out]; rfl)⟩
            case measure => simp [intOf]; omega
          · have t1 : ((s[k].toNat : Int) == 105) = false := by rw [beq_eq_false_iff_ne]; intro e; exact e1 (UInt8.toNat_inj.1 (Int.ofNat_inj.1 e))
            have t2 : ((s[k].toNat : Int) == 99) = false := by rw [beq_eq_false_iff_ne]; intro e; exact e2 (UInt8.toNat_inj.1 (Int.ofNat_inj.1 e))
            have HR : Hid (readL s.data.toList = [] ∧ readE s.data.toList = 5) := by
              have hmem : s[k] ∈ s.data.toList := mem_data s k hlt
              have hn : readS s.data.toList = none := by
                unfold readS
                rw [if_neg H45.out, if_neg]
                rintro ⟨_, ha⟩
                have := (List.all_eq_true.1 ha) _ hmem
                simp [isIC, e1, e2] at this
              simp [Hid, readL, readE, hn]
            clear hs e1 e2
            go_wp2
            go_ret2
            exact ⟨none, 0, by rw [HR.out.1, HR.out.2]; rfl, by rw [HR.out.1]; exact Cells.nil _ _, hext, by rw [HR.out.1]; simp, fun ad e => by cases e⟩
      · obtain rfl : k = s.size := by omega
        rw [List.take_of_length_le (by simp)] at hown hic
        obtain ⟨ao', cap', rfl, hcl', -, hc'⟩ := Cells.own hown
        have HFR := Lib.hid (show Fresh w.heap.size ao' from by obtain ⟨a2, c2, e2, -, h2⟩ := own_cells hown; cases e2; exact h2.mono (by omega))
        have HCL := Lib.hid hcl'
        clear hcl'
        clear hown hlt
        by_cases h0 : s.size = 0
        · have hnil : s.data.toList = [] := List.eq_nil_of_length_eq_zero (by simpa using h0)
          have HR : Hid (readL s.data.toList = [] ∧ readE s.data.toList = 5) := by rw [hnil]; exact ⟨rfl, rfl⟩
          have t1 : ((s.size : Int) == 0) = true := by simp [h0]
          clear hnil hc' h0
          go_wp2
          go_ret2
          exact ⟨none, 0, by rw [HR.out.1, HR.out.2]; rfl, by rw [HR.out.1]; exact Cells.nil _ _, hext, by rw [HR.out.1]; simp, fun ad e => by cases e⟩
        · have hne : s.data.toList ≠ [] := by intro e; apply h0; simpa using congrArg List.length e
          have HR : Hid (readL s.data.toList = s.data.toList.map typeB ∧ readE s.data.toList = 0) := by
            have : readS s.data.toList = some (s.data.toList.map typeB) := by unfold readS; rw [if_neg H45.out, if_pos ⟨hne, hic.out⟩]
            simp [Hid, readL, readE, this]
          have t1 : ((s.size : Int) == 0) = false := by rw [beq_eq_false_iff_ne]; omega
          clear hne h0
          go_wp2
          go_ret2
          exact ⟨ao', cap', by rw [HR.out.1, HR.out.2]; simp, by rw [HR.out.1]; simpa [Function.comp_def] using hc', hext, by rw [HR.out.1]; simpa using HCL.out, HFR.out⟩

end Go.Proofs.YtkdnbnkbnegckaaGreatDoor
