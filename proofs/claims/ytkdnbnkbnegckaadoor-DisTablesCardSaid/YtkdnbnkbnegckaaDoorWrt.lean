/- dis.Text: all functions' lines. -/
import Derived.Test.YtkdnbnkbnegckaaDoorWrw
import Derived.Deep.DeepCutAuto
namespace Go.Proofs.YtkdnbnkbnegckaaDoor
open Go.RowKit
set_option maxRecDepth 20000
set_option linter.unusedVariables false
theorem textT_take {fs : List Fn} {k : Nat} (h : k < fs.length) : textT (fs.take (k + 1)) = textT (fs.take k) ++ funcT fs[k] := by
  rw [List.take_succ_eq_append_getElem h, textT, textT, List.flatMap_append, List.flatMap_singleton]
theorem textT_pre (fs : List Fn) (k : Nat) : (textT (fs.take k)).length ≤ (textT fs).length := by
  have : textT fs = textT (fs.take k) ++ textT (fs.drop k) := by
    rw [textT, textT, textT, ← List.flatMap_append, List.take_append_drop]
  rw [this, List.length_append]
  omega
theorem funcT_ne (f : Fn) : funcT f ≠ [] := by simp [funcT, headT]
theorem textT_ne {fs : List Fn} {k : Nat} (hk : k < fs.length) : textT (fs.take (k + 1)) ≠ [] := by
  rw [textT_take hk]
  intro h
  exact funcT_ne _ (List.append_eq_nil_iff.1 h).2
set_option maxHeartbeats 4000000 in
theorem dis_Text_walk (fs : List Fn) (v : Value) (w : World) (hr : RepC w W0 (.fz 11 (encL tF fs)) v) (hf : ∀ f ∈ fs, OkT f) (hS : (textT fs).length ≤ 10000000000000) :
    Calls Tryd.prog 18 #[.agg #[v]] w fun e W' => e = .returned (.string ⟨⟨textT fs⟩⟩) ∧ Ext w W' := by
  obtain ⟨ao, cap, rfl, hel⟩ := row_elem hr
  have HE := Lib.hid hel
  have HF := Lib.hid hf
  have hn : fs.length ≤ 10000000000000 := by
    refine Nat.le_trans ?_ hS
    clear hr hel hf HE HF hS
    induction fs with
    | nil => simp
    | cons f fs ih =>
      have : 0 < (funcT f).length := List.length_pos_iff.2 (funcT_ne f)
      simp only [textT, List.flatMap_cons, List.length_append, List.length_cons] at ih ⊢
      omega
  clear hr hel hf
  go_enter Tryd.func18, Tryd.ntmps18
  go_wp2_with fail
  have hb0 : ((w.alloc (.cells #[.slice ao fs.length cap] 45)).alloc (.cells #[.pointer none, .slice none 0 0] 53)).heap[w.heap.size + 1]? = some (.cells #[.pointer none, .slice none 0 0] 53 (0, 0)) := by
    have := alloc_new (w.alloc (.cells #[.slice ao fs.length cap] 45)) (.cells #[.pointer none, .slice none 0 0] 53)
    rwa [World.size_alloc] at this
  have HX0 := Lib.hid (((Ext.rf w).al (.cells #[.slice ao fs.length cap] 45)).al (.cells #[.pointer none, .slice none 0 0] 53))
  generalize (w.alloc (.cells #[.slice ao fs.length cap] 45)).alloc (.cells #[.pointer none, .slice none 0 0] 53) = w0 at *
  have HB0 := Lib.hid hb0
  clear hb0
  go_loopw [11] (fun i wr => ∃ k : Nat, k ≤ fs.length ∧ i = .int .i64 k ∧ Hid (IsWr w.heap.size (w.heap.size + 1) (textT (fs.take k)) wr) ∧ Hid (Ext w wr) ∧ Hid (k = 0 → wr.heap[w.heap.size + 1]? = some (.cells #[.pointer none, .slice none 0 0] 53 (0, 0))))
    (fun i _ => fs.length - (intOf i).toNat)
  case atStart => exact ⟨0, Nat.zero_le _, rfl, Lib.hid (.inl ⟨Nat.le_succ _, .slice none 0 0, HB0.out, ⟨rfl, .inl ⟨rfl, rfl⟩⟩, by simp [Value.ownBlock]⟩), HX0, Lib.hid fun _ => HB0.out⟩
  case round =>
    obtain ⟨k, hk, rfl, HWr, HXr, HZr⟩ := hrel
    by_cases hlt : k < fs.length
    · have hltB : decide ((k : Int) < (fs.length : Int)) = true := decide_eq_true (by omega)
      have hltB2 : decide (k < fs.length) = true := decide_eq_true hlt
      obtain ⟨b, off, rfl, hbw, hj⟩ := HE.out (fun h => by rw [h] at hlt; simp at hlt)
      obtain ⟨cs, hcs, hrg⟩ := hj k hlt
      have HC := Lib.hid hcs
      obtain ⟨a1, c1, a2, c2, a3, c3, a4, c4, a5, c5, a6, c6, a7, c7, a8, c8, a9, c9, hcse⟩ := fn_cells hcs
      have hrg2 : wr.rangeAt b (off + k * 11) cs := fun j u hu => (cell_of_block (HXr.out.block hbw)).trans (hrg j u hu)
      rw [hcse] at hrg2 HC
      have e0 := hrg2 0 _ rfl
      have e1 := hrg2 1 _ rfl
      have e2 := hrg2 2 _ rfl
      have e3 := hrg2 3 _ rfl
      have e4 := hrg2 4 _ rfl
      have e5 := hrg2 5 _ rfl
      have e6 := hrg2 6 _ rfl
      have e7 := hrg2 7 _ rfl
      have e8 := hrg2 8 _ rfl
      have e9 := hrg2 9 _ rfl
      have e10 := hrg2 10 _ rfl
      rw [Nat.add_zero] at e0
      clear hrg2 hj hrg hcs HZr HB0
      go_wp2_with fail
      refine (wr_write w (w.heap.size + 1) (textT (fs.take k)) fs[k] _ _ (isWr_ext HWr.out ((Ext.rf wr).al _)) (HXr.out.al _) HC.out (HF.out fs[k] (List.getElem_mem hlt)) (Nat.le_trans (textT_pre fs k) hS)).mono ?_
      rintro e wd ⟨rfl, hwd, hxd⟩
      rw [← textT_take hlt] at hwd
      have HWd := Lib.hid hwd
      have HXd := Lib.hid hxd
      clear hwd hxd e0 e1 e2 e3 e4 e5 e6 e7 e8 e9 e10
      go_wp2_with fail
      exact ⟨⟨k + 1, hlt, rfl, Lib.hid (.inr HWd.out), HXd, Lib.hid fun h => by omega⟩, (by show fs.length - ((k : Int) + 1).toNat < fs.length - ((k : Int)).toNat; omega)⟩
    · obtain rfl : k = fs.length := by omega
      have hltB : decide ((fs.length : Int) < (fs.length : Int)) = false := decide_eq_false (by omega)
      have hltB2 : decide (fs.length < fs.length) = false := decide_eq_false (by omega)
      have HQ : Hid (Calls Tryd.prog 27 #[.pointer (some ⟨w.heap.size + 1, 0, none⟩)] wr fun e w' => e = .returned (.string ⟨⟨textT fs⟩⟩) ∧ Ext w w') := by
        refine Lib.hid ?_
        have h1 := HWr.out
        rw [List.take_length] at h1
        cases hfs : fs with
        | nil =>
          refine (wr_String_nil w.heap.size (w.heap.size + 1) _ wr (HZr.out (by rw [hfs]; rfl))).mono ?_
          rintro e w' ⟨rfl, h2, -⟩
          exact ⟨rfl, HXr.out.trans h2⟩
        | cons f fs' =>
          have h3 : textT fs ≠ [] := by
            have := textT_ne (fs := fs) (k := fs.length - 1) (by rw [hfs]; simp)
            rwa [Nat.sub_add_cancel (by rw [hfs]; simp), List.take_length] at this
          rw [← hfs]
          refine (wr_String w.heap.size (w.heap.size + 1) _ wr h1 h3).mono ?_
          rintro e w' ⟨rfl, h2⟩
          exact ⟨rfl, HXr.out.trans h2⟩
      clear HWr HXr HZr
      go_wp2_with fail
      refine HQ.out.mono ?_
      rintro e wz ⟨rfl, hz⟩
      have HZ := Lib.hid hz
      clear hz HQ
      go_wp2_with fail
      go_ret
      exact ⟨rfl, HZ.out⟩
end Go.Proofs.YtkdnbnkbnegckaaDoor
