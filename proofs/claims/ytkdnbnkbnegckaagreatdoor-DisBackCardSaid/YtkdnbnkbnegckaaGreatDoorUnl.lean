/- Whether no name stands twice: names.Unlike, by a map that counts. -/
import Derived.Test.YtkdnbnkbnegckaaGreatDoorBase
import Derived.Test.YtkdnbnkbnegckaaGreatDoorStrA
import Derived.Maps.OwnSet
import Derived.Maps.OwnOps
import Derived.WalkKit
import Derived.StringKeys
namespace Go.Proofs.YtkdnbnkbnegckaaGreatDoor
open Go.RowKit Go.Maps Go.WideMaps Go.ChangeMaps
/-- A count, as a map's datum. -/
abbrev i64D (n : Int) : DataW Unit := .lit (.int .i64 n)

def strVU (b : List UInt8) : Value := .string ⟨⟨b⟩⟩
def keyL (b : List UInt8) : Lit := .string b
theorem keyOf_str {b : List UInt8} (h : b.length ≤ maxLen) : keyOf Tryz.prog 9 (strVU b) = some (keyL b) := keyOf_string_mk Tryz.underlying9 (s := ⟨⟨b⟩⟩) h
theorem keyL_key (b : List UInt8) : WideAt.IsKeyLit (keyL b) := by simp [keyL, WideAt.IsKeyLit]
theorem keyL_ne {a b : List UInt8} (h : a ≠ b) : keyL a ≠ keyL b := fun e => h (by simpa [keyL] using e)
theorem lawS : Keyed Tryz.prog 9 := string_keyed Tryz.underlying9
theorem zeroS (w : World) : (zeroValue 3).run Tryz.prog w = .ok (.int .i64 0) w := by kernel_rfl
/-- How often each name was met. -/
structure MetI (l : List (List UInt8)) (k : Nat) (D : DataW Unit) : Prop where
  at' : ∀ s, D.atKey (keyL s) (i64D 0) = i64D ((l.take k).count s)
  has : ∀ s, Maps.has D (keyL s) = decide (s ∈ l.take k)
  tidy : Tidy D
  size : (l.take k).Nodup → Maps.size D = k
theorem metI_zero (l : List (List UInt8)) : MetI l 0 (.map []) := ⟨fun s => by simp [DataW.atKey], fun s => by simp [Maps.has], tidy_empty, fun _ => rfl⟩
theorem MetI.step {l : List (List UInt8)} {k : Nat} {D : DataW Unit} (h : MetI l k D) (hk : k < l.length) (hl : l.length < 9223372036854775807) {c : Int} (hat : D.atKey (keyL l[k]) (i64D 0) = i64D c) : MetI l (k + 1) (D.put (keyL l[k]) (i64D (wrap64 (c + 1)))) := by
  have hc : c = ((l.take k).count l[k] : Nat) := by
    rw [h.at'] at hat
    simp [i64D] at hat
    omega
  have hle : (l.take k).count l[k] ≤ k := Nat.le_trans List.count_le_length (by simp; omega)
  have hw : wrap64 (c + 1) = (((l.take k).count l[k] + 1 : Nat) : Int) := by unfold wrap64; omega
  have ht : l.take (k + 1) = l.take k ++ [l[k]] := List.take_succ_eq_append_getElem hk
  have hm : ∀ s, s ∈ l.take (k + 1) ↔ s ∈ l.take k ∨ s = l[k] := fun s => by rw [ht, List.mem_append, List.mem_singleton]
  refine ⟨fun s => ?_, fun s => ?_, h.tidy.put (keyL_key _) _, fun hn => ?_⟩
  · rw [ht, hw]
    by_cases e : s = l[k]
    · subst e
      have h2 : List.count l[k] (l.take k ++ [l[k]]) = List.count l[k] (l.take k) + 1 := by rw [List.count_append]; simp
      rw [atKey_put_same h.tidy.isMap (keyL_key _), h2]
    · rw [atKey_put_other (keyL_ne e), h.at', List.count_append]
      have : List.count s [l[k]] = 0 := by simp [List.count_cons]; exact fun e2 => e e2.symm
      rw [this, Nat.add_zero]
  · by_cases e : s = l[k]
    · subst e
      rw [has_put_same h.tidy.isMap (keyL_key _)]
      exact (decide_eq_true ((hm _).2 (.inr rfl))).symm
    · rw [has_put_other (keyL_ne e), h.has]
      exact decide_eq_decide.2 ⟨fun h1 => (hm s).2 (.inl h1), fun h1 => ((hm s).1 h1).resolve_right e⟩
  · rw [ht, List.nodup_append] at hn
    rw [size_put h.tidy, h.has, h.size hn.1]
    have : l[k] ∉ l.take k := fun hm => hn.2.2 _ hm _ (by simp) rfl
    simp [this]
set_option maxRecDepth 100000 in
theorem met_none (ao : Option Addr) (cap : Nat) (w : World) :
    Calls Tryz.prog 96 #[.slice ao 0 cap] w fun e w' => ∃ B D, e = .returned (.map (some B)) ∧ w.heap.size ≤ B ∧ w'.ownsMap Tryz.prog 9 (plainElem Tryz.prog 3) B 0 D ∧ MetI [] 0 D ∧ Ext w w' := by
  have hmm := @run_makeMap Tryz.prog
  go_enter Tryz.func96, Tryz.ntmps96
  go_wp2
  refine wp_loop_rounds 1 ?_
  rw [rounds_succ]
  go_wp2
  go_ret
  exact ⟨w.heap.size, .map [], rfl, Nat.le_refl _, World.ownsMap_made _ _ _ _, metI_zero [], (Ext.rf w).al _⟩
set_option maxRecDepth 100000 in
theorem met_some (b off cap : Nat) (l : List (List UInt8)) (w : World) (hb : b < w.heap.size) (hc : ∀ j (h : j < l.length), w.cell? ⟨b, off + j, none⟩ = some (strVU l[j])) (hl : l.length ≤ 1000000) (hs : ∀ s ∈ l, s.length ≤ 1000000) :
    Calls Tryz.prog 96 #[.slice (some ⟨b, off, none⟩) l.length cap] w fun e w' => ∃ B D, e = .returned (.map (some B)) ∧ w.heap.size ≤ B ∧ w'.ownsMap Tryz.prog 9 (plainElem Tryz.prog 3) B l.length D ∧ MetI l l.length D ∧ Ext w w' := by
  have hmm := @run_makeMap Tryz.prog
  go_enter Tryz.func96, Tryz.ntmps96
  go_wp2
  go_loopw [9] (fun i wr => ∃ (k : Nat) (D : DataW Unit), k ≤ l.length ∧ i = .int .i64 k ∧ wr.ownsMap Tryz.prog 9 (plainElem Tryz.prog 3) w.heap.size k D ∧ MetI l k D ∧ Ext w wr)
    (fun i _ => l.length - (intOf i).toNat)
  case atStart => exact ⟨0, .map [], Nat.zero_le _, rfl, World.ownsMap_made _ _ _ _, metI_zero l, (Ext.rf w).al _⟩
  case round =>
    obtain ⟨k, D, hk, rfl, hown, hI, hnx⟩ := hrel
    by_cases hlt : k < l.length
    · obtain ⟨s, hsk⟩ : ∃ s, s = l[k] := ⟨_, rfl⟩
      have hcx : wr.cell? ⟨b, off + k, none⟩ = some (strVU s) := by rw [hsk]; exact (hnx.b.cell hb).trans (hc k hlt)
      have hkey : keyOf Tryz.prog 9 (strVU s) = some (keyL s) := keyOf_str (by rw [hsk]; have := hs _ (List.getElem_mem hlt); unfold maxLen; omega)
      have HI := Lib.hid (fun (c : Int) (hat : D.atKey (keyL s) (i64D 0) = i64D c) => by rw [hsk] at hat ⊢; exact hI.step hlt (by omega) hat : ∀ c : Int, D.atKey (keyL s) (i64D 0) = i64D c → MetI l (k + 1) (D.put (keyL s) (i64D (wrap64 (c + 1)))))
      have hltB : decide ((k : Int) < (l.length : Int)) = true := decide_eq_true (by omega)
      clear hsk hI
      obtain ⟨c, hrun, hat, hwc⟩ := hown.lookup_int lawS Tryz.underlying142 Tryz.underlying3 (zeroS _) hkey
      go_wp2_with (first
        | (at_mapUpdate; refine wpList_mapUpdate_own _ rfl _ _ _ 142 rfl 9 3 lawS Tryz.underlying142 _ w.heap.size k _ rfl hown (by unfold maxLen; omega) _ _ _ rfl rfl hkey _ [] (plainElem_int Tryz.underlying3 (wrap64_wf _)) ?_)
        | go_in)
      intro w1 hown1 hgrow1
      have R1 := HI.out _ hat
      have R2 : Ext w w1 := hnx.b.grown hgrow1 hnx.size (fun j hj => by cases hj; exact Nat.le_refl _)
      clear hgrow1 hown hrun hat hcx HI
      go_wp2
      go_roundw
      case rel => exact ⟨k + 1, _, by omega, by go_num, hown1, R1, R2⟩
      case measure => simp [intOf]; omega
    · have hkl : k = l.length := by omega
      subst hkl
      go_wp2
      go_ret
      exact ⟨_, D, rfl, Nat.le_refl _, hown, hI, hnx⟩
theorem nodup_of_count {α : Type} [BEq α] [LawfulBEq α] : ∀ {l : List α}, (∀ a ∈ l, l.count a ≤ 1) → l.Nodup
  | [], _ => List.nodup_nil
  | x :: l, h => by
    have h1 := h x (by simp)
    rw [List.count_cons_self] at h1
    have h2 : x ∉ l := fun hm => by have := List.count_pos_iff.2 hm; omega
    refine List.nodup_cons.2 ⟨h2, nodup_of_count fun a ha => ?_⟩
    have h3 := h a (by simp [ha])
    exact Nat.le_trans (List.count_le_count_cons) h3
theorem count_of_nodup {α : Type} [BEq α] [LawfulBEq α] : ∀ {l : List α}, l.Nodup → ∀ a, l.count a ≤ 1
  | [], _, a => by simp
  | x :: l, h, a => by
    obtain ⟨h1, h2⟩ := List.nodup_cons.1 h
    by_cases e : x = a
    · subst e
      rw [List.count_cons_self, List.count_eq_zero.2 h1]
      exact Nat.le_refl _
    · rw [List.count_cons_of_ne e]
      exact count_of_nodup h2 a
/-- What is left of the counts when some names were met again. -/
structure LeftI (l : List (List UInt8)) (k : Nat) (D : DataW Unit) : Prop where
  at' : ∀ s, D.atKey (keyL s) (i64D 0) = i64D (if s ∈ l.take k then 0 else l.count s : Nat)
  has : ∀ s, Maps.has D (keyL s) = decide (s ∈ l ∧ s ∉ l.take k)
  tidy : Tidy D
  size : l.Nodup → Maps.size D + k = l.length
  once : ∀ s ∈ l.take k, l.count s ≤ 1
theorem MetI.left {l : List (List UInt8)} {D : DataW Unit} (h : MetI l l.length D) : LeftI l 0 D := by
  have ht := List.take_of_length_le (Nat.le_refl l.length)
  refine ⟨fun s => ?_, fun s => ?_, h.tidy, fun hn => ?_, fun s hs => by simp at hs⟩
  · rw [h.at', ht]; simp
  · rw [h.has, ht]; simp
  · rw [h.size (by rw [ht]; exact hn)]; rfl
theorem LeftI.one {l : List (List UInt8)} {k : Nat} {D : DataW Unit} (h : LeftI l k D) (hk : k < l.length) {c : Int} (hat : D.atKey (keyL l[k]) (i64D 0) = i64D c) : (1 < c → ¬l.Nodup) ∧ (¬1 < c → LeftI l (k + 1) (D.del (keyL l[k]))) := by
  have hc : c = ((if l[k] ∈ l.take k then 0 else l.count l[k] : Nat) : Int) := by
    rw [h.at'] at hat
    simp only [i64D, DataW.lit.injEq, Lit.int.injEq, true_and] at hat
    exact hat.symm
  have ht : l.take (k + 1) = l.take k ++ [l[k]] := List.take_succ_eq_append_getElem hk
  have hm : ∀ s, s ∈ l.take (k + 1) ↔ s ∈ l.take k ∨ s = l[k] := fun s => by rw [ht, List.mem_append, List.mem_singleton]
  refine ⟨fun h1 hn => ?_, fun h1 => ⟨fun s => ?_, fun s => ?_, h.tidy.del _, fun hn => ?_, fun s hs => ?_⟩⟩
  · have := count_of_nodup hn l[k]
    split at hc <;> omega
  · by_cases e : s = l[k]
    · subst e
      rw [atKey_del_same, if_pos ((hm _).2 (.inr rfl))]
      rfl
    · rw [atKey_del_other (keyL_ne e), h.at']
      congr 2
      by_cases h2 : s ∈ l.take k
      · rw [if_pos h2, if_pos ((hm s).2 (.inl h2))]
      · rw [if_neg h2, if_neg fun h3 => ((hm s).1 h3).elim h2 e]
  · by_cases e : s = l[k]
    · subst e
      rw [has_del_same]
      exact (decide_eq_false fun h2 => h2.2 ((hm _).2 (.inr rfl))).symm
    · rw [has_del_other (keyL_ne e), h.has]
      exact decide_eq_decide.2 ⟨fun h2 => ⟨h2.1, fun h3 => ((hm s).1 h3).elim h2.2 e⟩, fun h2 => ⟨h2.1, fun h3 => h2.2 ((hm s).2 (.inl h3))⟩⟩
  · have h2 := h.size hn
    have h3 := size_del (k := keyL l[k]) h.tidy
    have h4 : l[k] ∉ l.take k := fun h5 => by
      obtain ⟨j, hj, e⟩ := List.getElem_of_mem h5
      rw [List.getElem_take] at e
      have hjk : j < k := by simp at hj; omega
      have := (List.nodup_iff_pairwise_ne.1 hn)
      exact absurd e ((List.pairwise_iff_getElem.1 this) j k (by omega) hk hjk)
    rw [h.has, decide_eq_true (show l[k] ∈ l ∧ l[k] ∉ l.take k from ⟨List.getElem_mem hk, h4⟩), if_pos rfl] at h3
    omega
  · rcases (hm s).1 hs with h2 | h2
    · exact h.once s h2
    · subst h2
      by_cases h3 : l[k] ∈ l.take k
      · exact h.once _ h3
      · rw [if_neg h3] at hc
        omega
theorem LeftI.end' {l : List (List UInt8)} {D : DataW Unit} (h : LeftI l l.length D) : l.Nodup ∧ Maps.size D = 0 := by
  have ht := List.take_of_length_le (Nat.le_refl l.length)
  have hn : l.Nodup := nodup_of_count fun a ha => h.once a (by rw [ht]; exact ha)
  have := h.size hn
  exact ⟨hn, by omega⟩
set_option maxRecDepth 100000 in
theorem unlike_none (ao : Option Addr) (cap : Nat) (w : World) :
    Calls Tryz.prog 68 #[.slice ao 0 cap] w fun e w' => e = .returned (.bool true) ∧ Ext w w' := by
  go_enter Tryz.func68, Tryz.ntmps68
  go_wp2_with fail
  refine (met_none ao cap w).mono ?_
  rintro e w1 ⟨B, D, rfl, hB, hown, hI, hx⟩
  have hs : Maps.size D = 0 := hI.size List.nodup_nil
  have hsE : ((Maps.size D : Int) == 0) = true := by rw [hs]; rfl
  go_wp2_with fail
  refine wp_loop_rounds 1 ?_
  rw [rounds_succ]
  go_wp2_with (at_len; refine wpList_len_own _ rfl _ 142 rfl 9 3 Tryz.underlying142 _ B 0 D rfl hown ?_)
  go_ret
  exact ⟨by simp [hs], hx⟩
set_option maxRecDepth 100000 in
theorem unlike_some (b off cap : Nat) (l : List (List UInt8)) (w : World) (hb : b < w.heap.size) (hc : ∀ j (h : j < l.length), w.cell? ⟨b, off + j, none⟩ = some (strVU l[j])) (hl : l.length ≤ 1000000) (hs : ∀ s ∈ l, s.length ≤ 1000000) :
    Calls Tryz.prog 68 #[.slice (some ⟨b, off, none⟩) l.length cap] w fun e w' => e = .returned (.bool (decide l.Nodup)) ∧ Ext w w' := by
  go_enter Tryz.func68, Tryz.ntmps68
  go_wp2_with fail
  refine (met_some b off cap l w hb hc hl hs).mono ?_
  rintro e w1 ⟨B, D0, rfl, hB, hown0, hI0, hx0⟩
  have hL0 := hI0.left
  clear hI0
  go_wp2_with fail
  go_loopw [10] (fun i wr => ∃ (k : Nat) (D : DataW Unit), k ≤ l.length ∧ i = .int .i64 k ∧ wr.ownsMap Tryz.prog 9 (plainElem Tryz.prog 3) B l.length D ∧ LeftI l k D ∧ Ext w wr)
    (fun i _ => l.length - (intOf i).toNat)
  case atStart => exact ⟨0, D0, Nat.zero_le _, rfl, hown0, hL0, hx0⟩
  case round =>
    obtain ⟨k, D, hk, rfl, hown, hI, hnx⟩ := hrel
    clear hown0 hL0
    by_cases hlt : k < l.length
    · obtain ⟨s, hsk⟩ : ∃ s, s = l[k] := ⟨_, rfl⟩
      have hcx : wr.cell? ⟨b, off + k, none⟩ = some (strVU s) := by rw [hsk]; exact (hnx.b.cell hb).trans (hc k hlt)
      have hkey : keyOf Tryz.prog 9 (strVU s) = some (keyL s) := keyOf_str (by rw [hsk]; have := hs _ (List.getElem_mem hlt); unfold maxLen; omega)
      have HI := Lib.hid (fun (c : Int) (hat : D.atKey (keyL s) (i64D 0) = i64D c) => by rw [hsk] at hat ⊢; exact hI.one hlt hat : ∀ c : Int, D.atKey (keyL s) (i64D 0) = i64D c → (1 < c → ¬l.Nodup) ∧ (¬1 < c → LeftI l (k + 1) (D.del (keyL s))))
      have hltB : decide ((k : Int) < (l.length : Int)) = true := decide_eq_true (by omega)
      clear hsk hI
      obtain ⟨c, hrun, hat, hwc⟩ := hown.lookup_int lawS Tryz.underlying142 Tryz.underlying3 (zeroS _) hkey
      obtain ⟨h1, h2⟩ := HI.out _ hat
      clear HI hat
      by_cases hgt : 1 < c
      · have hn := h1 hgt
        have hgB : decide (1 < c) = true := decide_eq_true hgt
        go_wp2_with fail
        go_ret
        exact ⟨by first | rfl | simp [hn], hnx⟩
      · have R1 := Lib.hid (h2 hgt)
        have hgB : decide (1 < c) = false := decide_eq_false hgt
        clear h1 h2
        go_wp2_with (first
          | (at_delete; refine wpList_delete_own _ rfl _ _ 142 9 rfl 3 lawS Tryz.underlying142 _ B l.length D rfl hown _ _ rfl hkey ?_; intro w1 hown1 hturn1)
          | go_in)
        have R2 : Ext w w1 := hnx.b.grown hturn1.grown hnx.size (fun j hj => by cases hj; exact hB)
        clear hturn1 hown hrun hcx
        go_wp2
        go_roundw
        case rel => exact ⟨k + 1, _, by omega, by go_num, hown1, R1.out, R2⟩
        case measure => simp [intOf]; omega
    · have hkl : k = l.length := by omega
      subst hkl
      obtain ⟨hn, hz⟩ := hI.end'
      have hltB : decide ((l.length : Int) < (l.length : Int)) = false := decide_eq_false (by omega)
      go_wp2_with (at_len; refine wpList_len_own _ rfl _ 142 rfl 9 3 Tryz.underlying142 _ B l.length D rfl hown ?_)
      go_ret
      exact ⟨by simp [hz, hn], hnx⟩
end Go.Proofs.YtkdnbnkbnegckaaGreatDoor
