/- (*asm.reader).read; what asm.Read reads, in plain Lean. -/
import Derived.Test.YtkdnbnkbnegckaaGreatDoorArx
namespace Go.Proofs.YtkdnbnkbnegckaaGreatDoor
open Go.RowKit
set_option maxRecDepth 20000
set_option linter.unusedVariables false
theorem reader_read (lo r : Nat) (st : RSt) (s : List UInt8) (m : Int) (W : World) (hr : r < lo + 7) (hlo : lo + 7 ≤ W.heap.size) (hm : W.cell? ⟨0, 0, none⟩ = some (.int .i64 m)) (hl : s.length ≤ 1000000) (hN : st.1.length ≤ 1000000) (hC : ∀ f, st.2 = some f → (codeOf f).length ≤ 1000000 ∧ (linesOfF f).length ≤ 1000000) (h : RInv lo r W st) :
    Calls Tryz.prog 42 #[.pointer (some ⟨r, 0, none⟩), .string (strB s)] W (ReadR lo r st s W) := by
  by_cases hs : s = []
  · have e1 : readStep st s = (st, 0) := by unfold readStep; rw [if_pos hs]
    have HR : Hid (∀ e W', e = .returned (.int .i64 0) → RInv lo r W' st → StepX (Xr lo r) W W' → ReadR lo r st s W e W') := Lib.hid fun e W' h1 h2 h3 => by unfold ReadR; rw [e1]; exact ⟨h1, h2, h3⟩
    have hq : ∀ P, ReadR lo r st s W = P → ReadR lo r st s W = P := fun _ h => h
    generalize ReadR lo r st s W = RH at *
    have t0 : (strB s).toList.isEmpty = true := by rw [ByteArray.toList_eq, strB_toL, hs]; rfl
    have H := Lib.hid h
    clear h hs e1 hq
    go_enter Tryz.func42, Tryz.ntmps42
    go_wp2_with fail
    exact HR.out _ _ rfl H.out (StepX.refl _ _)
  · obtain ⟨fs, o⟩ := st
    cases o with
    | none => exact read_none lo r fs s W hr hlo hl hN hs h
    | some f => exact read_some lo r fs f s m W hr hlo hm hl hN (hC f rfl).1 (hC f rfl).2 hs h
/-- The state ahead of line number i. -/
def stAt (ls : List (List UInt8)) (i : Nat) : RSt := (ls.take i).foldl (fun st x => (readStep st x).1) ([], none)
def errAt (ls : List (List UInt8)) (i : Nat) : Int := (readStep (stAt ls i) (ls[i]?.getD [])).2
theorem stAt_succ {ls : List (List UInt8)} {i : Nat} (h : i < ls.length) : stAt ls (i + 1) = (readStep (stAt ls i) ls[i]).1 := by
  rw [stAt, List.take_succ_eq_append_getElem h, List.foldl_append]
  rfl
theorem errAt_is {ls : List (List UInt8)} {i : Nat} (h : i < ls.length) : errAt ls i = (readStep (stAt ls i) ls[i]).2 := by
  rw [errAt, List.getElem?_eq_getElem h]
  rfl
theorem stAt_small (ls : List (List UInt8)) (i : Nat) : (stAt ls i).1.length ≤ i ∧ ∀ f, (stAt ls i).2 = some f → (codeOf f).length ≤ i ∧ (linesOfF f).length ≤ i := by
  induction i with
  | zero => exact ⟨Nat.le_refl _, fun f hf => by cases hf⟩
  | succ i ih =>
    by_cases h : i < ls.length
    · rw [stAt_succ h]
      generalize stAt ls i = st at *
      obtain ⟨fs, o⟩ := st
      unfold readStep
      split
      · exact ⟨by have := ih.1; dsimp only at this ⊢; omega, fun f hf => by have := ih.2 f hf; omega⟩
      · cases o with
        | none =>
          dsimp only
          split
          · refine ⟨by have := ih.1; simpa using Nat.le_succ_of_le this, fun f hf => ?_⟩
            cases hf
            have hb := headF_bare ls[i]
            unfold codeOf linesOfF
            rw [hb]
            exact ⟨Nat.zero_le _, Nat.zero_le _⟩
          · exact ⟨by have := ih.1; dsimp only at this ⊢; omega, fun f hf => by cases hf⟩
        | some f =>
          have h2 := ih.2 f rfl
          have h1 := ih.1
          dsimp only at h1 ⊢
          split
          · refine ⟨by simpa using h1, fun g hg => by cases hg⟩
          · split
            · refine ⟨by dsimp only; omega, fun g hg => ?_⟩
              cases hg
              have e1 : codeOf (addLine f (lineI ls[i]).1 (lineI ls[i]).2.1) = codeOf f ++ [(lineI ls[i]).1] := rfl
              have e2 : linesOfF (addLine f (lineI ls[i]).1 (lineI ls[i]).2.1) = linesOfF f ++ [(lineI ls[i]).2.1] := rfl
              rw [e1, e2]
              simp
              omega
            · exact ⟨by dsimp only; omega, fun g hg => by cases hg; omega⟩
    · have e : stAt ls (i + 1) = stAt ls i := by rw [stAt, stAt, List.take_of_length_le (by omega), List.take_of_length_le (by omega)]
      rw [e]
      exact ⟨by have := ih.1; omega, fun f hf => by have := ih.2 f hf; omega⟩
theorem nl_elem (s : List UInt8) : ∀ x ∈ splitNl s, x.length ≤ s.length := by
  induction s with
  | nil => intro x hx; simp [splitNl] at hx; simp [hx]
  | cons c s ih =>
    intro x hx
    rw [splitNl] at hx
    split at hx
    · rcases List.mem_cons.1 hx with rfl | hx
      · simp
      · have := ih x hx
        simp
        omega
    · split at hx
      · obtain rfl := List.mem_singleton.1 hx
        simp
      · rename_i p ps hp
        rcases List.mem_cons.1 hx with rfl | hx
        · have := ih p (by rw [hp]; exact List.mem_cons_self ..)
          simpa using this
        · have := ih x (by rw [hp]; exact List.mem_cons_of_mem _ hx)
          simp
          omega
/-- What asm.Read tells: of lines ls, where file.Can tells c of the functions. -/
inductive Reads (ls : List (List UInt8)) (c : Int) : List Fn × (Int × Int) → Prop where
  | bad (i : Nat) (hi : i < ls.length) (h : ∀ j, j < i → errAt ls j = 0) (he : errAt ls i ≠ 0) : Reads ls c ([], ((i : Int) + 1, errAt ls i))
  | short (f : Fn) (h : ∀ j, j < ls.length → errAt ls j = 0) (hs : (stAt ls ls.length).2 = some f) : Reads ls c ([], ((ls.length : Int), 3))
  | cannot (h : ∀ j, j < ls.length → errAt ls j = 0) (hs : (stAt ls ls.length).2 = none) (hc : c ≠ 0) : Reads ls c ([], (0, c))
  | ok (h : ∀ j, j < ls.length → errAt ls j = 0) (hs : (stAt ls ls.length).2 = none) (hc : c = 0) : Reads ls c ((stAt ls ls.length).1, (0, 0))
def whoB (B : Nat) : Nat → Who := fun b => if B ≤ b then .frozen else .other
theorem whoB_ge {B b : Nat} (h : whoB B b = .frozen) : B ≤ b := by
  unfold whoB at h
  split at h
  · assumption
  · cases h
theorem RInv.rep {lo r : Nat} {W : World} {fs : List Fn} (h : RInv lo r W (fs, none)) : ∃ v, W.heap[r]? = some (.cells #[v, .bool false] 75 (0, 0)) ∧ RepC W (whoB (lo + 7)) (.fz 11 (encL tF fs)) v ∧ (∃ ao n cap, v = .slice ao n cap) := by
  obtain ⟨who, v, css, ocs, h⟩ := h
  obtain rfl := h.noo rfl
  have hrow := h.row
  simp only [List.append_nil, Option.toList_none, List.length_nil, Nat.add_zero] at hrow
  obtain ⟨ao, cap, rfl⟩ := own_form hrow
  refine ⟨_, h.box, own_rep hrow (encL_len _) (by decide) (fun e he => by obtain ⟨n, -, rfl⟩ := List.mem_map.1 he; rfl) ?_ (fun b hb => if_pos (hrow.lt b hb).1), _, _, _, rfl⟩
  have key : ∀ {fs : List Fn} {css : List (List Value)}, css.length = fs.length → (∀ j (h : j < fs.length), ∃ cs, css[j]? = some cs ∧ RepCs W who (enc tF fs[j]) cs) → RepCs W (whoB (lo + 7)) (encL tF fs).flatten css.flatten := by
    intro fs
    induction fs with
    | nil =>
      intro css hl _
      obtain rfl : css = [] := List.eq_nil_of_length_eq_zero hl
      exact ⟨rfl, fun i c u h1 _ => by rw [show (encL tF []).flatten = [] from rfl] at h1; simp at h1⟩
    | cons f fs ih =>
      intro css hl hd
      cases css with
      | nil => cases hl
      | cons c css =>
        obtain ⟨cs, h1, h2⟩ := hd 0 (by simp)
        cases h1
        have h3 := ih (css := css) (by simpa using hl) (fun j hj => by
          obtain ⟨cs, h4, h5⟩ := hd (j + 1) (by simpa using hj)
          exact ⟨cs, by simpa using h4, by simpa using h5⟩)
        rw [← encL_cons, List.flatten_cons, List.flatten_cons]
        have h2' : RepCs W (whoB (lo + 7)) (enc tF f) c := h2.mono fun b hb => if_pos (h.fro b hb).1
        refine ⟨by rw [List.length_append, List.length_append, h2'.1, h3.1], fun i x u hx hu => ?_⟩
        by_cases hi : i < c.length
        · rw [List.getElem?_append_left (by rw [h2'.1]; exact hi)] at hx
          rw [List.getElem?_append_left hi] at hu
          exact h2'.2 i x u hx hu
        · rw [List.getElem?_append_right (by rw [h2'.1]; omega), h2'.1] at hx
          rw [List.getElem?_append_right (by omega)] at hu
          exact h3.2 _ x u hx hu
  exact key h.len h.don
end Go.Proofs.YtkdnbnkbnegckaaGreatDoor
