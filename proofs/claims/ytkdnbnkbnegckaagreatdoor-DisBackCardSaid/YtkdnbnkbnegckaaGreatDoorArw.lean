/- A region that draws its order and writes, in its last operations, what it has read: a condition on the world holds up to the first of the stores. (*asm.reader).read, walked. -/
import Derived.Test.YtkdnbnkbnegckaaGreatDoorBase
import Derived.Test.YtkdnbnkbnegckaaGreatDoorArd
namespace Go.Proofs.YtkdnbnkbnegckaaGreatDoor
open Go.RowKit
set_option linter.unusedVariables false
variable {P : Program} {ops : Array Oper} {Q : Exit → Act → World → Prop} {md : Region.Mode} {S : World → Prop} {st : Nat}
/-- Whatever order is picked; S holds behind each operation up to number st; behind it nothing is held. -/
def wpAnyL (P : Program) (md : Region.Mode) (ops : Array Oper) (Q : Exit → Act → World → Prop) (S : World → Prop) (st : Nat) : Nat → Array Bool → Act → World → Prop
  | 0, listed, a, w => Region.ready md ops listed = [] ∧ Q .normal a w
  | fuel + 1, listed, a, w =>
    (Region.ready md ops listed = [] → Q .normal a w) ∧
    ∀ i ∈ Region.ready md ops listed, wpOp P ops Q i (fun a' w' => if i = st then wpAny P md ops Q fuel (listed.setIfInBounds i true) a' w' else S w' ∧ wpAnyL P md ops Q S st fuel (listed.setIfInBounds i true) a' w') a w
theorem wpAny_of_L : ∀ (fuel : Nat) (listed : Array Bool) (a : Act) (w : World), wpAnyL P md ops Q S st fuel listed a w → wpAny P md ops Q fuel listed a w
  | 0, _, _, _, h => h
  | fuel + 1, _, _, _, h => ⟨h.1, fun i hi => wpOp_mono (fun a' w' h' => by
      by_cases he : i = st
      · rw [if_pos he] at h'; exact h'
      · rw [if_neg he] at h'; exact wpAny_of_L fuel _ a' w' h'.2) (h.2 i hi)⟩
/-- An operation that yields in every world that meets S, and for which number st waits. -/
theorem wpAnyL_first {i : Nat} {oi : Oper} {v : Value} (hi : ops[i]? = some oi) (hsel : ∀ (j : Nat) (o : Oper) cs b, ops[j]? = some o → o.op ≠ .select cs b)
    (hQ : ∀ c a w, Q (.panic c) (a.put oi.dst v) w → Q (.panic c) a w) {ost : Oper} (hst : ops[st]? = some ost) (hw : ∃ e ∈ ost.after, Region.binds md e = true ∧ e.on = i) :
    ∀ (fuel : Nat) (listed : Array Bool) (a : Act) (w : World),
      (∀ j oj, ops[j]? = some oj → j ≠ i → listed.getD j true = false → (∀ e ∈ oj.after, Region.binds md e = true → e.on ≠ i) → oi.apart ops oj = true) →
      i ∈ Region.ready md ops listed → YieldsIf P ops S oi v a → S w →
      wpAnyL P md ops Q S st fuel (listed.setIfInBounds i true) (a.put oi.dst v) w → wpAnyL P md ops Q S st (fuel + 1) listed a w := by
  intro fuel
  have key : ∀ {listed : Array Bool} {j : Nat} {oj : Oper}, i ∈ Region.ready md ops listed → (∀ e ∈ oj.after, Region.binds md e = true → listed.getD e.on false = true) → ∀ e ∈ oj.after, Region.binds md e = true → e.on ≠ i := fun {listed j oj} hr hall e he hb heq => by
    have h1 := hall e he hb
    have h0 := (mem_ready.1 hr).1
    rw [heq] at h1
    rcases Nat.lt_or_ge i listed.size with h' | h'
    · simp [h'] at h0 h1; rw [h0] at h1; cases h1
    · simp [Array.getElem?_eq_none h'] at h1
  have ist : ∀ {listed : Array Bool} {j : Nat}, i ∈ Region.ready md ops listed → j ∈ Region.ready md ops listed → j ≠ st := fun {listed j} hr hj e => by
    obtain ⟨-, oj, hoj, hall⟩ := mem_ready.1 hj
    rw [e, hst] at hoj
    cases hoj
    obtain ⟨e, he, hb, ho⟩ := hw
    exact key (j := st) hr hall e he hb ho
  induction fuel with
  | zero =>
    intro listed a w _ hr hy hS H
    refine ⟨fun h => (by rw [h] at hr; cases hr), fun j hj => ?_⟩
    by_cases hji : j = i
    · subst hji; exact hy.wpOp hi hS (by rw [if_neg (ist hr hj)]; exact ⟨hS, H⟩)
    · have := ready_mono hj hji
      rw [H.1] at this
      cases this
  | succ fuel ih =>
    intro listed a w hfree hr hy hS H
    refine ⟨fun h => (by rw [h] at hr; cases hr), fun j hj => ?_⟩
    by_cases hji : j = i
    · subst hji; exact hy.wpOp hi hS (by rw [if_neg (ist hr hj)]; exact ⟨hS, H⟩)
    · have h1 := H.2 j (ready_mono hj hji)
      obtain ⟨hjun, oj, hoj, hall⟩ := mem_ready.1 hj
      have hnot := key (j := j) hr hall
      have h2 := wpOp_putIf hoj (hfree j oj hoj hji hjun hnot) (fun cs b => hsel i oi cs b hi) (fun cs b => hsel j oj cs b hoj) hQ hy h1
      have hfree' : ∀ k ok, ops[k]? = some ok → k ≠ i → (listed.setIfInBounds j true).getD k true = false →
          (∀ e ∈ ok.after, Region.binds md e = true → e.on ≠ i) → oi.apart ops ok = true := fun k ok hk hki hun hno => by
        refine hfree k ok hk hki ?_ hno
        by_cases hjk : j = k
        · subst hjk; exact hjun
        · rw [getD_set_ne true hjk] at hun; exact hun
      have hjs := ist hr hj
      refine wpOp_mono (fun a' w' h3 => ?_) h2
      rw [if_neg hjs] at h3 ⊢
      refine ⟨h3.2.1, ih (listed.setIfInBounds j true) a' w' hfree' (ready_mono hr (Ne.symm hji)) h3.1 h3.2.1 ?_⟩
      rw [Array.setIfInBounds_comm _ _ hji]
      exact h3.2.2
/-- An operation that yields in whatever world. -/
theorem wpAnyL_firstY {i : Nat} {oi : Oper} {v : Value} (hi : ops[i]? = some oi) (hsel : ∀ (j : Nat) (o : Oper) cs b, ops[j]? = some o → o.op ≠ .select cs b)
    (hQ : ∀ c a w, Q (.panic c) (a.put oi.dst v) w → Q (.panic c) a w) (his : i ≠ st) :
    ∀ (fuel : Nat) (listed : Array Bool) (a : Act) (w : World),
      (∀ j oj, ops[j]? = some oj → j ≠ i → listed.getD j true = false → (∀ e ∈ oj.after, Region.binds md e = true → e.on ≠ i) → oi.apart ops oj = true) →
      i ∈ Region.ready md ops listed → Yields P ops oi v a → S w →
      wpAnyL P md ops Q S st fuel (listed.setIfInBounds i true) (a.put oi.dst v) w → wpAnyL P md ops Q S st (fuel + 1) listed a w := by
  intro fuel
  have key : ∀ {listed : Array Bool} {j : Nat} {oj : Oper}, i ∈ Region.ready md ops listed → (∀ e ∈ oj.after, Region.binds md e = true → listed.getD e.on false = true) → ∀ e ∈ oj.after, Region.binds md e = true → e.on ≠ i := fun {listed j oj} hr hall e he hb heq => by
    have h1 := hall e he hb
    have h0 := (mem_ready.1 hr).1
    rw [heq] at h1
    rcases Nat.lt_or_ge i listed.size with h' | h'
    · simp [h'] at h0 h1; rw [h0] at h1; cases h1
    · simp [Array.getElem?_eq_none h'] at h1
  induction fuel with
  | zero =>
    intro listed a w _ hr hy hS H
    refine ⟨fun h => (by rw [h] at hr; cases hr), fun j hj => ?_⟩
    by_cases hji : j = i
    · subst hji; exact hy.wpOp hi (by rw [if_neg his]; exact ⟨hS, H⟩)
    · have := ready_mono hj hji
      rw [H.1] at this
      cases this
  | succ fuel ih =>
    intro listed a w hfree hr hy hS H
    refine ⟨fun h => (by rw [h] at hr; cases hr), fun j hj => ?_⟩
    by_cases hji : j = i
    · subst hji; exact hy.wpOp hi (by rw [if_neg his]; exact ⟨hS, H⟩)
    · have h1 := H.2 j (ready_mono hj hji)
      obtain ⟨hjun, oj, hoj, hall⟩ := mem_ready.1 hj
      have hnot := key (j := j) hr hall
      have h2 := wpOp_put hoj (hfree j oj hoj hji hjun hnot) (fun cs b => hsel i oi cs b hi) (fun cs b => hsel j oj cs b hoj) hQ hy h1
      have hfree' : ∀ k ok, ops[k]? = some ok → k ≠ i → (listed.setIfInBounds j true).getD k true = false →
          (∀ e ∈ ok.after, Region.binds md e = true → e.on ≠ i) → oi.apart ops ok = true := fun k ok hk hki hun hno => by
        refine hfree k ok hk hki ?_ hno
        by_cases hjk : j = k
        · subst hjk; exact hjun
        · rw [getD_set_ne true hjk] at hun; exact hun
      refine wpOp_mono (fun a' w' h3 => ?_) h2
      by_cases hjs : j = st
      · rw [if_pos hjs] at h3 ⊢
        refine wpAny_first hi hsel hQ fuel (listed.setIfInBounds j true) a' w' hfree' (ready_mono hr (Ne.symm hji)) h3.1 ?_
        rw [Array.setIfInBounds_comm _ _ hji]
        exact h3.2
      · rw [if_neg hjs] at h3 ⊢
        refine ⟨h3.2.1, ih (listed.setIfInBounds j true) a' w' hfree' (ready_mono hr (Ne.symm hji)) h3.1 h3.2.1 ?_⟩
        rw [Array.setIfInBounds_comm _ _ hji]
        exact h3.2.2
theorem takeL_op {l : List Oper} (i : Nat) {oi ost : Oper} {v : Value} {fuel : Nat} {listed : Array Bool} {a : Act} {w : World} (hi : l[i]? = some oi) (hst : l[st]? = some ost) (hw : ost.after.any (fun e => Region.binds md e && e.on == i) = true)
    (hs : Region.noSelect l.toArray = true) (hf : Region.free md l.toArray listed i = true) (hr : (Region.ready md l.toArray listed).contains i = true)
    (hy : YieldsIf P l.toArray S oi v a) (hS : S w)
    (h : wpAnyL P md l.toArray (NoPanic Q) S st fuel (listed.setIfInBounds i true) (a.put oi.dst v) w) : wpAnyL P md l.toArray (NoPanic Q) S st (fuel + 1) listed a w :=
  wpAnyL_first (ost := ost) (by simpa using hi) (Region.noSelect_spec hs) (fun _ _ _ h => h) (by simpa using hst) (by
    obtain ⟨k, hk, h1⟩ := Array.any_eq_true.1 hw
    simp only [Bool.and_eq_true, beq_iff_eq] at h1
    exact ⟨_, Array.getElem_mem hk, h1.1, h1.2⟩) fuel listed a w (Region.free_spec (by simpa using hi) hf) (by simpa using hr) hy hS h
theorem takeLY_op {l : List Oper} (i : Nat) {oi : Oper} {v : Value} {fuel : Nat} {listed : Array Bool} {a : Act} {w : World} (hi : l[i]? = some oi) (his : i ≠ st)
    (hs : Region.noSelect l.toArray = true) (hf : Region.free md l.toArray listed i = true) (hr : (Region.ready md l.toArray listed).contains i = true)
    (hy : Yields P l.toArray oi v a) (hS : S w)
    (h : wpAnyL P md l.toArray (NoPanic Q) S st fuel (listed.setIfInBounds i true) (a.put oi.dst v) w) : wpAnyL P md l.toArray (NoPanic Q) S st (fuel + 1) listed a w :=
  wpAnyL_firstY (by simpa using hi) (Region.noSelect_spec hs) (fun _ _ _ h => h) his fuel listed a w (Region.free_spec (by simpa using hi) hf) (by simpa using hr) hy hS h
def AllL (P : Program) (md : Region.Mode) (ops : Array Oper) (Q : Exit → Act → World → Prop) (S : World → Prop) (st : Nat) (fuel : Nat) (listed : Array Bool) (a : Act) (w : World) (rs : List Nat) : Prop :=
  ∀ i ∈ rs, wpOp P ops Q i (fun a' w' => if i = st then wpAny P md ops Q fuel (listed.setIfInBounds i true) a' w' else S w' ∧ wpAnyL P md ops Q S st fuel (listed.setIfInBounds i true) a' w') a w
theorem AllL.nil {fuel : Nat} {listed : Array Bool} {a : Act} {w : World} : AllL P md ops Q S st fuel listed a w [] := fun _ h => by cases h
theorem AllL.cons {fuel : Nat} {listed : Array Bool} {a : Act} {w : World} {i : Nat} {o : Oper} {rs : List Nat} (ho : ops[i]? = some o) (his : i ≠ st)
    (h : ∀ K' : Act → World → Prop, Shut (∀ a w, S w → (S w → wpAnyL P md ops Q S st fuel (listed.setIfInBounds i true) a w) → K' a w) → if Region.wanted o (yielded ops a.tmps) = true then Oper.wp P o a w K' Q else K' (a.put o.dst undef) w)
    (hs : AllL P md ops Q S st fuel listed a w rs) : AllL P md ops Q S st fuel listed a w (i :: rs) := fun j hj => by
  rcases List.mem_cons.1 hj with rfl | hj
  · exact wpOp_step ho (fun K' hK => h K' (fun a w hS hW => hK a w (by rw [if_neg his]; exact ⟨hS, hW hS⟩)))
  · exact hs j hj
theorem doL_op {l : List Oper} (i : Nat) {o : Oper} {fuel : Nat} {listed : Array Bool} {a : Act} {w : World} (hi : l[i]? = some o) (his : i ≠ st) (hr : Region.ready md l.toArray listed = [i])
    (h : ∀ K' : Act → World → Prop, Shut (∀ a w, S w → (S w → wpAnyL P md l.toArray (NoPanic Q) S st fuel (listed.setIfInBounds i true) a w) → K' a w) → if Region.wanted o (yielded l.toArray a.tmps) = true then Oper.wp P o a w K' (NoPanic Q) else K' (a.put o.dst undef) w) :
    wpAnyL P md l.toArray (NoPanic Q) S st (fuel + 1) listed a w :=
  ⟨fun h0 => absurd (hr ▸ h0) (by simp), hr ▸ AllL.cons (by simpa using hi) his h AllL.nil⟩
theorem doL_op2 {l : List Oper} (i j : Nat) {o o' : Oper} {fuel : Nat} {listed : Array Bool} {a : Act} {w : World} (hi : l[i]? = some o) (hj : l[j]? = some o') (his : i ≠ st) (hjs : j ≠ st) (hr : Region.ready md l.toArray listed = [i, j])
    (h : ∀ K' : Act → World → Prop, Shut (∀ a w, S w → (S w → wpAnyL P md l.toArray (NoPanic Q) S st fuel (listed.setIfInBounds i true) a w) → K' a w) → if Region.wanted o (yielded l.toArray a.tmps) = true then Oper.wp P o a w K' (NoPanic Q) else K' (a.put o.dst undef) w)
    (h' : ∀ K' : Act → World → Prop, Shut (∀ a w, S w → (S w → wpAnyL P md l.toArray (NoPanic Q) S st fuel (listed.setIfInBounds j true) a w) → K' a w) → if Region.wanted o' (yielded l.toArray a.tmps) = true then Oper.wp P o' a w K' (NoPanic Q) else K' (a.put o'.dst undef) w) :
    wpAnyL P md l.toArray (NoPanic Q) S st (fuel + 1) listed a w :=
  ⟨fun h0 => absurd (hr ▸ h0) (by simp), hr ▸ AllL.cons (by simpa using hi) his h (AllL.cons (by simpa using hj) hjs h' AllL.nil)⟩
/-- The first of the stores: behind it nothing is held. -/
theorem doL_st {l : List Oper} {o : Oper} {fuel : Nat} {listed : Array Bool} {a : Act} {w : World} (hi : l[st]? = some o) (hr : Region.ready md l.toArray listed = [st])
    (h : ∀ K' : Act → World → Prop, Shut (∀ a w, wpAnyH P md l.toArray (NoPanic Q) (fun _ => True) fuel (listed.setIfInBounds st true) a w → K' a w) → if Region.wanted o (yielded l.toArray a.tmps) = true then Oper.wp P o a w K' (NoPanic Q) else K' (a.put o.dst undef) w) :
    wpAnyL P md l.toArray (NoPanic Q) S st (fuel + 1) listed a w :=
  ⟨fun h0 => absurd (hr ▸ h0) (by simp), hr ▸ fun j hj => by
    rcases List.mem_cons.1 hj with rfl | hj
    · exact wpOp_step (by simpa using hi) (fun K' hK => h K' (fun a w hW => hK a w (by rw [if_pos rfl]; exact wpAny_of_held _ _ _ _ hW)))
    · cases hj⟩
theorem wp_region_L {ops : Array Oper} {id : Nat} {a : Act} {w : World} (st : Nat) (S : World → Prop) (hm : P.follows .mixedOrders = true) (hS : S w.drew) (h : S w.drew → wpAnyL P .any ops (NoPanic Q) S st ops.size (Array.replicate ops.size false) a w.drew) : (Code.region id ops true).wp P Q a w :=
  wp_region_noPanic (wp_region_any hm (wpAny_of_L _ _ _ _ (h hS)))
end Go.Proofs.YtkdnbnkbnegckaaGreatDoor
namespace Go.Proofs.YtkdnbnkbnegckaaGreatDoor
open Go.RowKit
set_option maxRecDepth 20000
set_option linter.unusedVariables false
theorem K_alloc {K : Act → World → Prop} {a : Act} {X : World} {o : Obj} (h : ∀ wq, Ext X wq → wq.heap[X.heap.size]? = some o → K a wq) : K a (X.alloc o) := h _ ((Ext.rf X).al o) (alloc_new X o)
def Xr (lo r : Nat) : Nat → Prop := fun k => k = r ∨ lo + 7 ≤ k
theorem StepX.grow {X : Nat → Prop} {A B C : World} {v v' : Value} {base n sz : Nat} {e : TypeId} {xs : List Value} (h : StepX X A B) (hown : B.ownsRow base e sz v n xs) (hg : Grow B C v v') (hX : ∀ k, base ≤ k → X k) : StepX X A C :=
  h.trans ⟨hg.os, hg.tape, hg.output, hg.size, fun k hk hx => hg.block k hk fun e => hx (hX k (hown.lt k e.symm).1)⟩
def ReadR (lo r : Nat) (st : RSt) (s : List UInt8) (W : World) (e : Ending) (W' : World) : Prop := e = .returned (.int .i64 (readStep st s).2) ∧ RInv lo r W' (readStep st s).1 ∧ StepX (Xr lo r) W W'
set_option maxHeartbeats 8000000 in
theorem read_none (lo r : Nat) (fs : List Fn) (s : List UInt8) (W : World) (hr : r < lo + 7) (hlo : lo + 7 ≤ W.heap.size) (hl : s.length ≤ 1000000) (hN : fs.length ≤ 1000000) (hs : s ≠ []) (h : RInv lo r W (fs, none)) :
    Calls Tryz.prog 42 #[.pointer (some ⟨r, 0, none⟩), .string (strB s)] W (ReadR lo r (fs, none) s W) := by
  obtain ⟨who, v, css, ocs, hI⟩ := h
  obtain rfl := hI.noo rfl
  have HI := Lib.hid hI
  have HHD := Lib.hid (asm_Head s W hl)
  have t0 : (strB s).toList.isEmpty = false := by
    rw [ByteArray.toList_eq, strB_toL]
    cases s with
    | nil => exact absurd rfl hs
    | cons => rfl
  have b1 : W.cell? ⟨r, 1, none⟩ = some (.bool false) := blk hI.box 1 rfl
  have HR : Hid (∀ e W', (headE s ≠ 0 → e = .returned (.int .i64 (headE s)) → RInv lo r W' (fs, none) → StepX (Xr lo r) W W' → ReadR lo r (fs, none) s W e W') ∧ (headE s = 0 → e = .returned (.int .i64 0) → RInv lo r W' (fs, some (headF s)) → StepX (Xr lo r) W W' → ReadR lo r (fs, none) s W e W')) := Lib.hid fun e W' => by
    have e1 : readStep (fs, none) s = if headE s = 0 then ((fs, some (headF s)), 0) else ((fs, none), headE s) := by unfold readStep; rw [if_neg hs]
    refine ⟨fun h1 h2 h3 h4 => ?_, fun h1 h2 h3 h4 => ?_⟩
    · unfold ReadR; rw [e1, if_neg h1]; exact ⟨h2, h3, h4⟩
    · unfold ReadR; rw [e1, if_pos h1]; exact ⟨h2, h3, h4⟩
  have hq : ∀ P, ReadR lo r (fs, none) s W = P → ReadR lo r (fs, none) s W = P := fun _ h => h
  generalize ReadR lo r (fs, none) s W = RH at *
  clear hq hI hs
  go_enter Tryz.func42, Tryz.ntmps42
  go_wp2_with fail
  refine HHD.out.mono ?_
  rintro e W1 ⟨cs, rfl, hR, hx⟩
  obtain ⟨v2, v3, v4, v5, rfl, h2, h3, h4, h5⟩ := hR
  obtain ⟨a2, n2, q2, rfl⟩ := h2.form
  obtain ⟨a3, n3, q3, rfl⟩ := h3.form
  obtain ⟨a4, n4, q4, rfl⟩ := h4.form
  obtain ⟨a5, n5, q5, rfl⟩ := h5.form
  have HHR : Hid (HeadR W.heap.size W1 (headF s) [.string (strB (headF s).1), .bool (headF s).2.1, .slice a2 n2 q2, .slice a3 n3 q3, .slice a4 n4 q4, .slice a5 n5 q5, .slice none 0 0, .slice none 0 0, .slice none 0 0, .slice none 0 0, .slice none 0 0]) := Lib.hid ⟨_, _, _, _, rfl, h2, h3, h4, h5⟩
  have HX := Lib.hid hx
  clear h2 h3 h4 h5 hx b1 t0 HHD
  by_cases h0 : headE s = 0
  · have t1 : (headE s == 0) = true := by rw [h0]; rfl
    have HE := Lib.hid h0
    clear h0
    go_wp2_with fail
    have hTT := alloc_new W1 (.cells #[.string (strB (headF s).1), .bool (headF s).2.1, .slice a2 n2 q2, .slice a3 n3 q3, .slice a4 n4 q4, .slice a5 n5 q5, .slice none 0 0, .slice none 0 0, .slice none 0 0, .slice none 0 0, .slice none 0 0] 35)
    have HXA := Lib.hid ((Ext.rf W1).al (.cells #[.string (strB (headF s).1), .bool (headF s).2.1, .slice a2 n2 q2, .slice a3 n3 q3, .slice a4 n4 q4, .slice a5 n5 q5, .slice none 0 0, .slice none 0 0, .slice none 0 0, .slice none 0 0, .slice none 0 0] 35))
    have hBB := HXA.out.blk (HX.out.blk HI.out.box)
    have HOW0 := Lib.hid (own_ext (own_ext HI.out.row HX.out) HXA.out)
    have HSA : Hid ((W1.alloc (.cells #[.string (strB (headF s).1), .bool (headF s).2.1, .slice a2 n2 q2, .slice a3 n3 q3, .slice a4 n4 q4, .slice a5 n5 q5, .slice none 0 0, .slice none 0 0, .slice none 0 0, .slice none 0 0, .slice none 0 0] 35)).heap.size = W1.heap.size + 1) := Lib.hid (by simp)
    generalize W1.alloc (.cells #[.string (strB (headF s).1), .bool (headF s).2.1, .slice a2 n2 q2, .slice a3 n3 q3, .slice a4 n4 q4, .slice a5 n5 q5, .slice none 0 0, .slice none 0 0, .slice none 0 0, .slice none 0 0, .slice none 0 0] 35) = W2 at *
    have HB3 : Hid (W2.drew.heap[r]? = some (.cells #[v, .bool false] 75 (0, 0))) := Lib.hid hBB
    have HOW : Hid (W2.drew.ownsRow (lo + 7) 35 11 v fs.length css.flatten) := Lib.hid (by have := HOW0.out.drew; simpa using this)
    have hlo5 : Hid (lo + 7 ≤ W2.drew.heap.size) := Lib.hid (by have := HX.out.size; have := HSA.out; show lo + 7 ≤ W2.heap.size; omega)
    have hTD : W2.drew.heap[W1.heap.size]? = some (.cells #[.string (strB (headF s).1), .bool (headF s).2.1, .slice a2 n2 q2, .slice a3 n3 q3, .slice a4 n4 q4, .slice a5 n5 q5, .slice none 0 0, .slice none 0 0, .slice none 0 0, .slice none 0 0, .slice none 0 0] 35 (0, 0)) := hTT
    have HT3 : Hid (∀ {vn : Value} {w3 : World}, Grow W2.drew w3 v vn → w3.heap[W1.heap.size]? = some (.cells #[.string (strB (headF s).1), .bool (headF s).2.1, .slice a2 n2 q2, .slice a3 n3 q3, .slice a4 n4 q4, .slice a5 n5 q5, .slice none 0 0, .slice none 0 0, .slice none 0 0, .slice none 0 0, .slice none 0 0] 35 (0, 0))) := Lib.hid fun hg => (hg.block _ (by have := HSA.out; show W1.heap.size < W2.heap.size; omega) (fun e => by have := (HI.out.row.lt _ e.symm).2; have := HX.out.size; omega)).trans hTD
    clear hTT hBB
    refine wp_region_L 13 (fun W => W.heap[r]? = some (.cells #[v, .bool false] 75 (0, 0)) ∧ W.heap[W1.heap.size]? = some (.cells #[.string (strB (headF s).1), .bool (headF s).2.1, .slice a2 n2 q2, .slice a3 n3 q3, .slice a4 n4 q4, .slice a5 n5 q5, .slice none 0 0, .slice none 0 0, .slice none 0 0, .slice none 0 0, .slice none 0 0] 35 (0, 0))) (by kernel_rfl) ⟨HB3.out, hTD⟩ (fun hS => ?_)
    generalize hWD : W2.drew = WD at *
    refine takeL_op 0 (v := ?_) rfl rfl (by kernel_rfl) (by kernel_rfl) (by kernel_rfl) (by kernel_rfl) (Or.inl ⟨by rfl, ?_⟩) (by assumption) ?_
    rotate_left 1
    · (intro W hS; go_simp; try with_reducible rfl)
    (try simp only [Act.put, List.setIfInBounds_toArray, List.set_cons_zero, List.set_cons_succ])
    refine takeLY_op 1 (v := ?_) rfl (by decide) (by kernel_rfl) (by kernel_rfl) (by kernel_rfl) (Or.inl ⟨by rfl, ?_⟩) (by assumption) ?_
    rotate_left 1
    · (intro W; go_simp; try with_reducible rfl)
    (try simp only [Act.put, List.setIfInBounds_toArray, List.set_cons_zero, List.set_cons_succ])
    refine takeL_op 2 (v := ?_) rfl rfl (by kernel_rfl) (by kernel_rfl) (by kernel_rfl) (by kernel_rfl) (Or.inl ⟨by rfl, ?_⟩) (by assumption) ?_
    rotate_left 1
    · (intro W hS; go_simp; try with_reducible rfl)
    (try simp only [Act.put, List.setIfInBounds_toArray, List.set_cons_zero, List.set_cons_succ])
    refine takeL_op 3 (v := ?_) rfl rfl (by kernel_rfl) (by kernel_rfl) (by kernel_rfl) (by kernel_rfl) (Or.inl ⟨by rfl, ?_⟩) (by assumption) ?_
    rotate_left 1
    · (intro W hS; go_simp; try with_reducible rfl)
    (try simp only [Act.put, List.setIfInBounds_toArray, List.set_cons_zero, List.set_cons_succ])
    refine takeL_op 4 (v := ?_) rfl rfl (by kernel_rfl) (by kernel_rfl) (by kernel_rfl) (by kernel_rfl) (Or.inl ⟨by rfl, ?_⟩) (by assumption) ?_
    rotate_left 1
    · (intro W hS; go_simp; try with_reducible rfl)
    (try simp only [Act.put, List.setIfInBounds_toArray, List.set_cons_zero, List.set_cons_succ])
    refine takeL_op 5 (v := ?_) rfl rfl (by kernel_rfl) (by kernel_rfl) (by kernel_rfl) (by kernel_rfl) (Or.inl ⟨by rfl, ?_⟩) (by assumption) ?_
    rotate_left 1
    · (intro W hS; go_simp; try with_reducible rfl)
    (try simp only [Act.put, List.setIfInBounds_toArray, List.set_cons_zero, List.set_cons_succ])
    refine takeL_op 6 (v := ?_) rfl rfl (by kernel_rfl) (by kernel_rfl) (by kernel_rfl) (by kernel_rfl) (Or.inl ⟨by rfl, ?_⟩) (by assumption) ?_
    rotate_left 1
    · (intro W hS; have c0 := blk hS.1 0 rfl; have d0 := blk hS.2 0 rfl; have d1 := blk hS.2 1 rfl; have d2 := blk hS.2 2 rfl; have d3 := blk hS.2 3 rfl; have d4 := blk hS.2 4 rfl; have d5 := blk hS.2 5 rfl; have d6 := blk hS.2 6 rfl; have d7 := blk hS.2 7 rfl; have d8 := blk hS.2 8 rfl; have d9 := blk hS.2 9 rfl; have d10 := blk hS.2 10 rfl; go_simp; try with_reducible rfl)
    (try simp only [Act.put, List.setIfInBounds_toArray, List.set_cons_zero, List.set_cons_succ])
    refine takeL_op 7 (v := ?_) rfl rfl (by kernel_rfl) (by kernel_rfl) (by kernel_rfl) (by kernel_rfl) (Or.inl ⟨by rfl, ?_⟩) (by assumption) ?_
    rotate_left 1
    · (intro W hS; have c0 := blk hS.1 0 rfl; have d0 := blk hS.2 0 rfl; have d1 := blk hS.2 1 rfl; have d2 := blk hS.2 2 rfl; have d3 := blk hS.2 3 rfl; have d4 := blk hS.2 4 rfl; have d5 := blk hS.2 5 rfl; have d6 := blk hS.2 6 rfl; have d7 := blk hS.2 7 rfl; have d8 := blk hS.2 8 rfl; have d9 := blk hS.2 9 rfl; have d10 := blk hS.2 10 rfl; go_simp; try with_reducible rfl)
    (try simp only [Act.put, List.setIfInBounds_toArray, List.set_cons_zero, List.set_cons_succ])
    refine doL_op 8 rfl (by decide) (by kernel_rfl) (fun K hK => ?_)
    go_simp
    refine hK.out _ _ ⟨(((Ext.rf _).al _).blk hS.1), (((Ext.rf _).al _).blk hS.2)⟩ (fun hS => ?_)
    clear hK K
    (try simp only [Act.put, List.setIfInBounds_toArray, List.set_cons_zero, List.set_cons_succ])
    refine doL_op 9 rfl (by decide) (by kernel_rfl) (fun K hK => ?_)
    refine step_push rfl (.tmp 33) (.tmp 35) 40 rfl (lo + 7) 35 35 (.agg #[.string ByteArray.empty, .bool false, .slice none 0 0, .slice none 0 0, .slice none 0 0, .slice none 0 0, .slice none 0 0, .slice none 0 0, .slice none 0 0, .slice none 0 0, .slice none 0 0]) 11 240 Tryz.underlying40 (by kernel_rfl) rfl (by decide) _ fs.length _ [.string (strB (headF s).1), .bool (headF s).2.1, .slice a2 n2 q2, .slice a3 n3 q3, .slice a4 n4 q4, .slice a5 n5 q5, .slice none 0 0, .slice none 0 0, .slice none 0 0, .slice none 0 0, .slice none 0 0] rfl HOW.out _ rfl (by simp) rfl (by simp [Value.oneCell']) (by unfold maxLen; omega) (by omega) (by have := hlo5.out; omega) ?_; intro vn w3 hown3 hgr; have hR3 := push_keeps HOW.out hgr hr HB3.out; have hT3 := HT3.out hgr; obtain ⟨an, cn, rfl⟩ := own_form hown3; have HOW3 := Lib.hid hown3; have HGR := Lib.hid hgr; clear hown3 hgr
    refine hK.out _ _ ⟨hR3, hT3⟩ (fun hS => ?_)
    clear hK K
    (try simp only [Act.put, List.setIfInBounds_toArray, List.set_cons_zero, List.set_cons_succ])
    refine takeLY_op 10 (v := ?_) rfl (by decide) (by kernel_rfl) (by kernel_rfl) (by kernel_rfl) (Or.inl ⟨by rfl, ?_⟩) (by assumption) ?_
    rotate_left 1
    · (intro W; go_simp; try with_reducible rfl)
    (try simp only [Act.put, List.setIfInBounds_toArray, List.set_cons_zero, List.set_cons_succ])
    refine takeLY_op 11 (v := ?_) rfl (by decide) (by kernel_rfl) (by kernel_rfl) (by kernel_rfl) (Or.inl ⟨by rfl, ?_⟩) (by assumption) ?_
    rotate_left 1
    · (intro W; go_simp; try with_reducible rfl)
    (try simp only [Act.put, List.setIfInBounds_toArray, List.set_cons_zero, List.set_cons_succ])
    refine takeL_op 12 (v := ?_) rfl rfl (by kernel_rfl) (by kernel_rfl) (by kernel_rfl) (by kernel_rfl) (Or.inl ⟨by rfl, ?_⟩) (by assumption) ?_
    rotate_left 1
    · (intro W hS; go_simp; try with_reducible rfl)
    (try simp only [Act.put, List.setIfInBounds_toArray, List.set_cons_zero, List.set_cons_succ])
    refine doL_st rfl (by kernel_rfl) (fun K hK => ?_)
    have cR := blk hR3 0 rfl; have fR := frozen_blk hR3 0; go_simp
    refine hK.out _ _ ?_
    clear hK K hS
    have hS := trivial
    (try simp only [Act.put, List.setIfInBounds_toArray, List.set_cons_zero, List.set_cons_succ])
    have hR4 := set_blk hR3 0 (.slice an (fs.length + 1) cn)
    refine take_op 14 (v := ?_) rfl (by kernel_rfl) (by kernel_rfl) (by kernel_rfl) (Or.inl ⟨by rfl, ?_⟩) (by assumption) ?_
    rotate_left 1
    · (intro W hS; go_simp; try with_reducible rfl)
    (try simp only [Act.put, List.setIfInBounds_toArray, List.set_cons_zero, List.set_cons_succ])
    refine take_op 15 (v := ?_) rfl (by kernel_rfl) (by kernel_rfl) (by kernel_rfl) (Or.inl ⟨by rfl, ?_⟩) (by assumption) ?_
    rotate_left 1
    · (intro W hS; go_simp; try with_reducible rfl)
    (try simp only [Act.put, List.setIfInBounds_toArray, List.set_cons_zero, List.set_cons_succ])
    refine do_op 16 rfl (by kernel_rfl) (fun K hK => ?_)
    have cQ := blk hR4 1 rfl; have fQ := frozen_blk hR4 1; go_simp
    refine hK.out _ _ trivial (fun hS => ?_)
    clear hK K
    (try simp only [Act.put, List.setIfInBounds_toArray, List.set_cons_zero, List.set_cons_succ])
    refine wpAnyH_done (by kernel_rfl) ?_ _
    refine NoPanic.normal ?_
    have hW4 := HOW3.out
    clear hS
    go_wp2_with fail
    have hS5 : ∀ (X : World) (j : Nat) (u : Value), (X.setCell ⟨r, j, none⟩ u).heap.size = X.heap.size := fun X j u => by simp [World.setCell]
    have hWDs : WD.heap.size = W1.heap.size + 1 := by rw [← hWD]; exact HSA.out
    have hg := HGR.out
    have hgs := hg.size
    have hR5 := set_blk hR4 1 (.bool true)
    refine (HR.out _ _).2 HE.out (by rw [HE.out]) (RI.head (v' := .slice an (fs.length + 1) cn) HI.out hlo hr HX.out HHR.out (headF_bare s) (by rw [hS5, hS5]; omega) (fun b hb hbr hbv => ?_) (own_keep HOW3.out fun b hb => ?_) (hg.new.imp id fun h b hb => ?_) (by simpa using hR5)) ?_
    · rw [Below.heap_setCell _ _ _ _ hbr, Below.heap_setCell _ _ _ _ hbr, hg.block b (by omega) (fun e => hbv e.symm), ← hWD]; exact HXA.out.block hb
    · have hbr : b ≠ r := fun e => by have := (HOW3.out.lt b hb).1; omega
      rw [Below.heap_setCell _ _ _ _ hbr, Below.heap_setCell _ _ _ _ hbr]
    · have := h b hb; omega
    · refine StepX.set (StepX.set (StepX.grow (B := WD) (C := w3) ?_ HOW.out hg fun k hk => .inr hk) (.inl rfl) _ _) (.inl rfl) _ _
      rw [← hWD]; exact (StepX.trans (.ext HX.out) (.ext HXA.out)).dr
  · have t1 : (headE s == 0) = false := beq_eq_false_iff_ne.2 h0
    have HE := Lib.hid h0
    clear h0
    go_wp2_with fail
    exact (HR.out _ _).1 HE.out rfl (RInv.ext (st := (fs, none)) ⟨who, v, css, [], HI.out⟩ (HX.out.al _)) (.ext (HX.out.al _))
end Go.Proofs.YtkdnbnkbnegckaaGreatDoor
