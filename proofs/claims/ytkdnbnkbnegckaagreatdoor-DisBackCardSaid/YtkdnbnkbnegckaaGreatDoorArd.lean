/- The reader's state, in plain Lean and in memory. -/
import Derived.Test.YtkdnbnkbnegckaaGreatDoorSqx
import Derived.Test.YtkdnbnkbnegckaaGreatDoorAln
namespace Go.Proofs.YtkdnbnkbnegckaaGreatDoor
open Go.RowKit
set_option maxRecDepth 20000
set_option linter.unusedVariables false
/-! What it reads -/
abbrev RSt := List Fn × Option Fn
def codeOf (f : Fn) : List (Int × Int) := f.2.2.2.2.2.2.1
def linesOfF (f : Fn) : List Int := f.2.2.2.2.2.2.2.1
def addLine (f : Fn) (i : Int × Int) (n : Int) : Fn := (f.1, (f.2.1, (f.2.2.1, (f.2.2.2.1, (f.2.2.2.2.1, (f.2.2.2.2.2.1, (f.2.2.2.2.2.2.1 ++ [i], (f.2.2.2.2.2.2.2.1 ++ [n], f.2.2.2.2.2.2.2.2))))))))
def endW : List UInt8 := [101, 110, 100]
def readStep (st : RSt) (s : List UInt8) : RSt × Int :=
  if s = [] then (st, 0) else
  match st.2 with
  | none => if headE s = 0 then ((st.1, some (headF s)), 0) else (st, headE s)
  | some f => if s = endW then ((st.1 ++ [f], none), 0) else if (lineI s).2.2 = 0 then ((st.1, some (addLine f (lineI s).1 (lineI s).2.1)), 0) else (st, (lineI s).2.2)
/-! Rows and what is laid for good -/
theorem repC_inF {W : World} {who : Nat → Who} {sz cap : Nat} {es : List (List C)} {ao : Option Addr} {us : List Value} (h0 : 0 < sz) (hu : ∀ e ∈ es, e.length = sz) (hc : es.length ≤ cap) (hC : Cells W ao us) (hw : ∀ b off, us ≠ [] → ao = some ⟨b, off, none⟩ → who b = .frozen) (hr : RepCs W who es.flatten us) : RepC W who (.fz sz es) (.slice ao es.length cap) := by
  have hne : es ≠ [] → us ≠ [] := fun he hn => by
    subst hn
    have h1 := hr.1
    rw [flatten_len es hu] at h1
    have : 0 < es.length := List.length_pos_iff.2 he
    have : 0 < es.length * sz := Nat.mul_pos this h0
    simp at h1
    omega
  exact .fz sz cap es ao us hu hc (fun he => hC.addr (hne he)) (fun b off he ha => ⟨hw b off (hne he) ha, Cells.lt (ha ▸ hC) (hne he)⟩) (fun b off ha j v hj => hC.cell b off ha j v hj) hr.1 hr.2
theorem repCs_intsF {W : World} {who : Nat → Who} (x : List Int) : RepCs W who (encL tI x).flatten (x.map (.int .i64)) := by
  rw [flat_intsA]
  refine ⟨by rw [List.length_map, List.length_map], fun i c v hc hv => ?_⟩
  rw [List.getElem?_map] at hc hv
  cases hq : x[i]? with
  | none => rw [hq] at hc; cases hc
  | some n => rw [hq] at hc hv; cases hc; cases hv; exact .v _ rfl
theorem SlT.repW {B : Nat} {W : World} {who : Nat → Who} {x : List Int} {v : Value} (h : SlT B W x v) (hw : ∀ b, B ≤ b → b < W.heap.size → who b = .frozen) : RepC W who (.fz 1 (encL tI x)) v := by
  obtain ⟨ao, cap, rfl, h2, h3, h4⟩ := h
  have := repC_inF (W := W) (who := who) (sz := 1) (cap := cap) (es := encL tI x) (ao := ao) (us := x.map (.int .i64)) (by decide) (fun e he => by obtain ⟨n, -, rfl⟩ := List.mem_map.1 he; rfl) (by rw [encL_len]; exact h3) h2 (fun b off hne e => hw b (h4 _ e) (by subst e; exact h2.lt hne)) (repCs_intsF x)
  rwa [encL_len] at this
theorem rep_keep {W W' : World} {who : Nat → Who} (hs : W.heap.size ≤ W'.heap.size) (hk : ∀ b, who b = .frozen → b < W.heap.size → W'.heap[b]? = W.heap[b]?) {c : C} {u : Value} (H : RepC W who c u) : RepC W' who c u := by
  induction H with
  | v u hu => exact .v u hu
  | fz sz cap es ao us hu hc ha hw hr hl hrep ih =>
    refine .fz sz cap es ao us hu hc ha (fun b off hne e => ⟨(hw b off hne e).1, Nat.lt_of_lt_of_le (hw b off hne e).2 hs⟩) (fun b off e => ?_) hl ih
    by_cases hne : es = []
    · subst hne
      obtain rfl : us = [] := List.eq_nil_of_length_eq_zero (by simpa using hl.symm)
      intro j v hj
      simp at hj
    · exact range_same (hr b off e) fun _ => hk b (hw b off hne e).1 (hw b off hne e).2
theorem reps_keep {W W' : World} {who : Nat → Who} (hs : W.heap.size ≤ W'.heap.size) (hk : ∀ b, who b = .frozen → b < W.heap.size → W'.heap[b]? = W.heap[b]?) {cs : List C} {us : List Value} (H : RepCs W who cs us) : RepCs W' who cs us :=
  ⟨H.1, fun i c u h1 h2 => rep_keep hs hk (H.2 i c u h1 h2)⟩
theorem own_keep {W W' : World} {base : Nat} {e : TypeId} {size : Nat} {v : Value} {n : Nat} {xs : List Value} (h : W.ownsRow base e size v n xs) (hk : ∀ b, v.ownBlock = some b → W'.heap[b]? = W.heap[b]?) : W'.ownsRow base e size v n xs := by
  obtain ⟨h1, h2⟩ := h
  refine ⟨h1, h2.imp id ?_⟩
  rintro ⟨g, cap, cur, rfl, hb, hg, rest⟩
  exact ⟨g, cap, cur, rfl, hb, (hk g rfl).trans hg, rest⟩
theorem own_ne {W : World} {base base' : Nat} {e e' : TypeId} {size size' : Nat} {v v' : Value} {n n' : Nat} {xs xs' : List Value} (h : W.ownsRow base e size v n xs) (h' : W.ownsRow base' e' size' v' n' xs') (he : e ≠ e') {b : Nat} (hb : v.ownBlock = some b) : v'.ownBlock ≠ some b := fun hb' => by
  obtain ⟨-, ⟨rfl, -⟩ | ⟨g, cap, cur, rfl, -, hg, -⟩⟩ := h
  · cases hb
  obtain ⟨-, ⟨rfl, -⟩ | ⟨g', cap', cur', rfl, -, hg', -⟩⟩ := h'
  · cases hb'
  cases hb
  cases hb'
  rw [hg] at hg'
  cases hg'
  exact he rfl
theorem own_rep {W : World} {who : Nat → Who} {base : Nat} {e : TypeId} {sz : Nat} {v : Value} {n : Nat} {xs : List Value} {es : List (List C)} (h : W.ownsRow base e sz v n xs) (hn : es.length = n) (h0 : 0 < sz) (hu : ∀ e ∈ es, e.length = sz) (hr : RepCs W who es.flatten xs) (hw : ∀ b, v.ownBlock = some b → who b = .frozen) : RepC W who (.fz sz es) v := by
  obtain ⟨ao, cap, rfl, hc, -, hC⟩ := Cells.own h
  subst hn
  exact repC_inF h0 hu hc hC (fun b off _ e => hw b (by rw [e]; rfl)) hr
def pairV (x : Int × Int) : List Value := [.int .i64 x.1, .int .i64 x.2]
theorem repCs_pairsF {W : World} {who : Nat → Who} : ∀ (x : List (Int × Int)), RepCs W who (encL tC x).flatten (x.flatMap pairV)
  | [] => ⟨rfl, fun i c u h1 _ => by
    rw [show (encL tC []).flatten = [] from rfl] at h1
    simp at h1⟩
  | p :: x => by
    have ih := repCs_pairsF (W := W) (who := who) x
    have e1 : (encL tC (p :: x)).flatten = .v (.int .i64 p.1) :: .v (.int .i64 p.2) :: (encL tC x).flatten := by rw [← encL_cons]; rfl
    have e2 : (p :: x).flatMap pairV = .int .i64 p.1 :: .int .i64 p.2 :: x.flatMap pairV := rfl
    rw [e1, e2]
    refine ⟨by simp [ih.1], fun i c u h1 h2 => ?_⟩
    match i with
    | 0 => cases h1; cases h2; exact .v _ rfl
    | 1 => cases h1; cases h2; exact .v _ rfl
    | i + 2 => exact ih.2 i c u h1 h2
/-! What lies in memory -/
structure OpenF (lo : Nat) (W : World) (who : Nat → Who) (f : Fn) (ocs : List Value) (v2 v3 v4 v5 vc vl : Value) : Prop where
  tail : f.2.2.2.2.2.2.2.2 = ([], ([], []))
  cells : ocs = [.string (strB f.1), .bool f.2.1, v2, v3, v4, v5, vc, vl, .slice none 0 0, .slice none 0 0, .slice none 0 0]
  r2 : RepC W who (.fz 1 (encL tI f.2.2.1)) v2
  r3 : RepC W who (.fz 1 (encL tI f.2.2.2.1)) v3
  r4 : RepC W who (.fz 1 (encL tI f.2.2.2.2.1)) v4
  r5 : RepC W who (.fz 1 (encL tI f.2.2.2.2.2.1)) v5
  rc : W.ownsRow (lo + 7) 25 2 vc (codeOf f).length ((codeOf f).flatMap pairV)
  rl : W.ownsRow (lo + 7) 3 1 vl (linesOfF f).length ((linesOfF f).map (.int .i64))
  sc : ∀ b, who b = .frozen → vc.ownBlock ≠ some b
  sl : ∀ b, who b = .frozen → vl.ownBlock ≠ some b
structure RI (lo r : Nat) (W : World) (who : Nat → Who) (v : Value) (css : List (List Value)) (ocs : List Value) (st : RSt) : Prop where
  fro : ∀ b, who b = .frozen → lo + 7 ≤ b ∧ b < W.heap.size ∧ v.ownBlock ≠ some b
  box : W.heap[r]? = some (.cells #[v, .bool st.2.isSome] 75 (0, 0))
  row : W.ownsRow (lo + 7) 35 11 v (st.1.length + st.2.toList.length) (css.flatten ++ ocs)
  len : css.length = st.1.length
  don : ∀ j (h : j < st.1.length), ∃ cs, css[j]? = some cs ∧ RepCs W who (enc tF st.1[j]) cs
  opn : ∀ f, st.2 = some f → ∃ v2 v3 v4 v5 vc vl, OpenF lo W who f ocs v2 v3 v4 v5 vc vl
  noo : st.2 = none → ocs = []
def RInv (lo r : Nat) (W : World) (st : RSt) : Prop := ∃ who v css ocs, RI lo r W who v css ocs st
theorem OpenF.keep {lo : Nat} {W W' : World} {who : Nat → Who} {f : Fn} {ocs : List Value} {v2 v3 v4 v5 vc vl : Value} (h : OpenF lo W who f ocs v2 v3 v4 v5 vc vl) (hs : W.heap.size ≤ W'.heap.size) (hw : ∀ b, who b = .frozen → b < W.heap.size → W'.heap[b]? = W.heap[b]?) (hc : ∀ b, vc.ownBlock = some b → W'.heap[b]? = W.heap[b]?) (hl : ∀ b, vl.ownBlock = some b → W'.heap[b]? = W.heap[b]?) : OpenF lo W' who f ocs v2 v3 v4 v5 vc vl :=
  ⟨h.tail, h.cells, rep_keep hs hw h.r2, rep_keep hs hw h.r3, rep_keep hs hw h.r4, rep_keep hs hw h.r5, own_keep h.rc hc, own_keep h.rl hl, h.sc, h.sl⟩
theorem RI.keep {lo r : Nat} {W W' : World} {who : Nat → Who} {v : Value} {css : List (List Value)} {ocs : List Value} {st : RSt} (h : RI lo r W who v css ocs st) (hs : W.heap.size ≤ W'.heap.size) (hk : ∀ b, b < W.heap.size → (b = r ∨ lo + 7 ≤ b) → W'.heap[b]? = W.heap[b]?) : RI lo r W' who v css ocs st := by
  have hw : ∀ b, who b = .frozen → b < W.heap.size → W'.heap[b]? = W.heap[b]? := fun b hb hl => hk b hl (.inr (h.fro b hb).1)
  have ho : ∀ {e : TypeId} {sz : Nat} {u : Value} {n : Nat} {xs : List Value}, W.ownsRow (lo + 7) e sz u n xs → ∀ b, u.ownBlock = some b → W'.heap[b]? = W.heap[b]? := fun hr b hb => hk b (hr.lt b hb).2 (.inr (hr.lt b hb).1)
  refine ⟨fun b hb => ⟨(h.fro b hb).1, Nat.lt_of_lt_of_le (h.fro b hb).2.1 hs, (h.fro b hb).2.2⟩, (hk r (Array.getElem?_eq_some_iff.1 h.box).1 (.inl rfl)).trans h.box, own_keep h.row (ho h.row), h.len, fun j hj => ?_, fun f hf => ?_, h.noo⟩
  · obtain ⟨cs, h1, h2⟩ := h.don j hj
    exact ⟨cs, h1, reps_keep hs hw h2⟩
  · obtain ⟨v2, v3, v4, v5, vc, vl, ho2⟩ := h.opn f hf
    exact ⟨v2, v3, v4, v5, vc, vl, ho2.keep hs hw (ho ho2.rc) (ho ho2.rl)⟩
theorem RInv.keep {lo r : Nat} {W W' : World} {st : RSt} (h : RInv lo r W st) (hs : W.heap.size ≤ W'.heap.size) (hk : ∀ b, b < W.heap.size → (b = r ∨ lo + 7 ≤ b) → W'.heap[b]? = W.heap[b]?) : RInv lo r W' st := by
  obtain ⟨who, v, css, ocs, h⟩ := h
  exact ⟨who, v, css, ocs, h.keep hs hk⟩
theorem RInv.ext {lo r : Nat} {W W' : World} {st : RSt} (h : RInv lo r W st) (hx : Ext W W') : RInv lo r W' st := h.keep hx.size fun b hb _ => hx.block hb
/-- 'end'. -/
theorem RI.fin {lo r : Nat} {W : World} {who : Nat → Who} {v : Value} {css : List (List Value)} {ocs : List Value} {fs : List Fn} {f : Fn} (h : RI lo r W who v css ocs (fs, some f)) (hr : r < lo + 7) (W' : World) (hW : W' = W.setCell ⟨r, 1, none⟩ (.bool false)) : RInv lo r W' (fs ++ [f], none) := by
  obtain ⟨v2, v3, v4, v5, vc, vl, ho⟩ := h.opn f rfl
  have hsz : W'.heap.size = W.heap.size := by rw [hW]; simp [World.setCell]
  have hk : ∀ b, b ≠ r → W'.heap[b]? = W.heap[b]? := fun b hb => by rw [hW]; exact Below.heap_setCell _ _ _ _ hb
  have hbx := set_blk h.box 1 (.bool false)
  rw [← hW] at hbx
  have hvr : ∀ {e : TypeId} {sz : Nat} {u : Value} {n : Nat} {xs : List Value}, W.ownsRow (lo + 7) e sz u n xs → ∀ b, u.ownBlock = some b → b ≠ r := fun h b hb e => by have := (h.lt b hb).1; omega
  have hw : ∀ b, who b = .frozen → b < W.heap.size → W'.heap[b]? = W.heap[b]? := fun b hb _ => hk b fun e => by have := (h.fro b hb).1; omega
  have ho' := ho.keep (W' := W') (by omega) hw (fun b hb => hk b (hvr ho.rc b hb)) (fun b hb => hk b (hvr ho.rl b hb))
  obtain ⟨who', hwho⟩ : ∃ who' : Nat → Who, who' = fun b => if vc.ownBlock = some b ∨ vl.ownBlock = some b then .frozen else who b := ⟨_, rfl⟩
  have hup : ∀ b, who b = .frozen → who' b = .frozen := fun b hb => by rw [hwho]; dsimp only; split <;> first | rfl | exact hb
  have hne1 : ∀ b, vc.ownBlock = some b → v.ownBlock ≠ some b := fun b hb => own_ne ho.rc h.row (by decide) hb
  have hne2 : ∀ b, vl.ownBlock = some b → v.ownBlock ≠ some b := fun b hb => own_ne ho.rl h.row (by decide) hb
  have hrow := own_keep (W' := W') h.row (fun b hb => hk b (hvr h.row b hb))
  refine ⟨who', v, css ++ [ocs], [], ⟨fun b hb => ?_, by simpa using hbx, ?_, by simp [h.len], fun j hj => ?_, (fun g hg => by cases hg), fun _ => rfl⟩⟩
  · rw [hwho] at hb
    dsimp only at hb
    split at hb
    · rename_i hc
      rcases hc with hc | hc
      · exact ⟨(ho.rc.lt b hc).1, by have := (ho.rc.lt b hc).2; omega, hne1 b hc⟩
      · exact ⟨(ho.rl.lt b hc).1, by have := (ho.rl.lt b hc).2; omega, hne2 b hc⟩
    · have := h.fro b hb
      exact ⟨this.1, by omega, this.2.2⟩
  · simpa using hrow
  · by_cases hj2 : j < fs.length
    · obtain ⟨cs, h1, h2⟩ := h.don j hj2
      refine ⟨cs, by rw [List.getElem?_append_left (by rw [h.len]; exact hj2)]; exact h1, ?_⟩
      simp only [List.getElem_append_left hj2]
      exact (reps_keep (by omega) hw h2).mono hup
    · have hj3 : j = fs.length := by simp at hj; omega
      subst hj3
      refine ⟨ocs, by rw [List.getElem?_append_right (by rw [h.len]; exact Nat.le_refl _), h.len]; simp, ?_⟩
      simp only [List.getElem_concat_length]
      obtain ⟨nm, inn, ou, pa, re, lo', co, li, tl⟩ := f
      have ht := ho.tail
      dsimp only at ht
      subst ht
      rw [ho.cells]
      have n : ∀ {sz : Nat}, RepC W' who' (.fz sz []) (.slice none 0 0) := .fz _ 0 [] none [] (by simp) (by simp) (by simp) (by simp) (by simp) rfl (by simp)
      have cons : ∀ {c : C} {u : Value} {cs : List C} {us : List Value}, RepC W' who' c u → RepCs W' who' cs us → RepCs W' who' (c :: cs) (u :: us) := fun h hs => ⟨by simp [hs.1], fun i x v h1 h2 => by
        cases i with
        | zero => cases h1; cases h2; exact h
        | succ i => exact hs.2 i x v h1 h2⟩
      have n0 : RepCs W' who' [] [] := ⟨rfl, fun i c u h1 _ => by simp at h1⟩
      have kc : RepC W' who' (.fz 2 (encL tC co)) vc := own_rep ho'.rc (encL_len _) (by decide) (fun e he => by obtain ⟨p, -, rfl⟩ := List.mem_map.1 he; rfl) (repCs_pairsF _) (fun b hb => by rw [hwho]; exact if_pos (.inl hb))
      have kl : RepC W' who' (.fz 1 (encL tI li)) vl := own_rep ho'.rl (encL_len _) (by decide) (fun e he => by obtain ⟨p, -, rfl⟩ := List.mem_map.1 he; rfl) (repCs_intsF _) (fun b hb => by rw [hwho]; exact if_pos (.inr hb))
      exact cons (.v _ rfl) (cons (.v _ rfl) (cons (ho'.r2.mono hup) (cons (ho'.r3.mono hup) (cons (ho'.r4.mono hup) (cons (ho'.r5.mono hup) (cons kc (cons kl (cons n (cons n (cons n n0))))))))))
/-- A head. -/
theorem RI.head {lo r : Nat} {W W1 W5 : World} {who : Nat → Who} {v v' : Value} {css : List (List Value)} {fs : List Fn} {F : Fn} {cs : List Value} (h : RI lo r W who v css [] (fs, none)) (hlo : lo + 7 ≤ W.heap.size) (hr : r < lo + 7) (hx : Ext W W1) (hR : HeadR W.heap.size W1 F cs) (hF : F.2.2.2.2.2.2 = ([], ([], ([], ([], [])))))
    (hsz : W1.heap.size ≤ W5.heap.size) (hk : ∀ b, b < W1.heap.size → b ≠ r → v.ownBlock ≠ some b → W5.heap[b]? = W1.heap[b]?) (hrow : W5.ownsRow (lo + 7) 35 11 v' (fs.length + 1) (css.flatten ++ cs)) (hv : v'.ownBlock = v.ownBlock ∨ ∀ b, v'.ownBlock = some b → W1.heap.size ≤ b)
    (hbox : W5.heap[r]? = some (.cells #[v', .bool true] 75 (0, 0))) : RInv lo r W5 (fs, some F) := by
  obtain ⟨v2, v3, v4, v5, rfl, h2, h3, h4, h5⟩ := hR
  have hsx := hx.size
  obtain ⟨who', hwho⟩ : ∃ who' : Nat → Who, who' = fun b => if W.heap.size ≤ b ∧ b < W1.heap.size then .frozen else who b := ⟨_, rfl⟩
  have hup : ∀ b, who b = .frozen → who' b = .frozen := fun b hb => by rw [hwho]; dsimp only; split <;> first | rfl | exact hb
  have hnew : ∀ b, W.heap.size ≤ b → b < W1.heap.size → who' b = .frozen := fun b h1 h2 => by rw [hwho]; exact if_pos ⟨h1, h2⟩
  have hfr : ∀ b, who' b = .frozen → lo + 7 ≤ b ∧ b < W1.heap.size ∧ v.ownBlock ≠ some b := fun b hb => by
    rw [hwho] at hb
    dsimp only at hb
    split at hb
    · rename_i hc
      exact ⟨by omega, hc.2, fun e => by have := (h.row.lt b e).2; omega⟩
    · have := h.fro b hb
      exact ⟨this.1, by omega, this.2.2⟩
  have hw : ∀ b, who' b = .frozen → b < W1.heap.size → W5.heap[b]? = W1.heap[b]? := fun b hb hl => hk b hl (fun e => by have := (hfr b hb).1; omega) (hfr b hb).2.2
  have hw0 : ∀ b, who b = .frozen → b < W.heap.size → W1.heap[b]? = W.heap[b]? := fun b _ hl => hx.block hl
  refine ⟨who', v', css, _, ⟨fun b hb => ⟨(hfr b hb).1, by have := (hfr b hb).2.1; omega, ?_⟩, by simpa using hbox, by simpa using hrow, h.len, fun j hj => ?_, fun f hf => ?_, fun hn => by cases hn⟩⟩
  · rcases hv with hv | hv
    · rw [hv]; exact (hfr b hb).2.2
    · intro e
      have := hv b e
      have := (hfr b hb).2.1
      omega
  · obtain ⟨cs, h1, h2⟩ := h.don j hj
    exact ⟨cs, h1, reps_keep hsz hw ((reps_keep hsx hw0 h2).mono hup)⟩
  · cases hf
    have hc : codeOf F = [] := by unfold codeOf; rw [hF]
    have hl : linesOfF F = [] := by unfold linesOfF; rw [hF]
    exact ⟨v2, v3, v4, v5, .slice none 0 0, .slice none 0 0, by rw [hF], rfl, rep_keep hsz hw (h2.repW hnew), rep_keep hsz hw (h3.repW hnew), rep_keep hsz hw (h4.repW hnew), rep_keep hsz hw (h5.repW hnew), by rw [hc]; exact World.ownsRow_nil _ _ _ _, by rw [hl]; exact World.ownsRow_nil _ _ _ _, fun b _ e => (by cases e), fun b _ e => (by cases e)⟩
theorem flat_len11 {W : World} {who : Nat → Who} : ∀ {fs : List Fn} {css : List (List Value)}, css.length = fs.length → (∀ j (h : j < fs.length), ∃ cs, css[j]? = some cs ∧ RepCs W who (enc tF fs[j]) cs) → css.flatten.length = fs.length * 11
  | [], [], _, _ => rfl
  | f :: fs, c :: css, hl, h => by
    obtain ⟨cs, h1, h2⟩ := h 0 (by simp)
    cases h1
    have h3 : c.length = 11 := h2.1.symm.trans rfl
    have ih := flat_len11 (fs := fs) (css := css) (by simpa using hl) (fun j hj => by
      obtain ⟨cs, h4, h5⟩ := h (j + 1) (by simpa using hj)
      exact ⟨cs, by simpa using h4, by simpa using h5⟩)
    rw [List.flatten_cons, List.length_append, ih, h3, List.length_cons]
    omega
  | [], c :: css, hl, _ => by simp at hl
  | f :: fs, [], hl, _ => by simp at hl
/-- A line. -/
theorem RI.line {lo r : Nat} {W W' : World} {who : Nat → Who} {v v2 v3 v4 v5 vc vl vc' vl' : Value} {css : List (List Value)} {ocs : List Value} {fs : List Fn} {f : Fn} (i : Int × Int) (n : Int) (h : RI lo r W who v css ocs (fs, some f)) (ho : OpenF lo W who f ocs v2 v3 v4 v5 vc vl) (hr : r < lo + 7)
    (hsz : W.heap.size ≤ W'.heap.size) (hk : ∀ b, b < W.heap.size → v.ownBlock ≠ some b → vc.ownBlock ≠ some b → vl.ownBlock ≠ some b → W'.heap[b]? = W.heap[b]?)
    (hc : W'.ownsRow (lo + 7) 25 2 vc' ((codeOf f).length + 1) ((codeOf f).flatMap pairV ++ [.int .i64 i.1, .int .i64 i.2])) (hl : W'.ownsRow (lo + 7) 3 1 vl' ((linesOfF f).length + 1) ((linesOfF f).map (.int .i64) ++ [.int .i64 n]))
    (hvc : vc'.ownBlock = vc.ownBlock ∨ ∀ b, vc'.ownBlock = some b → W.heap.size ≤ b) (hvl : vl'.ownBlock = vl.ownBlock ∨ ∀ b, vl'.ownBlock = some b → W.heap.size ≤ b)
    (hrow : W'.ownsRow (lo + 7) 35 11 v (fs.length + 1) (((css.flatten ++ ocs).set (fs.length * 11 + 6) vc').set (fs.length * 11 + 7) vl')) : RInv lo r W' (fs, some (addLine f i n)) := by
  have hfl := flat_len11 h.len h.don
  have hw : ∀ b, who b = .frozen → b < W.heap.size → W'.heap[b]? = W.heap[b]? := fun b hb hlt => hk b hlt (h.fro b hb).2.2 (ho.sc b hb) (ho.sl b hb)
  have hbx : W'.heap[r]? = W.heap[r]? := hk r (Array.getElem?_eq_some_iff.1 h.box).1 (fun e => by have := (h.row.lt r e).1; omega) (fun e => by have := (ho.rc.lt r e).1; omega) (fun e => by have := (ho.rl.lt r e).1; omega)
  refine ⟨who, v, css, [.string (strB f.1), .bool f.2.1, v2, v3, v4, v5, vc', vl', .slice none 0 0, .slice none 0 0, .slice none 0 0], ⟨fun b hb => ⟨(h.fro b hb).1, by have := (h.fro b hb).2.1; omega, (h.fro b hb).2.2⟩, hbx.trans h.box, ?_, h.len, fun j hj => ?_, fun g hg => ?_, fun hn => by cases hn⟩⟩
  · have e : ((css.flatten ++ ocs).set (fs.length * 11 + 6) vc').set (fs.length * 11 + 7) vl' = css.flatten ++ [.string (strB f.1), .bool f.2.1, v2, v3, v4, v5, vc', vl', .slice none 0 0, .slice none 0 0, .slice none 0 0] := by
      rw [ho.cells, ← hfl, List.set_append_right _ _ (by omega), List.set_append_right _ _ (by omega), Nat.add_sub_cancel_left, Nat.add_sub_cancel_left]
      rfl
    rw [e] at hrow
    exact hrow
  · obtain ⟨cs, h1, h2⟩ := h.don j hj
    exact ⟨cs, h1, reps_keep hsz hw h2⟩
  · cases hg
    have sep : ∀ {u u' : Value}, (u'.ownBlock = u.ownBlock ∨ ∀ b, u'.ownBlock = some b → W.heap.size ≤ b) → (∀ b, who b = .frozen → u.ownBlock ≠ some b) → ∀ b, who b = .frozen → u'.ownBlock ≠ some b := fun h1 h2 b hb e => by
      rcases h1 with h1 | h1
      · exact h2 b hb (h1 ▸ e)
      · have := h1 b e
        have := (h.fro b hb).2.1
        omega
    refine ⟨v2, v3, v4, v5, vc', vl', ho.tail, rfl, rep_keep hsz hw ho.r2, rep_keep hsz hw ho.r3, rep_keep hsz hw ho.r4, rep_keep hsz hw ho.r5, ?_, ?_, sep hvc ho.sc, sep hvl ho.sl⟩
    · have : codeOf (addLine f i n) = codeOf f ++ [i] := rfl
      rw [this, List.length_append, List.flatMap_append]
      simpa [pairV] using hc
    · have : linesOfF (addLine f i n) = linesOfF f ++ [n] := rfl
      rw [this, List.length_append, List.map_append]
      exact hl
end Go.Proofs.YtkdnbnkbnegckaaGreatDoor
