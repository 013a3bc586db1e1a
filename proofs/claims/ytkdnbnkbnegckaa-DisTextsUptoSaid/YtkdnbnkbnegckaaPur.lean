/- Calls of what the second machine knows; functions in a row. -/
import Derived.Test.YtkdnbnkbnegckaaDaS
import Derived.Test.YtkdnbnkbnegckaaWrl
namespace Go.Proofs.Ytkdnbnkbnegckaa
open Go.RowKit
set_option maxRecDepth 20000
theorem repT_one {W : World} {who : Nat → Who} {L : Lay} {h : Hp} {c : C} {v : Value} (H : RepT W who L h ⟨.one, [.c c]⟩ v) : RepC W who c v := by
  obtain ⟨x, hx, hr⟩ := H
  cases hx
  exact hr
theorem pure_one {f : FuncId} {args : List T} {c : C} {h' : Hp} (hc : callW Try.prog annX plansX f args ⟨[], []⟩ = some (⟨.one, [.c c]⟩, h')) {W : World} {vs : List Value} (hl : args.length = vs.length) (hr : ∀ (i : Nat) t v, args[i]? = some t → vs[i]? = some v → RepT W W0 L0 ⟨[], []⟩ t v) :
    Calls Try.prog f vs.toArray W fun e W' => ∃ v, e = .returned v ∧ RepC W' W0 c v ∧ Ext W W' := by
  refine ((callW_ok (A := annX) base_ok prog_ok f args ⟨[], []⟩ _ h' hc).2 W W0 L0 vs ⟨fun k xs h => by simp at h, fun r ty sz es h => by simp at h, fun r sz es h => by simp at h⟩ hl hr).mono fun e W' ⟨v, who', L', he, hv, _, hs⟩ => ?_
  exact ⟨v, he, (repT_one hv).mono fun _ _ => rfl, hs.os, hs.tape, hs.output, hs.size, fun k hk => (hs.fro k rfl hk).1⟩
def fnX (x : Fn) : List X := (enc tF x).map .c
def whoO (W : World) (who : Nat → Who) : Nat → Who := fun b => if b < W.heap.size then who b else .other
theorem hand_rep {W W' : World} {who : Nat → Who} (hs : W.heap.size ≤ W'.heap.size) (hk : ∀ b, b < W.heap.size → who b = .frozen → W'.heap[b]? = W.heap[b]?) {c : C} {u : Value} (H : RepC W who c u) : RepC W' (whoO W who) c u := by
  induction H with
  | v u hu => exact .v u hu
  | fz sz cap es ao us hu hc ha hw hr hl hrep ih =>
    refine .fz sz cap es ao us hu hc ha (fun b off hne e => ⟨(if_pos (hw b off hne e).2).trans (hw b off hne e).1, Nat.lt_of_lt_of_le (hw b off hne e).2 hs⟩) (fun b off e => ?_) hl ih
    by_cases hne : es = []
    · subst hne
      obtain rfl : us = [] := List.eq_nil_of_length_eq_zero (by simpa using hl.symm)
      intro j v hj
      simp at hj
    · exact range_same (hr b off e) fun _ => hk b (hw b off hne e).2 (hw b off hne e).1
theorem hand_reps {W W' : World} {who : Nat → Who} (hs : W.heap.size ≤ W'.heap.size) (hk : ∀ b, b < W.heap.size → who b = .frozen → W'.heap[b]? = W.heap[b]?) {cs : List C} {us : List Value} (H : RepCs W who cs us) : RepCs W' (whoO W who) cs us :=
  ⟨H.1, fun i c u h1 h2 => hand_rep hs hk (H.2 i c u h1 h2)⟩
theorem fn_cells {W : World} {who : Nat → Who} {x : Fn} {us : List Value} (h : RepCs W who (enc tF x) us) : ∃ a1 c1 a2 c2 a3 c3 a4 c4 a5 c5 a6 c6 a7 c7 a8 c8 a9 c9, us = [.string ⟨⟨x.1⟩⟩, .bool x.2.1, .slice a1 x.2.2.1.length c1, .slice a2 x.2.2.2.1.length c2, .slice a3 x.2.2.2.2.1.length c3, .slice a4 x.2.2.2.2.2.1.length c4,
    .slice a5 x.2.2.2.2.2.2.1.length c5, .slice a6 x.2.2.2.2.2.2.2.1.length c6, .slice a7 x.2.2.2.2.2.2.2.2.1.length c7, .slice a8 x.2.2.2.2.2.2.2.2.2.1.length c8, .slice a9 x.2.2.2.2.2.2.2.2.2.2.length c9] := by
  obtain ⟨nm, inn, ou, pa, re, lo, co, li, no, at', lv⟩ := x
  have hl := h.1
  have hen : ∀ (σ : Ty) (l : List (Data σ)), (encL σ l).length = l.length := fun σ l => List.length_map _
  obtain ⟨v0, v1, v2, v3, v4, v5, v6, v7, v8, v9, v10, rfl⟩ : ∃ v0 v1 v2 v3 v4 v5 v6 v7 v8 v9 v10, us = [v0, v1, v2, v3, v4, v5, v6, v7, v8, v9, v10] := by
    match us, hl with
    | [v0, v1, v2, v3, v4, v5, v6, v7, v8, v9, v10], _ => exact ⟨v0, v1, v2, v3, v4, v5, v6, v7, v8, v9, v10, rfl⟩
  have sl : ∀ (sz : Nat) (σ : Ty) (l : List (Data σ)) (v : Value), RepC W who (.fz sz (encL σ l)) v → ∃ a c, v = .slice a l.length c := fun sz σ l v hr => by
    obtain ⟨n, hn⟩ : ∃ n, n = encL σ l := ⟨_, rfl⟩
    have h1 := hen σ l
    rw [← hn] at hr h1
    cases hr with
    | fz _ cap _ ao us => exact ⟨ao, cap, by rw [h1]⟩
  have k0 := h.2 0 _ v0 rfl rfl
  have k1 := h.2 1 _ v1 rfl rfl
  obtain ⟨a1, c1, rfl⟩ := sl 1 tI ou v2 (h.2 2 _ v2 rfl rfl)
  obtain ⟨a2, c2, rfl⟩ := sl 1 tI pa v3 (h.2 3 _ v3 rfl rfl)
  obtain ⟨a3, c3, rfl⟩ := sl 1 tI re v4 (h.2 4 _ v4 rfl rfl)
  obtain ⟨a4, c4, rfl⟩ := sl 1 tI lo v5 (h.2 5 _ v5 rfl rfl)
  obtain ⟨a5, c5, rfl⟩ := sl 2 tC co v6 (h.2 6 _ v6 rfl rfl)
  obtain ⟨a6, c6, rfl⟩ := sl 1 tI li v7 (h.2 7 _ v7 rfl rfl)
  obtain ⟨a7, c7, rfl⟩ := sl 7 tN no v8 (h.2 8 _ v8 rfl rfl)
  obtain ⟨a8, c8, rfl⟩ := sl 1 tI at' v9 (h.2 9 _ v9 rfl rfl)
  obtain ⟨a9, c9, rfl⟩ := sl 4 tS lv v10 (h.2 10 _ v10 rfl rfl)
  cases k0
  cases k1
  exact ⟨a1, c1, a2, c2, a3, c3, a4, c4, a5, c5, a6, c6, a7, c7, a8, c8, a9, c9, rfl⟩
theorem encL_len {σ : Ty} (l : List (Data σ)) : (encL σ l).length = l.length := List.length_map _
theorem row_elem {W : World} {v : Value} {fs : List Fn} (hr : RepC W W0 (.fz 11 (encL tF fs)) v) : ∃ ao cap, v = .slice ao fs.length cap ∧ (fs ≠ [] → ∃ b off, ao = some ⟨b, off, none⟩ ∧ b < W.heap.size ∧ ∀ j (h : j < fs.length), ∃ cs, RepCs W W0 (enc tF fs[j]) cs ∧ W.rangeAt b (off + j * 11) cs) := by
  obtain ⟨es, he⟩ : ∃ es, es = encL tF fs := ⟨_, rfl⟩
  have hel : es.length = fs.length := by rw [he, encL_len]
  rw [← he] at hr
  cases hr with
  | fz _ cap _ ao us hu hc ha hw hrg hl hrep =>
    refine ⟨ao, cap, by rw [hel], fun hne => ?_⟩
    have hne2 : es ≠ [] := fun h => hne (List.eq_nil_of_length_eq_zero (by rw [← hel, h]; rfl))
    obtain ⟨b, off, rfl⟩ := ha hne2
    refine ⟨b, off, rfl, (hw b off hne2 rfl).2, fun j hj => ?_⟩
    have hj2 : j < es.length := by rw [hel]; exact hj
    have hej : es[j] = enc tF fs[j] := by subst he; exact List.getElem_map _
    have hfl := flatten_len es hu
    have hul : us.length = es.length * 11 := by rw [← hl, hfl]
    have hle : j * 11 + 11 ≤ us.length := by rw [hul, ← Nat.succ_mul]; exact Nat.mul_le_mul_right 11 hj2
    have hflat : ∀ i, i < 11 → es.flatten[j * 11 + i]? = (enc tF fs[j])[i]? := fun i hi => by
      rw [← hej]
      have := congrArg (fun l => l[i]?) (flatten_at hu (List.getElem?_eq_getElem hj2))
      simp only [List.getElem?_take, if_pos hi, List.getElem?_drop] at this
      exact this
    refine ⟨(us.drop (j * 11)).take 11, ⟨by rw [List.length_take, List.length_drop, enc_len]; show 11 = _; omega, fun i c u h1 h2 => ?_⟩, fun i u hi => ?_⟩
    · have hi : i < 11 := by
        have := (List.getElem?_eq_some_iff.1 h1).1
        rw [enc_len] at this
        exact this
      rw [List.getElem?_take, if_pos hi, List.getElem?_drop] at h2
      exact hrep (j * 11 + i) c u (by rw [hflat i hi]; exact h1) h2
    · have hi2 : i < 11 := by
        rw [List.getElem?_take] at hi
        split at hi
        · assumption
        · cases hi
      rw [List.getElem?_take, if_pos hi2, List.getElem?_drop] at hi
      have := hrg b off rfl (j * 11 + i) u hi
      rw [Nat.add_assoc]
      exact this
end Go.Proofs.Ytkdnbnkbnegckaa
