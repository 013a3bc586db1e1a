/- The walk of the reference's Take. -/
import Derived.Test.YtofdkhilapmccaaRunT3
import Derived.Deep.Cut
namespace Go.Proofs.Ytofdkhilapmccaa
open Go.RowKit

theorem RefAt.shape {W : World} {B : Nat} {v : Value} {bs : List UInt8} {er : Int} (h : RefAt W B v bs er) : ∃ ao n cap, v = .agg #[.slice ao n cap, .int .i64 er] := by
  obtain ⟨bs0, ao, cap, rfl, _⟩ := h
  exact ⟨_, _, _, rfl⟩
theorem RefAt.push {W W' : World} {B : Nat} {x : Value} {bs : List UInt8} {er : Int} {base : Nat} {e : TypeId} {size : Nat} {v v' : Value} {n : Nat} {xs : List Value} (h : RefAt W B x bs er) (hown : W.ownsRow base e size v n xs) (hb : B ≤ base) (hg : Grow W W' v v') : RefAt W' B x bs er := by
  obtain ⟨bs0, ao, cap, h1, h2, h3, h4⟩ := h
  refine ⟨bs0, ao, cap, h1, ?_, h3, h4⟩
  by_cases hne : bs0 = []
  · subst hne; exact Cells.nil _ _
  · exact h2.grow hg (fun ad e h => by have := h3.1 hne ad e; have := (hown.lt _ h).1; omega)
theorem RefAt.setF {W : World} {B s : Nat} {x : Value} {bs : List UInt8} {er : Int} (h : RefAt W B x bs er) (hs : B ≤ s) (j : Nat) (v : Value) : RefAt (W.setCell ⟨s, j, none⟩ v) B x bs er := by
  obtain ⟨bs0, ao, cap, h1, h2, h3, h4⟩ := h
  refine ⟨bs0, ao, cap, h1, ?_, h3, h4⟩
  by_cases hne : bs0 = []
  · subst hne; exact Cells.nil _ _
  · exact h2.grown (grown_set W s j v) (fun ad e => by have := h3.1 hne ad e; omega)
theorem Ext.setN {w w' : World} {s : Nat} (h : Ext w w') (hs : w.heap.size ≤ s) (j : Nat) (v : Value) : Ext w (w'.setCell ⟨s, j, none⟩ v) := Below.setCell h.b (p := ⟨s, j, none⟩) hs v
theorem blk_set {W : World} {g s : Nat} {o : Obj} (h : W.heap[g]? = some o) (hs : g ≠ s) (j : Nat) (v : Value) : (W.setCell ⟨s, j, none⟩ v).heap[g]? = some o :=
  (Below.heap_setCell W ⟨s, j, none⟩ v g hs).trans h
theorem own_set {w : World} {base : Nat} {e : TypeId} {size : Nat} {v : Value} {n : Nat} {xs : List Value} {s : Nat} {c : Array Value} {t : TypeId} {fz : Nat × Nat} (h : w.ownsRow base e size v n xs) (hs : w.heap[s]? = some (.cells c t fz)) (ht : t ≠ e) (j : Nat) (u : Value) : (w.setCell ⟨s, j, none⟩ u).ownsRow base e size v n xs :=
  h.kept (grown_set w s j u) (by
    cases hv : v.ownBlock with
    | none => exact .inl rfl
    | some k =>
      refine .inr (fun e2 => ?_)
      cases e2
      rcases h.2 with ⟨h0, _⟩ | ⟨g, cap, cur, hv2, _, hh, _⟩
      · rw [h0] at hv; cases hv
      · rw [hv2] at hv
        simp only [Value.ownBlock, Option.some.injEq] at hv
        subst hv
        rw [hs] at hh
        simp only [Option.some.injEq, Obj.cells.injEq] at hh
        exact ht hh.2.1)
theorem own_cellsAt {w : World} {base : Nat} {e : TypeId} {size n cap : Nat} {ao : Option Addr} {xs : List Value} (h : w.ownsRow base e size (.slice ao n cap) n xs) : Cells w ao xs := by
  obtain ⟨a, c, hv, _, _, hc⟩ := Cells.own h
  cases hv
  exact hc
theorem takeR_err {low high : Int} {n f : Nat} {out : List Int} {bs : List UInt8} {er : Int} (h : er ≠ 0) : takeR low high n (f + 1) out bs er = ([], bs, er) := by
  obtain ⟨h1, h2, h3⟩ := takeR_step (R := takeR low high n (f + 1) out bs er) rfl
  by_cases hn : n ≤ out.length
  · exact h2 hn h
  · have hb : (bitsS bs er).2.2 ≠ 0 := by rw [bitsS_err h]; exact h
    have := (h3 (by omega) _ rfl).1 (by rw [runS_err hb]; exact hb)
    rw [this, runS_err hb, bitsS_err h]

/-- Whether a cursor of the reference has no error yet, as a number. -/
def liveAt (g : Nat) (w : World) : Nat := if intOf ((w.cell? ⟨g, 1, none⟩).getD undef) = 0 then 1 else 0
theorem liveAt_le (g : Nat) (w : World) : liveAt g w ≤ 1 := by unfold liveAt; split <;> omega
theorem liveAt_one {g : Nat} {w : World} (h : w.cell? ⟨g, 1, none⟩ = some (.int .i64 0)) : liveAt g w = 1 := by unfold liveAt; rw [h]; rfl
theorem liveAt_no {g : Nat} {w : World} {e : Int} (h : w.cell? ⟨g, 1, none⟩ = some (.int .i64 e)) (he : e ≠ 0) : liveAt g w = 0 := by
  unfold liveAt; rw [h]; exact if_neg he

/-- What taking a row leaves, by the reference. -/
def RTakeGoes (B : Nat) (R : List Int × List UInt8 × Int) (w : World) (e : Ending) (w' : World) : Prop :=
  ∃ ao cap v, e = .returned (.tuple #[.slice ao R.1.length cap, v]) ∧ Cells w' ao (R.1.map (.int .i64)) ∧ Fresh w.heap.size ao ∧ RefAt w' B v R.2.1 R.2.2 ∧ Ext w w'
end Go.Proofs.Ytofdkhilapmccaa
