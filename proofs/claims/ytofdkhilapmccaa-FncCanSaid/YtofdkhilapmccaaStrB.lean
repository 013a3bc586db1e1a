/- A text turned to bytes, at a step of a region that draws its order. -/
import Derived.Test.YtofdkhilapmccaaBase
import Derived.Test.YtofdkhilapmccaaUvarP
import Derived.Lib.ConvBytes
namespace Go.Proofs.Ytofdkhilapmccaa
open Go.RowKit

theorem bytesWorld_ext (w : World) (e : TypeId) (s : ByteArray) : Ext w (Lib.bytesWorld w e s) :=
  ⟨rfl, rfl, rfl, by rw [Lib.bytesWorld_size]; omega, fun k hk => Lib.bytesWorld_at_old w e s k hk⟩
theorem bytesWorld_cells (w : World) (e : TypeId) (s : ByteArray) : Cells (Lib.bytesWorld w e s) (some ⟨w.heap.size, 0, none⟩) (s.data.toList.map byteC) := by
  refine ⟨fun _ => ⟨_, _, rfl⟩, fun b off e2 j u hu => ?_⟩
  cases e2
  have hj : j < s.size := by
    have := (List.getElem?_eq_some_iff.1 hu).1
    simpa using this
  rw [Nat.zero_add, Lib.bytesWorld_cell w e s j hj]
  rw [List.getElem?_map] at hu
  have h2 : s.data.toList[j]? = some (s.data.toList.getD j 0) := by
    rw [List.getD, List.getElem?_eq_getElem (by simpa using hj)]; rfl
  rw [h2] at hu
  simpa [byteC] using hu

theorem step_bytes {P : Program} {w : World} {ops : Array Oper} {o : Oper} {a : Act} {K : Act → World → Prop} {Q : Exit → Act → World → Prop} {E : Prop} (hgd : o.guard = none) (src dst e : TypeId) (x : Operand)
    (ho : o.op = .convert src dst x) (s : ByteArray) (hx : a.eval x = .string s) {u : TypeDesc} (hs : P.underlying src = some u) (hd : P.underlying dst = some (.slice e)) (he : P.underlying e = some (.int .u8))
    (h : ∀ w' cap, Ext w w' → Cells w' (some ⟨w.heap.size, 0, none⟩) (s.data.toList.map byteC) → K (a.put o.dst (.slice (some ⟨w.heap.size, 0, none⟩) s.size cap)) w') :
    if Region.wanted o (yielded ops a.tmps) = true then Oper.wp P o a w K Q else E := by
  have hw : Region.wanted o (yielded ops a.tmps) = true := by simp [Region.wanted, hgd]
  rw [if_pos hw]
  unfold Oper.wp execOp
  simp only [ho, hx, Sem.run_bind, Sem.run_pure, Result.andThen_ok, Lib.run_convert_string_bytes w src dst e s hs hd he]
  exact h _ _ (bytesWorld_ext w e s) (bytesWorld_cells w e s)
end Go.Proofs.Ytofdkhilapmccaa
