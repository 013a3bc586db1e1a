/- dis.writer: a line. -/
import Derived.Test.YtkdnbnkbnegckaaWri
import Derived.Test.YtkdnbnkbnegckaaShelf
import Derived.Deep.RegionHeld3
namespace Go.Proofs.Ytkdnbnkbnegckaa
open Go.RowKit
set_option maxRecDepth 100000
set_option linter.unusedVariables false

theorem own_at {W W' : World} {base : Nat} {e : TypeId} {size n : Nat} {v : Value} {xs : List Value} (h : W.ownsRow base e size v n xs) (hb : ∀ b, v.ownBlock = some b → W'.heap[b]? = W.heap[b]?) : W'.ownsRow base e size v n xs := by
  refine ⟨h.1, ?_⟩
  rcases h.2 with h3 | ⟨g, cap, cur, rfl, h4, h5, h6⟩
  · exact .inl h3
  · exact .inr ⟨g, cap, cur, rfl, h4, by rw [hb g rfl]; exact h5, h6⟩
theorem wr_ext {B b : Nat} {p : Value} {l : List UInt8} {w w' : World} (h : WrAt B b p l w) (hx : Ext w w') : WrAt B b p l w' := by
  obtain ⟨hB, v, hbk, hown, hne⟩ := h
  exact ⟨hB, v, (hx.block (Array.getElem?_eq_some_iff.1 hbk).1).trans hbk, own_at hown fun y hy => hx.block (hown.lt y hy).2, hne⟩
theorem isWr_ext {B b : Nat} {l : List UInt8} {w w' : World} (h : IsWr B b l w) (hx : Ext w w') : IsWr B b l w' := h.elim (fun h => .inl (wr_ext h hx)) fun h => .inr (wr_ext h hx)
theorem cell_of_block {W W' : World} {b o : Nat} (h : W'.heap[b]? = W.heap[b]?) : W'.cell? ⟨b, o, none⟩ = W.cell? ⟨b, o, none⟩ := by simp [World.cell?, h]
theorem isWr_lt {B b : Nat} {l : List UInt8} {w : World} (h : IsWr B b l w) : b < w.heap.size := h.elim (fun h => h.lt) fun h => h.lt
/-- A line of words. -/
def lineB (xs : List (List UInt8)) : List UInt8 := Lib.join xs [32] ++ [10]
set_option maxHeartbeats 2000000 in
theorem wr_line (B b : Nat) (l : List UInt8) (g o n cap : Nat) (xs : List (List UInt8)) (w : World) (h : IsWr B b l w) (hc : ∀ (j : Nat) x, (xs.map fun b => (⟨⟨b⟩⟩ : ByteArray))[j]? = some x → w.cell? ⟨g, o + j, none⟩ = some (.string x)) (hg : g < w.heap.size) (hn : n = (xs.map fun b => (⟨⟨b⟩⟩ : ByteArray)).length) (hcap : n ≤ cap) (hN : n ≤ 1000000)
    (hlen : l.length + (Lib.join xs [32]).length + 1 ≤ 140737488355328) (hBw : B ≤ w.heap.size) :
    Calls Try.prog 16 #[.pointer (some ⟨b, 0, none⟩), .slice (some ⟨g, o, none⟩) n cap] w fun e w' => e = .returned (.tuple #[]) ∧ (WrAt B b (.pointer (some ⟨b, 0, none⟩)) (l ++ lineB xs) w' ∧ Below B w w') ∧ Kp b w w' := by
  have hmm : ((xs.map fun b => (⟨⟨b⟩⟩ : ByteArray)).map (·.data.toList)) = xs := by rw [List.map_map]; exact List.map_id' _
  have HJ : Hid (∀ W, Ext w W → Calls Try.prog 15 #[.slice (some ⟨g, o, none⟩) n cap, .string ⟨#[32]⟩] W fun e w' => e = .returned (.string ⟨⟨Lib.join xs [32]⟩⟩) ∧ Ext W w') := Lib.hid fun W hx => by
    have := Try.strings_Join g o cap (xs.map fun b => (⟨⟨b⟩⟩ : ByteArray)) ⟨#[32]⟩ W (fun j x hj => (cell_of_block (hx.block hg)).trans (hc j x hj)) (Nat.lt_of_lt_of_le hg hx.size) (by omega) (by omega) (by rw [hmm]; show (Lib.join xs [32]).length ≤ _; omega)
    rw [← hn, hmm] at this
    exact this
  have HX0 := Lib.hid (Ext.rf w)
  have HW := Lib.hid h
  have HBw := Lib.hid hBw
  clear hc hg hn hcap hN h hBw hmm
  go_enter Try.func16, Try.ntmps16
  go_wp2_with fail
  go_region_held3 (fun _ => True) (trivial)
    (first | (go_at_call 15; refine (HJ.out _ ?_).mono ?_; exact HX0.out.dr; rintro e w1 ⟨rfl, hx1⟩; have HW1 := Lib.hid (isWr_ext HW.out (HX0.out.dr.tr hx1)); have HB1 := Lib.hid (Nat.le_trans HBw.out (HX0.out.dr.tr hx1).size); have HY1 := Lib.hid (HX0.out.dr.tr hx1); clear hx1) | (go_at_call 26; refine (wr_Write B b l (Lib.join xs [32]) _ HW1.out (by omega) HB1.out).mono ?_; rintro e w2 ⟨rfl, ⟨hw2, hb2⟩, hk2⟩; have HW2 := Lib.hid hw2; have HB2 := Lib.hid hb2; have HK2 := Lib.hid hk2; clear hw2 hb2 hk2))
  go_wp2_with fail
  refine (wr_Write B b (l ++ Lib.join xs [32]) [10] _ (.inr HW2.out) (by simp; omega) (Nat.le_trans HB1.out HB2.out.size)).mono ?_
  rintro e w3 ⟨rfl, ⟨hw3, hb3⟩, hk3⟩
  have HK3 := Lib.hid hk3
  clear hk3
  go_wp2_with fail
  go_end0
  exact ⟨rfl, ⟨by rw [lineB, ← List.append_assoc]; exact hw3, (HY1.out.b.mono HBw.out).trans (HB2.out.trans hb3)⟩, (Kp.ext (isWr_lt HW.out) HY1.out).tr (HK2.out.tr HK3.out)⟩
end Go.Proofs.Ytkdnbnkbnegckaa
