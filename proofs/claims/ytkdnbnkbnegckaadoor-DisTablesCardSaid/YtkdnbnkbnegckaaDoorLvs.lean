/- Law 18: what lives; the law. -/
import Derived.Test.YtkdnbnkbnegckaaDoorWrt
import Derived.Test.YtkdnbnkbnegckaaDoorTbc
namespace Go.Proofs.YtkdnbnkbnegckaaDoor
open Go.RowKit
set_option maxRecDepth 20000
set_option linter.unusedVariables false
theorem alloc_oldD {W : World} {o : Obj} {b : Nat} (h : b < W.heap.size) : (W.alloc o).heap[b]? = W.heap[b]? := by simp [World.alloc, -World.alloc_eq, Array.getElem?_push, Nat.ne_of_lt h]
def plainF : Fn := ([102], (false, ([], ([], ([], ([], ([(25, 0)], ([1], ([], ([], []))))))))))
theorem alloc_newE {W : World} {o : Obj} {n : Nat} (h : n = W.heap.size) : (W.alloc o).heap[n]? = some o := h ▸ alloc_new _ _
theorem cells_blk {W : World} {g : Nat} {cs : Array Value} {t : TypeId} {f : Nat × Nat} (h : W.heap[g]? = some (.cells cs t f)) : Cells W (some ⟨g, 0, none⟩) cs.toList := by
  refine ⟨fun _ => ⟨_, _, rfl⟩, fun b off e j u hu => ?_⟩
  simp only [Option.some.injEq, Addr.mk.injEq, and_true] at e
  obtain ⟨rfl, rfl⟩ := e
  rw [Nat.zero_add]
  exact blk h j (by simpa using hu)
theorem repCs_cons {W : World} {who : Nat → Who} {c : C} {u : Value} {cs : List C} {us : List Value} (h : RepC W who c u) (hs : RepCs W who cs us) : RepCs W who (c :: cs) (u :: us) := by
  refine ⟨by simp [hs.1], fun i x v h1 h2 => ?_⟩
  cases i with
  | zero => cases h1; cases h2; exact h
  | succ i => exact hs.2 i x v h1 h2
theorem repC_nilS {W : World} {sz : Nat} : RepC W W0 (.fz sz []) (.slice none 0 0) := .fz sz 0 [] none [] (by simp) (by simp) (by simp) (by simp) (by simp) rfl (by simp)
theorem plain_walk (w : World) : Calls Tryd.prog 19 #[] w fun e w' => Ext w w' ∧ ∃ v, e = .returned (.agg #[v]) ∧ RepC w' W0 (.fz 11 (encL tF [plainF])) v := by
  go_enter Tryd.func19, Tryd.ntmps19
  go_wp2_with fail
  have h3 := alloc_newE (W := (((w.alloc (.cells #[.slice (some ⟨w.heap.size + 1 + 1 + 1, 0, none⟩) 1 1] 45)).alloc (.cells #[.int .i64 25, .int .i64 0] 39)).alloc (.cells #[.int .i64 1] 3))) (o := .cells #[.string ⟨#[102]⟩, .bool false, .slice none 0 0, .slice none 0 0, .slice none 0 0, .slice none 0 0, .slice (some ⟨w.heap.size + 1, 0, none⟩) 1 1, .slice (some ⟨w.heap.size + 1 + 1, 0, none⟩) 1 1, .slice none 0 0, .slice none 0 0, .slice none 0 0] 28) (n := w.heap.size + 1 + 1 + 1) (by simp)
  have h2 := (alloc_oldD (W := (((w.alloc (.cells #[.slice (some ⟨w.heap.size + 1 + 1 + 1, 0, none⟩) 1 1] 45)).alloc (.cells #[.int .i64 25, .int .i64 0] 39)).alloc (.cells #[.int .i64 1] 3))) (o := .cells #[.string ⟨#[102]⟩, .bool false, .slice none 0 0, .slice none 0 0, .slice none 0 0, .slice none 0 0, .slice (some ⟨w.heap.size + 1, 0, none⟩) 1 1, .slice (some ⟨w.heap.size + 1 + 1, 0, none⟩) 1 1, .slice none 0 0, .slice none 0 0, .slice none 0 0] 28) (b := w.heap.size + 1 + 1) (by simp)).trans (alloc_newE (by simp))
  have h1 := (alloc_oldD (W := (((w.alloc (.cells #[.slice (some ⟨w.heap.size + 1 + 1 + 1, 0, none⟩) 1 1] 45)).alloc (.cells #[.int .i64 25, .int .i64 0] 39)).alloc (.cells #[.int .i64 1] 3))) (o := .cells #[.string ⟨#[102]⟩, .bool false, .slice none 0 0, .slice none 0 0, .slice none 0 0, .slice none 0 0, .slice (some ⟨w.heap.size + 1, 0, none⟩) 1 1, .slice (some ⟨w.heap.size + 1 + 1, 0, none⟩) 1 1, .slice none 0 0, .slice none 0 0, .slice none 0 0] 28) (b := w.heap.size + 1) (by simp)).trans ((alloc_oldD (by simp)).trans (alloc_newE (by simp)))
  have h0 := (alloc_oldD (W := (((w.alloc (.cells #[.slice (some ⟨w.heap.size + 1 + 1 + 1, 0, none⟩) 1 1] 45)).alloc (.cells #[.int .i64 25, .int .i64 0] 39)).alloc (.cells #[.int .i64 1] 3))) (o := .cells #[.string ⟨#[102]⟩, .bool false, .slice none 0 0, .slice none 0 0, .slice none 0 0, .slice none 0 0, .slice (some ⟨w.heap.size + 1, 0, none⟩) 1 1, .slice (some ⟨w.heap.size + 1 + 1, 0, none⟩) 1 1, .slice none 0 0, .slice none 0 0, .slice none 0 0] 28) (b := w.heap.size) (by simp; omega)).trans ((alloc_oldD (by simp; omega)).trans ((alloc_oldD (by simp)).trans (alloc_newE rfl)))
  have hx := ((((Ext.rf w).al (.cells #[.slice (some ⟨w.heap.size + 1 + 1 + 1, 0, none⟩) 1 1] 45)).al (.cells #[.int .i64 25, .int .i64 0] 39)).al (.cells #[.int .i64 1] 3)).al (.cells #[.string ⟨#[102]⟩, .bool false, .slice none 0 0, .slice none 0 0, .slice none 0 0, .slice none 0 0, .slice (some ⟨w.heap.size + 1, 0, none⟩) 1 1, .slice (some ⟨w.heap.size + 1 + 1, 0, none⟩) 1 1, .slice none 0 0, .slice none 0 0, .slice none 0 0] 28)
  generalize (((w.alloc (.cells #[.slice (some ⟨w.heap.size + 1 + 1 + 1, 0, none⟩) 1 1] 45)).alloc (.cells #[.int .i64 25, .int .i64 0] 39)).alloc (.cells #[.int .i64 1] 3)).alloc (.cells #[.string ⟨#[102]⟩, .bool false, .slice none 0 0, .slice none 0 0, .slice none 0 0, .slice none 0 0, .slice (some ⟨w.heap.size + 1, 0, none⟩) 1 1, .slice (some ⟨w.heap.size + 1 + 1, 0, none⟩) 1 1, .slice none 0 0, .slice none 0 0, .slice none 0 0] 28) = W at *
  refine bodyPost_ret (results_cell_row rfl _ _ w.heap.size 45 _ (0, 0) _ rfl h0 Tryd.underlying45 rfl (by kernel_rfl)) rfl ⟨hx, _, rfl, ?_⟩
  have n : ∀ {sz : Nat}, RepC W W0 (.fz sz []) (.slice none 0 0) := repC_nilS
  have r6 : RepC W W0 (.fz 2 (encL tC [(25, 0)])) (.slice (some ⟨w.heap.size + 1, 0, none⟩) 1 1) := repC_in (us := [.int .i64 25, .int .i64 0]) (by decide) (by decide) (Nat.le_refl _) (cells_blk h1) (repCs_cons (.v _ rfl) (repCs_cons (.v _ rfl) repCs_nil))
  have r7 : RepC W W0 (.fz 1 (encL tI [1])) (.slice (some ⟨w.heap.size + 1 + 1, 0, none⟩) 1 1) := repC_in (us := [.int .i64 1]) (by decide) (by decide) (Nat.le_refl _) (cells_blk h2) (repCs_cons (.v _ rfl) repCs_nil)
  exact repC_in (by decide) (fun e he => by obtain ⟨x, _, rfl⟩ := List.mem_map.1 he; exact enc_len _ _) (Nat.le_refl _) (cells_blk h3) (repCs_cons (.v _ rfl) (repCs_cons (.v _ rfl) (repCs_cons n (repCs_cons n (repCs_cons n (repCs_cons n (repCs_cons r6 (repCs_cons r7 (repCs_cons n (repCs_cons n (repCs_cons n repCs_nil)))))))))))
theorem plain_ok : ∀ f ∈ [plainF], OkT f := fun f hf => by
  obtain rfl := List.mem_singleton.1 hf
  refine ⟨⟨by decide, by decide, by decide, by decide, by decide⟩, by decide, fun v hv => ?_, fun p hp => ?_⟩
  · obtain rfl := List.mem_singleton.1 hv
    exact ⟨by decide, by decide⟩
  · obtain rfl := List.mem_singleton.1 hp
    exact ⟨by decide, by decide⟩
def bareFn : Fn := ([102], (false, ([], ([], ([], ([], ([], ([], ([], ([], [])))))))))) 
theorem bare_ok : OkT bareFn := ⟨⟨by decide, by decide, by decide, by decide, by decide⟩, by decide, fun v hv => by simp [bareFn] at hv, fun p hp => by simp [bareFn] at hp⟩
theorem head_bare : headT [102] false [] [] [] [] = [102, 117, 110, 99, 32, 102, 32, 45, 32, 45, 32, 45] := by kernel_rfl
theorem text_plain : textT [plainF] = [102, 117, 110, 99, 32, 102, 32, 45, 32, 45, 32, 45, 10, 49, 32, 114, 101, 116, 10, 101, 110, 100, 10] := by kernel_rfl
theorem lives_walk (w : World) : Calls Tryd.prog 6 #[] w fun e w' => e = .returned (.bool true) ∧ Ext w w' := by
  have HH : Hid (∀ W, Calls Tryd.prog 9 #[.agg #[.string ⟨#[102]⟩, .bool false, .slice none 0 0, .slice none 0 0, .slice none 0 0, .slice none 0 0, .slice none 0 0, .slice none 0 0, .slice none 0 0, .slice none 0 0, .slice none 0 0]] W fun e W' => e = .returned (.string ⟨⟨[102, 117, 110, 99, 32, 102, 32, 45, 32, 45, 32, 45]⟩⟩) ∧ Ext W W') := Lib.hid fun W => by
    have n : ∀ {sz : Nat}, RepC W W0 (.fz sz []) (.slice none 0 0) := repC_nilS
    have := c_Head (W := W) bare_ok (repCs_cons (.v _ rfl) (repCs_cons (.v _ rfl) (repCs_cons n (repCs_cons n (repCs_cons n (repCs_cons n (repCs_cons n (repCs_cons n (repCs_cons n (repCs_cons n (repCs_cons n repCs_nil)))))))))))
    rw [show headT bareFn.1 bareFn.2.1 bareFn.2.2.1 bareFn.2.2.2.1 bareFn.2.2.2.2.1 bareFn.2.2.2.2.2.1 = [102, 117, 110, 99, 32, 102, 32, 45, 32, 45, 32, 45] from head_bare] at this
    exact this
  go_enter Tryd.func6, Tryd.ntmps6
  go_wp2_with fail
  refine (HH.out _).mono ?_
  rintro e w1 ⟨rfl, hx1⟩
  have HX1 := Lib.hid hx1
  clear hx1
  go_wp2_with fail
  refine (plain_walk _).mono ?_
  rintro e w2 ⟨hx2, v, rfl, hr⟩
  have HX2 := Lib.hid (HX1.out.tr hx2)
  have HD := Lib.hid (dis_Text_walk [plainF] v w2 hr plain_ok (by rw [text_plain]; decide))
  rw [text_plain] at HD
  clear hx2 hr
  go_wp2_with fail
  refine HD.out.mono ?_
  rintro e w3 ⟨rfl, hx3⟩
  have HX3 := Lib.hid (HX2.out.tr hx3)
  clear hx3 HD
  go_wp2_with fail
  go_ret
  exact ⟨rfl, HX3.out⟩
end Go.Proofs.YtkdnbnkbnegckaaDoor
