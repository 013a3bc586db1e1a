/- Law 18: what lives; the law. Results that lie in a cell. The instruction of a text: the walks of instr.Read and of its reference. -/
import Derived.Test.YtkdnbnkbnegckaaGreatDoorAc
import Derived.Test.YtkdnbnkbnegckaaGreatDoorSml
import Derived.Test.YtkdnbnkbnegckaaGreatDoorBase
import Derived.Laws.ResultCell
import Derived.Test.YtkdnbnkbnegckaaGreatDoorInstrX
import Derived.Test.YtkdnbnkbnegckaaGreatDoorShelf
namespace Go.Proofs.YtkdnbnkbnegckaaGreatDoor
open Go.RowKit
set_option maxRecDepth 20000
set_option linter.unusedVariables false
theorem alloc_oldD {W : World} {o : Obj} {b : Nat} (h : b < W.heap.size) : (W.alloc o).heap[b]? = W.heap[b]? := by simp [World.alloc, -World.alloc_eq, Array.getElem?_push, Nat.ne_of_lt h]
def plainF : Fn := ([102], (false, ([], ([], ([], ([], ([(25, 0)], ([1], ([], ([], []))))))))))
theorem alloc_newE {W : World} {o : Obj} {n : Nat} (h : n = W.heap.size) : (W.alloc o).heap[n]? = some o := h ▸ alloc_new _ _
theorem cells_blkL {W : World} {g : Nat} {cs : Array Value} {t : TypeId} {f : Nat × Nat} (h : W.heap[g]? = some (.cells cs t f)) : Cells W (some ⟨g, 0, none⟩) cs.toList := by
  refine ⟨fun _ => ⟨_, _, rfl⟩, fun b off e j u hu => ?_⟩
  simp only [Option.some.injEq, Addr.mk.injEq, and_true] at e
  obtain ⟨rfl, rfl⟩ := e
  rw [Nat.zero_add]
  exact blk h j (by simpa using hu)
theorem repCs_cons {W : World} {who : Nat → Who} {c : C} {u : Value} {cs : List C} {us : List Value} (h : RepC W who c u) (hs : RepCs W who cs us) : RepCs W who (c :: cs) (u :: us) := by
  refine ⟨by simp [hs.1], fun i x v h1 h2 => ?_⟩
  cases i with
  | zero => cases h1; cases h2; exact h
  | succ i => exact hs.2 i x v h1 h2
theorem repC_nilS {W : World} {sz : Nat} : RepC W W0 (.fz sz []) (.slice none 0 0) := .fz sz 0 [] none [] (by simp) (by simp) (by simp) (by simp) (by simp) rfl (by simp)
theorem plain_walk (w : World) : Calls Tryz.prog 39 #[] w fun e w' => Ext w w' ∧ ∃ v, e = .returned (.agg #[v]) ∧ RepC w' W0 (.fz 11 (encL tF [plainF])) v := by
  go_enter Tryz.func39, Tryz.ntmps39
  go_wp2_with fail
  have h3 := alloc_newE (W := (((w.alloc (.cells #[.slice (some ⟨w.heap.size + 1 + 1 + 1, 0, none⟩) 1 1] 42)).alloc (.cells #[.int .i64 25, .int .i64 0] 25)).alloc (.cells #[.int .i64 1] 3))) (o := .cells #[.string ⟨#[102]⟩, .bool false, .slice none 0 0, .slice none 0 0, .slice none 0 0, .slice none 0 0, .slice (some ⟨w.heap.size + 1, 0, none⟩) 1 1, .slice (some ⟨w.heap.size + 1 + 1, 0, none⟩) 1 1, .slice none 0 0, .slice none 0 0, .slice none 0 0] 35) (n := w.heap.size + 1 + 1 + 1) (by simp)
  have h2 := (alloc_oldD (W := (((w.alloc (.cells #[.slice (some ⟨w.heap.size + 1 + 1 + 1, 0, none⟩) 1 1] 42)).alloc (.cells #[.int .i64 25, .int .i64 0] 25)).alloc (.cells #[.int .i64 1] 3))) (o := .cells #[.string ⟨#[102]⟩, .bool false, .slice none 0 0, .slice none 0 0, .slice none 0 0, .slice none 0 0, .slice (some ⟨w.heap.size + 1, 0, none⟩) 1 1, .slice (some ⟨w.heap.size + 1 + 1, 0, none⟩) 1 1, .slice none 0 0, .slice none 0 0, .slice none 0 0] 35) (b := w.heap.size + 1 + 1) (by simp)).trans (alloc_newE (by simp))
  have h1 := (alloc_oldD (W := (((w.alloc (.cells #[.slice (some ⟨w.heap.size + 1 + 1 + 1, 0, none⟩) 1 1] 42)).alloc (.cells #[.int .i64 25, .int .i64 0] 25)).alloc (.cells #[.int .i64 1] 3))) (o := .cells #[.string ⟨#[102]⟩, .bool false, .slice none 0 0, .slice none 0 0, .slice none 0 0, .slice none 0 0, .slice (some ⟨w.heap.size + 1, 0, none⟩) 1 1, .slice (some ⟨w.heap.size + 1 + 1, 0, none⟩) 1 1, .slice none 0 0, .slice none 0 0, .slice none 0 0] 35) (b := w.heap.size + 1) (by simp)).trans ((alloc_oldD (by simp)).trans (alloc_newE (by simp)))
  have h0 := (alloc_oldD (W := (((w.alloc (.cells #[.slice (some ⟨w.heap.size + 1 + 1 + 1, 0, none⟩) 1 1] 42)).alloc (.cells #[.int .i64 25, .int .i64 0] 25)).alloc (.cells #[.int .i64 1] 3))) (o := .cells #[.string ⟨#[102]⟩, .bool false, .slice none 0 0, .slice none 0 0, .slice none 0 0, .slice none 0 0, .slice (some ⟨w.heap.size + 1, 0, none⟩) 1 1, .slice (some ⟨w.heap.size + 1 + 1, 0, none⟩) 1 1, .slice none 0 0, .slice none 0 0, .slice none 0 0] 35) (b := w.heap.size) (by simp; omega)).trans ((alloc_oldD (by simp; omega)).trans ((alloc_oldD (by simp)).trans (alloc_newE rfl)))
  have hx := ((((Ext.rf w).al (.cells #[.slice (some ⟨w.heap.size + 1 + 1 + 1, 0, none⟩) 1 1] 42)).al (.cells #[.int .i64 25, .int .i64 0] 25)).al (.cells #[.int .i64 1] 3)).al (.cells #[.string ⟨#[102]⟩, .bool false, .slice none 0 0, .slice none 0 0, .slice none 0 0, .slice none 0 0, .slice (some ⟨w.heap.size + 1, 0, none⟩) 1 1, .slice (some ⟨w.heap.size + 1 + 1, 0, none⟩) 1 1, .slice none 0 0, .slice none 0 0, .slice none 0 0] 35)
  generalize (((w.alloc (.cells #[.slice (some ⟨w.heap.size + 1 + 1 + 1, 0, none⟩) 1 1] 42)).alloc (.cells #[.int .i64 25, .int .i64 0] 25)).alloc (.cells #[.int .i64 1] 3)).alloc (.cells #[.string ⟨#[102]⟩, .bool false, .slice none 0 0, .slice none 0 0, .slice none 0 0, .slice none 0 0, .slice (some ⟨w.heap.size + 1, 0, none⟩) 1 1, .slice (some ⟨w.heap.size + 1 + 1, 0, none⟩) 1 1, .slice none 0 0, .slice none 0 0, .slice none 0 0] 35) = W at *
  refine bodyPost_ret (results_cell_row rfl _ _ w.heap.size 42 _ (0, 0) _ rfl h0 Tryz.underlying42 rfl (by kernel_rfl)) rfl ⟨hx, _, rfl, ?_⟩
  have n : ∀ {sz : Nat}, RepC W W0 (.fz sz []) (.slice none 0 0) := repC_nilS
  have r6 : RepC W W0 (.fz 2 (encL tC [(25, 0)])) (.slice (some ⟨w.heap.size + 1, 0, none⟩) 1 1) := repC_in (us := [.int .i64 25, .int .i64 0]) (by decide) (by decide) (Nat.le_refl _) (cells_blkL h1) (repCs_cons (.v _ rfl) (repCs_cons (.v _ rfl) repCs_nil))
  have r7 : RepC W W0 (.fz 1 (encL tI [1])) (.slice (some ⟨w.heap.size + 1 + 1, 0, none⟩) 1 1) := repC_in (us := [.int .i64 1]) (by decide) (by decide) (Nat.le_refl _) (cells_blkL h2) (repCs_cons (.v _ rfl) repCs_nil)
  exact repC_in (by decide) (fun e he => by obtain ⟨x, _, rfl⟩ := List.mem_map.1 he; exact enc_len _ _) (Nat.le_refl _) (cells_blkL h3) (repCs_cons (.v _ rfl) (repCs_cons (.v _ rfl) (repCs_cons n (repCs_cons n (repCs_cons n (repCs_cons n (repCs_cons r6 (repCs_cons r7 (repCs_cons n (repCs_cons n (repCs_cons n repCs_nil)))))))))))
theorem plain_ok : ∀ f ∈ [plainF], OkT f := fun f hf => by
  obtain rfl := List.mem_singleton.1 hf
  refine ⟨⟨by decide, by decide, by decide, by decide, by decide⟩, by decide, fun v hv => ?_, fun p hp => ?_⟩
  · obtain rfl := List.mem_singleton.1 hv
    exact ⟨by decide, by decide⟩
  · obtain rfl := List.mem_singleton.1 hp
    exact ⟨by decide, by decide⟩
def bareFn : Fn := ([102], (false, ([], ([], ([], ([], ([], ([], ([], ([], [])))))))))) 
theorem bare_ok : OkT bareFn := ⟨⟨by decide, by decide, by decide, by decide, by decide⟩, by decide, fun v hv => by simp [bareFn] at hv, fun p hp => by simp [bareFn] at hp⟩
theorem head_bare : headT [102] false [] [] [] [] = [102, 117, 110, 99, 32, 102, 32, 45, 32, 45, 32, 45] := by kernel_rfl
theorem text_plain : textT [plainF] = [102, 117, 110, 99, 32, 102, 32, 45, 32, 45, 32, 45, 10, 49, 32, 114, 101, 116, 10, 101, 110, 100, 10] := by kernel_rfl
theorem lives_walk (w : World) : Calls Tryz.prog 13 #[] w fun e w' => e = .returned (.bool true) ∧ Ext w w' := by
  have HH : Hid (∀ W, Calls Tryz.prog 38 #[.agg #[.string ⟨#[102]⟩, .bool false, .slice none 0 0, .slice none 0 0, .slice none 0 0, .slice none 0 0, .slice none 0 0, .slice none 0 0, .slice none 0 0, .slice none 0 0, .slice none 0 0]] W fun e W' => e = .returned (.string ⟨⟨[102, 117, 110, 99, 32, 102, 32, 45, 32, 45, 32, 45]⟩⟩) ∧ Ext W W') := Lib.hid fun W => by
    have n : ∀ {sz : Nat}, RepC W W0 (.fz sz []) (.slice none 0 0) := repC_nilS
    have := c_Head (W := W) bare_ok (repCs_cons (.v _ rfl) (repCs_cons (.v _ rfl) (repCs_cons n (repCs_cons n (repCs_cons n (repCs_cons n (repCs_cons n (repCs_cons n (repCs_cons n (repCs_cons n (repCs_cons n repCs_nil)))))))))))
    rw [show headT bareFn.1 bareFn.2.1 bareFn.2.2.1 bareFn.2.2.2.1 bareFn.2.2.2.2.1 bareFn.2.2.2.2.2.1 = [102, 117, 110, 99, 32, 102, 32, 45, 32, 45, 32, 45] from head_bare] at this
    exact this
  go_enter Tryz.func13, Tryz.ntmps13
  go_wp2_with fail
  refine (HH.out _).mono ?_
  rintro e w1 ⟨rfl, hx1⟩
  have HX1 := Lib.hid hx1
  clear hx1
  go_wp2_with fail
  refine (plain_walk _).mono ?_
  rintro e w2 ⟨hx2, v, rfl, hr⟩
  have HX2 := Lib.hid (HX1.out.tr hx2)
  have HD := Lib.hid (dis_Text_walk [plainF] v w2 hr plain_ok (by rw [text_plain]; decide))
  rw [text_plain] at HD
  clear hx2 hr
  go_wp2_with fail
  refine HD.out.mono ?_
  rintro e w3 ⟨rfl, hx3⟩
  have HX3 := Lib.hid (HX2.out.tr hx3)
  clear hx3 HD
  go_wp2_with fail
  go_ret
  exact ⟨rfl, HX3.out⟩
end Go.Proofs.YtkdnbnkbnegckaaGreatDoor
namespace Go.Proofs.YtkdnbnkbnegckaaGreatDoor
open Go.RowKit
/-- A cursor of two cells, written anew. -/
theorem set2 {W : World} {g : Nat} {x y : Value} {t : TypeId} {fz : Nat × Nat} (h : W.heap[g]? = some (.cells #[x, y] t fz)) (a b : Value) : ((W.setCell ⟨g, 0, none⟩ a).setCell ⟨g, 1, none⟩ b).heap[g]? = some (.cells #[a, b] t fz) :=
  set_blk (set_blk h 0 a) 1 b
theorem ext2 {w W : World} {g : Nat} (h : Ext w W) (hg : w.heap.size ≤ g) (a b : Value) : Ext w ((W.setCell ⟨g, 0, none⟩ a).setCell ⟨g, 1, none⟩ b) :=
  Below.setCell (Below.setCell h.b (p := ⟨g, 0, none⟩) hg a) (p := ⟨g, 1, none⟩) hg b
theorem ret_cell_tmp {fn : Func} {p u : Tmp} {ty : TypeId} (h : fn.results = #[.cell p ty, .tmp u]) {tmps : Array Value} {P : Program} {w : World} {A : Addr} {v : Value} (hp : tmps.getD p undef = .pointer (some A)) (hv : (loadVar ty A).run P w = .ok v w) :
    (results fn tmps).run P w = .ok (.tuple #[v, tmps.getD u undef]) w := by
  rw [results_cell_tmp h, hp]
  simp [asAddr, Result.andThen, hv]
end Go.Proofs.YtkdnbnkbnegckaaGreatDoor
namespace Go.Proofs.YtkdnbnkbnegckaaGreatDoor
open Go.RowKit

/-- Where the first blank is. -/
def sp : List UInt8 → Nat
  | [] => 0
  | b :: t => if b = 32 then 0 else sp t + 1
theorem sp_index (s : List UInt8) : Lib.index s [32] = if sp s < s.length then (sp s : Int) else -1 := by
  induction s with
  | nil => rfl
  | cons b t ih =>
    by_cases h : b = 32
    · subst h
      have hs : sp (32 :: t) = 0 := by simp [sp]
      rw [hs]; simp [Lib.index]
    · have h2 : [32].isPrefixOf (b :: t) = false := by simp [List.isPrefixOf, Ne.symm h]
      have hs : sp (b :: t) = sp t + 1 := by simp [sp, h]
      rw [hs]
      show (if [32].isPrefixOf (b :: t) = true then (0 : Int) else if (Lib.index t [32] == -1) = true then -1 else Lib.index t [32] + 1) = _
      rw [h2]
      by_cases h3 : sp t < t.length
      · rw [if_pos h3] at ih
        have h4 : ((sp t : Int) == -1) = false := by rw [beq_eq_false_iff_ne]; omega
        rw [ih, h4, if_pos (show sp t + 1 < (b :: t).length by rw [List.length_cons]; omega)]
        simp
      · rw [if_neg h3] at ih
        rw [ih, if_neg (show ¬ sp t + 1 < (b :: t).length by rw [List.length_cons]; omega)]
        simp
def restS (s : List UInt8) : List UInt8 := if sp s < s.length then s.drop (sp s + 1) else []
theorem cut32 (s : List UInt8) : Lib.cut s [32] = (s.take (sp s), restS s, decide (sp s < s.length)) := by
  unfold Lib.cut restS
  rw [sp_index]
  by_cases h : sp s < s.length
  · rw [if_pos h, if_pos (by omega), if_pos h, Int.toNat_natCast, decide_eq_true h]; rfl
  · rw [if_neg h, if_neg (by omega), if_neg h, decide_eq_false h, List.take_of_length_le (by omega)]
/-- The instruction of a text, or why there is none. -/
def readI (s : List UInt8) : InstrT × Int :=
  if (findI (s.take (sp s))).2 = false then ((0, 0), 8)
  else if operandI (findI (s.take (sp s))).1 = 0 then (if sp s < s.length then ((0, 0), 5) else (((findI (s.take (sp s))).1, 0), 0))
  else if sp s < s.length then
    (if (numN (restS s)).2 = 0 then (if rightInstr ((findI (s.take (sp s))).1, (numN (restS s)).1) = true then (((findI (s.take (sp s))).1, (numN (restS s)).1), 0) else ((0, 0), 2)) else ((0, 0), (numN (restS s)).2))
  else ((0, 0), 5)

theorem readI_eq (s : List UInt8) (F : Int × Bool) (hF : F = findI (s.take (sp s))) (N : Int × Int) (hN : N = numN (restS s)) :
    (F.2 = false → readI s = ((0, 0), 8)) ∧ (F.2 = true → operandI F.1 = 0 → sp s < s.length → readI s = ((0, 0), 5)) ∧ (F.2 = true → operandI F.1 = 0 → ¬ sp s < s.length → readI s = ((F.1, 0), 0)) ∧
    (F.2 = true → operandI F.1 ≠ 0 → ¬ sp s < s.length → readI s = ((0, 0), 5)) ∧ (F.2 = true → operandI F.1 ≠ 0 → sp s < s.length → N.2 ≠ 0 → readI s = ((0, 0), N.2)) ∧
    (F.2 = true → operandI F.1 ≠ 0 → sp s < s.length → N.2 = 0 → rightInstr (F.1, N.1) = true → readI s = ((F.1, N.1), 0)) ∧
    (F.2 = true → operandI F.1 ≠ 0 → sp s < s.length → N.2 = 0 → rightInstr (F.1, N.1) = false → readI s = ((0, 0), 2)) := by
  subst hF; subst hN
  unfold readI
  refine ⟨fun h => ?_, fun h h2 h3 => ?_, fun h h2 h3 => ?_, fun h h2 h3 => ?_, fun h h2 h3 h4 => ?_, fun h h2 h3 h4 h5 => ?_, fun h h2 h3 h4 h5 => ?_⟩
  · rw [if_pos h]
  · rw [if_neg (by rw [h]; decide), if_pos h2, if_pos h3]
  · rw [if_neg (by rw [h]; decide), if_pos h2, if_neg h3]
  · rw [if_neg (by rw [h]; decide), if_neg h2, if_neg h3]
  · rw [if_neg (by rw [h]; decide), if_neg h2, if_pos h3, if_neg h4]
  · rw [if_neg (by rw [h]; decide), if_neg h2, if_pos h3, if_pos h4, if_pos h5]
  · rw [if_neg (by rw [h]; decide), if_neg h2, if_pos h3, if_pos h4, if_neg (by rw [h5]; decide)]
theorem findI_is {s : List UInt8} (h : (findI s).2 = true) : isOp (findI s).1 = true := by
  unfold findI at *
  cases hf : findL s with
  | none => rw [hf] at h; cases h
  | some k =>
    have hk : k < 35 := by
      unfold findL at hf
      have := List.mem_of_find?_eq_some hf
      simpa using this
    simp [isOp]; omega
theorem numN_bd (s : List UInt8) : I64 (numN s).1 := by
  unfold numN; split
  · exact digW_bd _ _ 0 ⟨by decide, by decide⟩
  · exact ⟨by decide, by decide⟩
set_option maxHeartbeats 2000000 in
set_option maxRecDepth 20000 in
theorem instr_Read (s : List UInt8) (m : Int) (w : World) (hm : w.cell? ⟨0, 0, none⟩ = some (.int .i64 m)) (hl : s.length < 4294967281) :
    Calls Tryz.prog 20 #[.string (strB s)] w fun e w' => e = .returned (.tuple #[.agg #[.int .i64 (readI s).1.1, .int .i64 (readI s).1.2], .int .i64 (readI s).2]) ∧ Ext w w' := by
  have HP := Lib.hid (fun w' hm' => Tryz.strings_Cut (strB s) ⟨#[32]⟩ m w' (by rw [strB_size]; exact hl) hm')
  rw [strB_toL, show (⟨#[32]⟩ : ByteArray).data.toList = [32] from rfl, cut32] at HP
  have HRL : Hid ((restS s).length ≤ s.length) := by unfold restS; rw [Hid]; split <;> simp
  have HQ := Lib.hid (readI_eq s _ rfl _ rfl)
  have HOP := Lib.hid (findI_is (s := s.take (sp s)))
  have HNB := Lib.hid (numN_bd (restS s))
  have HNUM := Lib.hid (fun W => instr_Number (restS s) W (by have := HRL.out; omega))
  have HFD := Lib.hid (fun W => ops_Find (s.take (sp s)) W)
  generalize readI s = V at *
  generalize numN (restS s) = N at *
  generalize findI (s.take (sp s)) = F at *
  obtain ⟨op, ok⟩ := F
  obtain ⟨nn, ne⟩ := N
  obtain ⟨nb1, nb2⟩ := HNB.out
  dsimp only at HQ HOP HNUM HFD nb1 nb2
  have hm1 := fun o => ((Ext.rf w).al o).has hm
  go_enter Tryz.func20, Tryz.ntmps20
  go_wp2_with fail
  refine (HP.out _ (hm1 _)).mono ?_
  rintro e w1 ⟨rfl, nd, rfl⟩
  have D0 := Lib.hid (show ((w.alloc (.cells #[.int .i64 0, .int .i64 0] 25)).drewN nd).heap[w.heap.size]? = some (.cells #[.int .i64 0, .int .i64 0] 25 (0, 0)) from alloc_new w _)
  have HX1 := Lib.hid (((Ext.rf w).al (.cells #[.int .i64 0, .int .i64 0] 25)).drN nd)
  generalize (w.alloc (.cells #[.int .i64 0, .int .i64 0] 25)).drewN nd = w1 at *
  clear hm hm1 HP
  go_wp2_with fail
  refine (HFD.out _).mono ?_
  rintro e w2 ⟨rfl, hx2⟩
  have D0 := Lib.hid (hx2.blk D0.out)
  have HX2 := Lib.hid (HX1.out.tr hx2)
  have e0 := blk D0.out 0 rfl
  have e1 := blk D0.out 1 rfl
  have f0 := frozen_blk D0.out 0
  have f1 := frozen_blk D0.out 1
  have E0 : ∀ o, (w2.alloc o).heap[w.heap.size]? = some (.cells #[.int .i64 0, .int .i64 0] 25 (0, 0)) := fun o => Ext.blk ((Ext.rf w2).al o) D0.out
  have a0 : ∀ o, (w2.alloc o).cell? ⟨w.heap.size, 0, none⟩ = some (.int .i64 0) := fun o => blk (E0 o) 0 rfl
  have a1 : ∀ o, (w2.alloc o).cell? ⟨w.heap.size, 1, none⟩ = some (.int .i64 0) := fun o => blk (E0 o) 1 rfl
  have g0 := fun o => frozen_blk (E0 o) 0
  have g1 := fun o => frozen_blk (E0 o) 1
  have HE0 := Lib.hid E0
  clear hx2 HX1 E0
  obtain ⟨q1, q2, q3, q4, q5, q6, q7⟩ := HQ.out
  clear HQ
  cases hok : ok with
  | false =>
    have HV := Lib.hid (q1 hok)
    clear q1 q2 q3 q4 q5 q6 q7 hok
    go_wp2_with fail
    exact bodyPost_ret (ret_cell_tmp rfl rfl (load_instr (set2 D0.out _ _))) rfl ⟨by rw [HV.out] <;> rfl, ext2 HX2.out (Nat.le_refl _) _ _⟩
  | true =>
    have hop := HOP.out hok
    have HRZ := Lib.hid (right_zero hop)
    clear q1 hop
    by_cases h0 : operandI op = 0
    · have t1 : (operandI op != 0) = false := by rw [h0]; rfl
      by_cases hs : sp s < s.length
      · have HV := Lib.hid (q2 hok h0 hs)
        have t2 : decide (sp s < s.length) = true := decide_eq_true hs
        clear q2 q3 q4 q5 q6 q7 hok h0 hs
        go_wp2_with fail
        refine (instr_has op _).mono ?_
        rintro e w3 ⟨rfl, rfl⟩
        go_wp2_with fail
        exact bodyPost_ret (ret_cell_tmp rfl rfl (load_instr (set2 D0.out _ _))) rfl ⟨by rw [HV.out] <;> rfl, ext2 HX2.out (Nat.le_refl _) _ _⟩
      · have HV := Lib.hid (q3 hok h0 hs)
        have t2 : decide (sp s < s.length) = false := decide_eq_false hs
        have hq : ∀ W, (binOp .neq 25 (.agg #[.int .i64 op, .int .i64 0]) (.agg #[.int .i64 op, .int .i64 0])).run Tryz.prog W = .ok (.bool false) W := fun W => by
          have h := run_neq_ints (P := Tryz.prog) (k := .i64) (t := 25) (n := 2) (by decide) (by kernel_rfl) W [op, 0] [op, 0] rfl rfl
          simpa using h
        clear q2 q3 q4 q5 q6 q7 hok h0 hs
        go_wp2_with fail
        refine (instr_has op _).mono ?_
        rintro e w3 ⟨rfl, rfl⟩
        go_wp2_with fail
        exact bodyPost_ret (ret_cell_tmp rfl rfl (load_instr (set2 (HE0.out _) _ _))) rfl ⟨by rw [HV.out] <;> rfl, ext2 (HX2.out.al _) (Nat.le_refl _) _ _⟩
    · have t1 : (operandI op != 0) = true := by simpa using h0
      by_cases hs : sp s < s.length
      · have t2 : decide (sp s < s.length) = true := decide_eq_true hs
        by_cases hne : ne = 0
        · have t3 : (ne != 0) = false := by rw [hne]; rfl
          have hq : ∀ W, (binOp .neq 25 (.agg #[.int .i64 op, .int .i64 nn]) (.agg #[.int .i64 op, .int .i64 0])).run Tryz.prog W = .ok (.bool (nn != 0)) W := fun W => by
            have h := run_neq_ints (P := Tryz.prog) (k := .i64) (t := 25) (n := 2) (by decide) (by kernel_rfl) W [op, nn] [op, 0] rfl rfl
            have e : (!decide ([op, nn] = [op, 0])) = (nn != 0) := by
              by_cases h : nn = 0 <;> simp [h]
            rw [← e]; exact h
          have HV1 := Lib.hid (fun h => q6 hok h0 hs hne h)
          have HV2 := Lib.hid (fun h => q7 hok h0 hs hne h)
          clear q2 q3 q4 q5 q6 q7 hok h0 hs hne
          go_wp2_with fail
          refine (instr_has op _).mono ?_
          rintro e w3 ⟨rfl, rfl⟩
          go_wp2_with fail
          refine (HNUM.out _).mono ?_
          rintro e w4 ⟨rfl, hx4⟩
          have D4 := Lib.hid (hx4.blk (HE0.out (.cells #[.int .i64 op, .int .i64 0] 25)))
          have B4 := Lib.hid (hx4.blk (alloc_new w2 (.cells #[.int .i64 op, .int .i64 0] 25)))
          have HX4 := Lib.hid ((HX2.out.al _).tr hx4)
          have hsz2 : w.heap.size < w2.heap.size := (Array.getElem?_eq_some_iff.1 D0.out).1
          clear hx4 e0 e1 f0 f1 a0 a1 g0 g1
          generalize w2.heap.size = g2 at *
          have b0 : w4.cell? ⟨g2, 0, none⟩ = some (.int .i64 op) := blk B4.out 0 rfl
          have b1 : w4.cell? ⟨g2, 1, none⟩ = some (.int .i64 0) := blk B4.out 1 rfl
          have k0 := frozen_blk B4.out 0
          have k1 := frozen_blk B4.out 1
          go_upto_region 13 with fail
          obtain ⟨w5, hw5⟩ : ∃ x, x = w4.setCell ⟨g2, 1, none⟩ (.int .i64 nn) := ⟨_, rfl⟩
          rw [← hw5]
          have D5 := Lib.hid (show w5.heap[w.heap.size]? = some (.cells #[.int .i64 0, .int .i64 0] 25 (0, 0)) by rw [hw5, Below.heap_setCell _ _ _ _ (by show w.heap.size ≠ g2; omega)]; exact D4.out)
          have B5 := Lib.hid (show w5.heap[g2]? = some (.cells #[.int .i64 op, .int .i64 nn] 25 (0, 0)) by rw [hw5]; exact set_blk B4.out 1 _)
          have HX5 := Lib.hid (show Ext w w5 by rw [hw5]; exact Below.setCell HX4.out.b (p := ⟨g2, 1, none⟩) (Nat.le_of_lt hsz2) _)
          clear hw5 D4 B4 HX4 b0 b1 k0 k1
          have b0 : w5.cell? ⟨g2, 0, none⟩ = some (.int .i64 op) := blk B5.out 0 rfl
          have b1 : w5.cell? ⟨g2, 1, none⟩ = some (.int .i64 nn) := blk B5.out 1 rfl
          by_cases hn0 : nn = 0
          · have t4 : (nn != 0) = false := by rw [hn0]; rfl
            have HV := Lib.hid (HV1.out (by rw [hn0]; exact HRZ.out))
            have c0 : w5.cell? ⟨w.heap.size, 0, none⟩ = some (.int .i64 0) := blk D5.out 0 rfl
            have c1 : w5.cell? ⟨w.heap.size, 1, none⟩ = some (.int .i64 0) := blk D5.out 1 rfl
            have k0 := frozen_blk D5.out 0
            have k1 := frozen_blk D5.out 1
            clear hn0
            go_wp2_with fail
            exact bodyPost_ret (ret_cell_tmp rfl rfl (load_instr (set2 D5.out _ _))) rfl ⟨by rw [HV.out] <;> rfl, ext2 HX5.out (Nat.le_refl _) _ _⟩
          · have t4 : (nn != 0) = true := by simpa using hn0
            clear hn0
            cases hr : rightInstr (op, nn) with
            | true =>
              have HV := Lib.hid (HV1.out hr)
              go_wp2_with fail
              refine (instr_Right op nn _).mono ?_
              rw [hr]
              rintro e w6 ⟨rfl, hx6⟩
              have D6 := Lib.hid (hx6.blk D5.out)
              have HX6 := Lib.hid (HX5.out.tr hx6)
              have j0 := hx6.has b0
              have j1 := hx6.has b1
              have c0 : w6.cell? ⟨w.heap.size, 0, none⟩ = some (.int .i64 0) := blk D6.out 0 rfl
              have c1 : w6.cell? ⟨w.heap.size, 1, none⟩ = some (.int .i64 0) := blk D6.out 1 rfl
              have k0 := frozen_blk D6.out 0
              have k1 := frozen_blk D6.out 1
              clear hx6 hr b0 b1
              go_wp2_with fail
              exact bodyPost_ret (ret_cell_tmp rfl rfl (load_instr (set2 D6.out _ _))) rfl ⟨by rw [HV.out] <;> rfl, ext2 HX6.out (Nat.le_refl _) _ _⟩
            | false =>
              have HV := Lib.hid (HV2.out hr)
              go_wp2_with fail
              refine (instr_Right op nn _).mono ?_
              rw [hr]
              rintro e w6 ⟨rfl, hx6⟩
              have D6 := Lib.hid (hx6.blk D5.out)
              have HX6 := Lib.hid (HX5.out.tr hx6)
              have c0 : w6.cell? ⟨w.heap.size, 0, none⟩ = some (.int .i64 0) := blk D6.out 0 rfl
              have c1 : w6.cell? ⟨w.heap.size, 1, none⟩ = some (.int .i64 0) := blk D6.out 1 rfl
              have k0 := frozen_blk D6.out 0
              have k1 := frozen_blk D6.out 1
              clear hx6 hr b0 b1
              go_wp2_with fail
              exact bodyPost_ret (ret_cell_tmp rfl rfl (load_instr (set2 D6.out _ _))) rfl ⟨by rw [HV.out] <;> rfl, ext2 HX6.out (Nat.le_refl _) _ _⟩
        · have HV := Lib.hid (q5 hok h0 hs hne)
          have t3 : (ne != 0) = true := by simpa using hne
          clear q2 q3 q4 q5 q6 q7 hok h0 hs hne
          go_wp2_with fail
          refine (instr_has op _).mono ?_
          rintro e w3 ⟨rfl, rfl⟩
          go_wp2_with fail
          refine (HNUM.out _).mono ?_
          rintro e w4 ⟨rfl, hx4⟩
          have D4 := Lib.hid (hx4.blk (HE0.out (.cells #[.int .i64 op, .int .i64 0] 25)))
          have HX4 := Lib.hid ((HX2.out.al _).tr hx4)
          have b0 : w4.cell? ⟨w.heap.size, 0, none⟩ = some (.int .i64 0) := blk D4.out 0 rfl
          have b1 : w4.cell? ⟨w.heap.size, 1, none⟩ = some (.int .i64 0) := blk D4.out 1 rfl
          have k0 := frozen_blk D4.out 0
          have k1 := frozen_blk D4.out 1
          clear hx4
          go_wp2_with fail
          exact bodyPost_ret (ret_cell_tmp rfl rfl (load_instr (set2 D4.out _ _))) rfl ⟨by rw [HV.out] <;> rfl, ext2 HX4.out (Nat.le_refl _) _ _⟩
      · have HV := Lib.hid (q4 hok h0 hs)
        have t2 : decide (sp s < s.length) = false := decide_eq_false hs
        clear q2 q3 q4 q5 q6 q7 hok h0 hs
        go_wp2_with fail
        refine (instr_has op _).mono ?_
        rintro e w3 ⟨rfl, rfl⟩
        go_wp2_with fail
        exact bodyPost_ret (ret_cell_tmp rfl rfl (load_instr (set2 D0.out _ _))) rfl ⟨by rw [HV.out] <;> rfl, ext2 HX2.out (Nat.le_refl _) _ _⟩

end Go.Proofs.YtkdnbnkbnegckaaGreatDoor
