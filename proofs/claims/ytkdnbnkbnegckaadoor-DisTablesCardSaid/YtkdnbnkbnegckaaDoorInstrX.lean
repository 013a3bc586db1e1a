/- The number that a text is, in plain Lean; the walks of instr.Number and of its reference. Instructions: small facts for their walks. The text of an instruction: the walks of instr.Text and of its reference. -/
import Derived.Test.YtkdnbnkbnegckaaDoorOpsW
import Derived.Test.YtkdnbnkbnegckaaDoorDigI
import Derived.Test.YtkdnbnkbnegckaaDoorShelf
import Derived.Test.YtkdnbnkbnegckaaDoorInstr
import Derived.Test.YtkdnbnkbnegckaaDoorTreeU
namespace Go.Proofs.YtkdnbnkbnegckaaDoor
open Go.RowKit

end Go.Proofs.YtkdnbnkbnegckaaDoor
namespace Go.Proofs.YtkdnbnkbnegckaaDoor
open Go.RowKit

theorem operandI_nn (op : Int) (h : operandI op ≠ 0) : 0 < operandI op := by have := operandI_lt op; omega
end Go.Proofs.YtkdnbnkbnegckaaDoor
namespace Go.Proofs.YtkdnbnkbnegckaaDoor
open Go.RowKit

/-- The text of an instruction. -/
def textI (i : InstrT) : List UInt8 := if rightInstr i = true then (if operandI i.1 = 0 then opNameL i.1 else opNameL i.1 ++ 32 :: decB i.2) else []

theorem textI_no {i : InstrT} (h : rightInstr i = false) : textI i = [] := by unfold textI; rw [if_neg (by rw [h]; decide)]
theorem textI_bare {i : InstrT} (h : rightInstr i = true) (h2 : operandI i.1 = 0) : textI i = opNameL i.1 := by unfold textI; rw [if_pos h, if_pos h2]
theorem textI_has {i : InstrT} (h : rightInstr i = true) (h2 : operandI i.1 ≠ 0) : textI i = opNameL i.1 ++ 32 :: decB i.2 := by unfold textI; rw [if_pos h, if_neg h2]
theorem strB_has (a b : List UInt8) : strB (a ++ 32 :: b) = strB a ++ (⟨#[32]⟩ : ByteArray) ++ strB b := by
  rw [show (⟨#[32]⟩ : ByteArray) = strB [32] from rfl, strB_app, strB_app]; simp
set_option maxHeartbeats 1000000 in
set_option maxRecDepth 20000 in
theorem instr_Text (a b : Int) (w : World) (hb : I64 b) : Calls Tryd.prog 55 #[.agg #[.int .i64 a, .int .i64 b]] w fun e w' => e = .returned (.string (strB (textI (a, b)))) ∧ Ext w w' := by
  obtain ⟨hb1, hb2⟩ := hb
  have HN : Hid (∀ q, q = opNameL a → q.length ≤ 10) := fun q h => by rw [h]; exact opNameL_len a
  have HDL := Lib.hid (decB_len hb1 hb2)
  have HT1 := Lib.hid (fun h => textI_no (i := (a, b)) h)
  have HT2 := Lib.hid (fun h h2 => textI_bare (i := (a, b)) h h2)
  have HT3 := Lib.hid (fun h h2 => textI_has (i := (a, b)) h h2)
  have HSB := Lib.hid (strB_has (opNameL a) (decB b))
  go_enter Tryd.func55, Tryd.ntmps55
  go_upto_region 1 with fail
  obtain ⟨hx0, hz0, hcA⟩ := one_box w ([.int .i64 a, .int .i64 b] : List Value) 39
  generalize hW1 : w.alloc (.cells ([.int .i64 a, .int .i64 b] : List Value).toArray 39) = W1 at *
  clear hW1
  have c0 : W1.cell? ⟨w.heap.size, 0, none⟩ = some (.int .i64 a) := by have := hcA.cell _ _ rfl 0 _ rfl; rwa [Nat.zero_add] at this
  have c1 : W1.cell? ⟨w.heap.size, 1, none⟩ = some (.int .i64 b) := by have := hcA.cell _ _ rfl 1 _ rfl; rwa [Nat.zero_add] at this
  clear hcA
  have HX0 := Lib.hid hx0
  clear hx0
  go_wp2_with fail
  refine (instr_Right a b _).mono ?_
  rintro e w2 ⟨rfl, hx2⟩
  have d0 := hx2.has c0
  have d1 := hx2.has c1
  have HX2 := Lib.hid (HX0.out.tr hx2)
  clear hx2 c0 c1
  cases hr : rightInstr (a, b) with
  | false =>
    have HR := Lib.hid (HT1.out hr)
    clear hr
    go_wp2_with fail
    go_ret
    exact ⟨by rw [HR.out] <;> rfl, HX2.out⟩
  | true =>
    by_cases h0 : operandI a = 0
    · have HR := Lib.hid (HT2.out hr h0)
      have t1 : (operandI a != 0) = false := by rw [h0]; rfl
      clear hr h0
      go_wp2_with fail
      refine (instr_has a _).mono ?_
      rintro e w3 ⟨rfl, rfl⟩
      go_wp2_with fail
      refine (ops_Name a _).mono ?_
      rintro e w4 ⟨rfl, hx4⟩
      go_wp2_with fail
      go_ret
      exact ⟨by rw [HR.out] <;> rfl, HX2.out.tr hx4⟩
    · have HR := Lib.hid (HT3.out hr h0)
      have t1 : (operandI a != 0) = true := by simpa using h0
      have q1 : (strB (opNameL a)).size ≤ 10 := by rw [strB_size]; exact HN.out _ rfl
      have q2 : (strB (decB b)).size ≤ 20 := by rw [strB_size]; exact HDL.out
      have K1 := Lib.hid (fun W => ops_Name a W)
      have K2 := Lib.hid (fun W => instr_Digits b W hb1 hb2)
      clear hr h0
      generalize strB (opNameL a) = T at *
      generalize strB (decB b) = D at *
      have f1 : ¬ 9223372036854775807 < T.size + 1 := by omega
      have f2 : ¬ 9223372036854775807 < T.size + 1 + D.size := by omega
      go_wp2_with fail
      refine (instr_has a _).mono ?_
      rintro e w3 ⟨rfl, rfl⟩
      go_wp2_with fail
      refine wp_region_ext (fun W => Ext w2 W) (by kernel_rfl) ((Ext.rf _).dr) (fun hS0 => ?_)
      refine take_op 0 (v := ?_) rfl (by kernel_rfl) (by kernel_rfl) (by kernel_rfl) (Or.inl ⟨by rfl, ?_⟩) (by assumption) ?_
      rotate_left 1
      · (intro W hS; go_simp; try with_reducible rfl)
      (try simp only [Act.put, List.setIfInBounds_toArray, List.set_cons_zero, List.set_cons_succ])
      refine take_op 1 (v := ?_) rfl (by kernel_rfl) (by kernel_rfl) (by kernel_rfl) (Or.inl ⟨by rfl, ?_⟩) (by assumption) ?_
      rotate_left 1
      · (intro W hS; have d0 := hS.has d0; have d1 := hS.has d1; go_simp; try with_reducible rfl)
      (try simp only [Act.put, List.setIfInBounds_toArray, List.set_cons_zero, List.set_cons_succ])
      refine take_op 4 (v := ?_) rfl (by kernel_rfl) (by kernel_rfl) (by kernel_rfl) (Or.inl ⟨by rfl, ?_⟩) (by assumption) ?_
      rotate_left 1
      · (intro W hS; go_simp; try with_reducible rfl)
      (try simp only [Act.put, List.setIfInBounds_toArray, List.set_cons_zero, List.set_cons_succ])
      refine take_op 5 (v := ?_) rfl (by kernel_rfl) (by kernel_rfl) (by kernel_rfl) (Or.inl ⟨by rfl, ?_⟩) (by assumption) ?_
      rotate_left 1
      · (intro W hS; have d0 := hS.has d0; have d1 := hS.has d1; go_simp; try with_reducible rfl)
      (try simp only [Act.put, List.setIfInBounds_toArray, List.set_cons_zero, List.set_cons_succ])
      refine do_op 2 rfl (by kernel_rfl) (fun K hK => ?_)
      go_simp; (with_reducible refine (K1.out _).mono ?_); rintro e w4 ⟨rfl, hx4⟩; have hy4 := (Ext.rf w2).dr.tr hx4
      refine hK.out _ _ hy4 (fun hS => ?_)
      clear hK K
      (try simp only [Act.put, List.setIfInBounds_toArray, List.set_cons_zero, List.set_cons_succ])
      refine take_op 3 (v := ?_) rfl (by kernel_rfl) (by kernel_rfl) (by kernel_rfl) (Or.inl ⟨by rfl, ?_⟩) (by assumption) ?_
      rotate_left 1
      · (intro W hS; go_simp; try with_reducible rfl)
      (try simp only [Act.put, List.setIfInBounds_toArray, List.set_cons_zero, List.set_cons_succ])
      refine do_op 6 rfl (by kernel_rfl) (fun K hK => ?_)
      go_simp; (with_reducible refine (K2.out _).mono ?_); rintro e w5 ⟨rfl, hx5⟩; have hy5 := hy4.tr hx5
      refine hK.out _ _ hy5 (fun hS => ?_)
      clear hK K
      (try simp only [Act.put, List.setIfInBounds_toArray, List.set_cons_zero, List.set_cons_succ])
      refine take_op 7 (v := ?_) rfl (by kernel_rfl) (by kernel_rfl) (by kernel_rfl) (Or.inl ⟨by rfl, ?_⟩) (by assumption) ?_
      rotate_left 1
      · (intro W hS; go_simp; try with_reducible rfl)
      (try simp only [Act.put, List.setIfInBounds_toArray, List.set_cons_zero, List.set_cons_succ])
      refine take_op 8 (v := ?_) rfl (by kernel_rfl) (by kernel_rfl) (by kernel_rfl) (Or.inl ⟨by rfl, ?_⟩) (by assumption) ?_
      rotate_left 1
      · (intro W hS; go_simp; try with_reducible rfl)
      (try simp only [Act.put, List.setIfInBounds_toArray, List.set_cons_zero, List.set_cons_succ])
      refine wpAnyH_done (by kernel_rfl) ?_ _
      refine NoPanic.normal ?_
      go_wp2_with fail
      go_ret
      exact ⟨by rw [HR.out, HSB.out] <;> rfl, HX2.out.tr hy5⟩

set_option maxHeartbeats 1000000 in
set_option maxRecDepth 20000 in
theorem instrref_Text (a b : Int) (w : World) (hb : I64 b) : Calls Tryd.prog 38 #[.agg #[.int .i64 a, .int .i64 b]] w fun e w' => e = .returned (.string (strB (textI (a, b)))) ∧ Ext w w' := by
  obtain ⟨hb1, hb2⟩ := hb
  have HN : Hid (∀ q, q = opNameL a → q.length ≤ 10) := fun q h => by rw [h]; exact opNameL_len a
  have HDL := Lib.hid (decB_len hb1 hb2)
  have HT1 := Lib.hid (fun h => textI_no (i := (a, b)) h)
  have HT2 := Lib.hid (fun h h2 => textI_bare (i := (a, b)) h h2)
  have HT3 := Lib.hid (fun h h2 => textI_has (i := (a, b)) h h2)
  have HSB := Lib.hid (strB_has (opNameL a) (decB b))
  go_enter Tryd.func38, Tryd.ntmps38
  go_upto_region 1 with fail
  obtain ⟨hx0, hz0, hcA⟩ := one_box w ([.int .i64 a, .int .i64 b] : List Value) 39
  generalize hW1 : w.alloc (.cells ([.int .i64 a, .int .i64 b] : List Value).toArray 39) = W1 at *
  clear hW1
  have c0 : W1.cell? ⟨w.heap.size, 0, none⟩ = some (.int .i64 a) := by have := hcA.cell _ _ rfl 0 _ rfl; rwa [Nat.zero_add] at this
  have c1 : W1.cell? ⟨w.heap.size, 1, none⟩ = some (.int .i64 b) := by have := hcA.cell _ _ rfl 1 _ rfl; rwa [Nat.zero_add] at this
  clear hcA
  have HX0 := Lib.hid hx0
  clear hx0
  go_wp2_with fail
  refine (instrref_Right a b _).mono ?_
  rintro e w2 ⟨rfl, hx2⟩
  have d0 := hx2.has c0
  have d1 := hx2.has c1
  have HX2 := Lib.hid (HX0.out.tr hx2)
  clear hx2 c0 c1
  cases hr : rightInstr (a, b) with
  | false =>
    have HR := Lib.hid (HT1.out hr)
    clear hr
    go_wp2_with fail
    go_ret
    exact ⟨by rw [HR.out] <;> rfl, HX2.out⟩
  | true =>
    by_cases h0 : operandI a = 0
    · have HR := Lib.hid (HT2.out hr h0)
      have t1 : decide (0 < operandI a) = false := decide_eq_false (by omega)
      clear hr h0
      go_wp2_with fail
      refine (opsref_Name a _).mono ?_
      rintro e w3 ⟨rfl, rfl⟩
      go_wp2_with fail
      refine (opsref_Operand a _).mono ?_
      rintro e w3 ⟨rfl, rfl⟩
      go_wp2_with fail
      go_ret
      exact ⟨by rw [HR.out] <;> rfl, HX2.out⟩
    · have HR := Lib.hid (HT3.out hr h0)
      have t1 : decide (0 < operandI a) = true := decide_eq_true (operandI_nn a h0)
      have q1 : (strB (opNameL a)).size ≤ 10 := by rw [strB_size]; exact HN.out _ rfl
      have q2 : (strB (decB b)).size ≤ 20 := by rw [strB_size]; exact HDL.out
      have K1 := Lib.hid (fun W => opsref_Name a W)
      have K2 := Lib.hid (fun W => ref_Digits b W hb1 hb2)
      clear hr h0
      generalize strB (opNameL a) = T at *
      generalize strB (decB b) = D at *
      have f1 : ¬ 9223372036854775807 < T.size + 1 := by omega
      have f2 : ¬ 9223372036854775807 < T.size + 1 + D.size := by omega
      go_wp2_with fail
      refine (K1.out _).mono ?_
      rintro e w3 ⟨rfl, rfl⟩
      go_wp2_with fail
      refine (opsref_Operand a _).mono ?_
      rintro e w3 ⟨rfl, rfl⟩
      go_wp2_with fail
      refine (K2.out _).mono ?_
      rintro e w4 ⟨rfl, hx4⟩
      go_wp2_with fail
      go_ret
      exact ⟨by rw [HR.out, HSB.out] <;> rfl, HX2.out.tr hx4⟩
end Go.Proofs.YtkdnbnkbnegckaaDoor
