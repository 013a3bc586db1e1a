/- Instructions: their bytes. -/
import Derived.Test.YtofdkhilapmccaaInstr
import Derived.Test.YtofdkhilapmccaaFncP
import Derived.Test.YtofdkhilapmccaaTreeP
namespace Go.Proofs.Ytofdkhilapmccaa
open Go.RowKit

def insB (i : InstrT) : UInt8 := UInt8.ofNat i.1.toNat
def putInstr (i : InstrT) : List UInt8 := if rightInstr i then insB i :: (if (operandI i.1 != 0) = true then putI i.2 else []) else []
theorem putInstr_bad {i : InstrT} (h : rightInstr i = false) : putInstr i = [] := by simp [putInstr, h]
theorem putInstr_0 {i : InstrT} (h : rightInstr i = true) (h2 : (operandI i.1 != 0) = false) : putInstr i = [insB i] := by rw [putInstr, if_pos h, if_neg (by simp [h2])]
theorem putInstr_1 {i : InstrT} (h : rightInstr i = true) (h2 : (operandI i.1 != 0) = true) : putInstr i = [insB i] ++ putI i.2 := by rw [putInstr, if_pos h, if_pos h2]; rfl
theorem putInstr_le (i : InstrT) : (putInstr i).length ≤ 11 := by
  have := putI_le i.2
  unfold putInstr; split
  · split <;> simp only [List.length_cons, List.length_nil] <;> omega
  · simp
theorem insB_c {i : InstrT} (h : rightInstr i = true) : Value.int .u8 i.1 = byteC (insB i) ∧ IntKind.u8.wrap i.1 = i.1 := by
  simp only [rightInstr, isOp, Bool.and_eq_true, decide_eq_true_eq] at h
  obtain ⟨k, hk⟩ := Int.eq_ofNat_of_zero_le h.1.1
  have : (UInt8.ofNat k).toNat = k := by rw [UInt8.toNat_ofNat']; omega
  constructor
  · rw [byteC, insB, hk, Int.toNat_natCast, this]
  · rw [IntKind.wrap_u8]; omega

set_option maxHeartbeats 2000000 in
set_option maxRecDepth 20000 in
theorem instr_Put (base : Nat) (v : Value) (k0 : Nat) (xs : List Value) (x : InstrT) (w : World) (hown : w.ownsRow base 5 1 v k0 xs) (hb : base ≤ w.heap.size) (hk0 : k0 ≤ 8796093022208)
    (h1 : -9223372036854775808 ≤ x.2) (h2 : x.2 ≤ 9223372036854775807) :
    Calls Try.prog 63 #[v, .agg #[.int .i64 x.1, .int .i64 x.2]] w (PutRow base v k0 xs (putInstr x) w) := by
  go_enter Try.func63, Try.ntmps63
  go_upto_region 1 with fail
  obtain ⟨hx0, hz0, hcA⟩ := one_box w [.int .i64 x.1, .int .i64 x.2] 49
  have hown0 := hown.alloc (.cells ([.int .i64 x.1, .int .i64 x.2] : List Value).toArray 49)
  have hne : v.ownBlock ≠ some w.heap.size := fun e => by have := hown.lt _ e; omega
  have hg0 := (Grow.rf w v).extR hx0
  generalize hW1 : w.alloc (.cells ([.int .i64 x.1, .int .i64 x.2] : List Value).toArray 49) = W1 at *
  clear hW1 hown
  have hb1 : base ≤ W1.heap.size := Nat.le_trans hb hx0.size
  have c0 : W1.cell? ⟨w.heap.size, 0, none⟩ = some (.int .i64 x.1) := by have := hcA.cell _ _ rfl 0 _ rfl; rwa [Nat.zero_add] at this
  have c1 : W1.cell? ⟨w.heap.size, 1, none⟩ = some (.int .i64 x.2) := by have := hcA.cell _ _ rfl 1 _ rfl; rwa [Nat.zero_add] at this
  have HX0 := Lib.hid hx0
  clear hx0
  go_wp2_with fail
  refine (instr_Right x.1 x.2 _).mono ?_
  rintro e w2 ⟨rfl, hx2⟩
  have hown2 := own_ext hown0 hx2
  have hg2 := hg0.extR hx2
  have hcB := hcA.ext hx2
  have hb2 : base ≤ w2.heap.size := Nat.le_trans hb1 hx2.size
  have e0 := hx2.has c0
  have e1 := hx2.has c1
  have HG2 := Lib.hid hg2
  clear c0 c1 hown0 hg0 hcA hb1 hx2 hg2
  cases hr : rightInstr (x.1, x.2) with
  | false =>
    have HR := Lib.hid (putInstr_bad (i := x) hr)
    clear hr
    obtain ⟨ro, rc, rfl⟩ := own_form hown2
    go_wp2_with fail
    go_ret
    exact ⟨_, rfl, by rw [HR.out]; simpa using hown2, HG2.out⟩
  | true =>
    obtain ⟨hc8, hw8⟩ := insB_c (i := x) hr
    have HC := Lib.hid hc8
    clear hc8
    have HRR : Hid (rightInstr x = true) := hr
    clear hr
    go_upto_region 4 with (at_builtin; (refine wpList_push rfl (.tmp 9) (.tmp 13) 38 rfl base 5 5 (.int .u8 0) 1 1 Try.underlying38 (by kernel_rfl) rfl (by decide) _ k0 _ [.int .u8 x.1] rfl hown2 _ rfl (by simp) rfl (by simp [Value.oneCell']) (by unfold maxLen; omega) (by omega) (by omega) ?_; intro v' w3 hown3 hgr'; have hgr := Lib.hid hgr'; clear hgr'))
    have hb3 : base ≤ w3.heap.size := Nat.le_trans hb2 hgr.out.size
    have HG3 : Hid (Grow w2 w3 v v') := Lib.hid hgr.out
    clear hgr
    have hcC := hcB.grow HG3.out (fun ad e => by cases e; exact hne)
    have f0 := hcC.cell _ _ rfl 0 _ rfl
    have f1 := hcC.cell _ _ rfl 1 _ rfl
    rw [Nat.zero_add] at f0 f1
    have HGT := Lib.hid (HG2.out.tr HG3.out)
    rw [HC.out] at hown3
    clear hcB hcC e0 e1 hown2 hne hb2
    go_wp2_with fail
    refine (instr_has x.1 _).mono ?_
    rintro e w4 ⟨rfl, rfl⟩
    cases hq : operandI x.1 != 0 with
    | false =>
      have HR := Lib.hid (putInstr_0 HRR.out hq)
      clear hq
      obtain ⟨ro, rc, rfl⟩ := own_form hown3
      go_wp2_with fail
      go_ret
      exact ⟨_, rfl, by rw [HR.out]; exact hown3, HGT.out⟩
    | true =>
      have HR := Lib.hid (putInstr_1 HRR.out hq)
      clear hq
      go_wp2_with fail
      refine (uvar_PutInt base _ _ _ x.2 _ hown3 hb3 (by omega) h1 h2).mono ?_
      rintro e w5 ⟨u5, rfl, hown5, hg5⟩
      have HG5 := Lib.hid (HGT.out.tr hg5)
      clear hg5 hown3 f0 f1
      obtain ⟨ro, rc, rfl⟩ := own_form hown5
      go_wp2_with fail
      go_ret
      exact ⟨_, rfl, by rw [HR.out, List.length_append, List.map_append, ← List.append_assoc, ← Nat.add_assoc]; exact hown5, HG5.out⟩

set_option maxHeartbeats 2000000 in
set_option maxRecDepth 20000 in
theorem instrref_Put (x : InstrT) (w : World) (h1 : -9223372036854775808 ≤ x.2) (h2 : x.2 ≤ 9223372036854775807) :
    Calls Try.prog 62 #[.agg #[.int .i64 x.1, .int .i64 x.2]] w (RetSl (putInstr x).length ((putInstr x).map byteC) w) := by
  have h3 := foldN_lt h1 h2
  go_enter Try.func62, Try.ntmps62
  go_upto_region 1 with fail
  obtain ⟨hx0, hz0, hcA⟩ := one_box w [.int .i64 x.1, .int .i64 x.2] 49
  generalize hW1 : w.alloc (.cells ([.int .i64 x.1, .int .i64 x.2] : List Value).toArray 49) = W1 at *
  clear hW1
  have c0 : W1.cell? ⟨w.heap.size, 0, none⟩ = some (.int .i64 x.1) := by have := hcA.cell _ _ rfl 0 _ rfl; rwa [Nat.zero_add] at this
  have c1 : W1.cell? ⟨w.heap.size, 1, none⟩ = some (.int .i64 x.2) := by have := hcA.cell _ _ rfl 1 _ rfl; rwa [Nat.zero_add] at this
  clear hcA
  go_wp2_with fail
  refine (instrref_Right x.1 x.2 _).mono ?_
  rintro e w2 ⟨rfl, hx2⟩
  have e0 := hx2.has c0
  have e1 := hx2.has c1
  have hx3 := hx0.tr hx2
  clear c0 c1 hx0 hx2 hz0
  cases hr : rightInstr (x.1, x.2) with
  | false =>
    have HR := Lib.hid (putInstr_bad (i := x) hr)
    clear hr
    go_wp2_with fail
    go_ret
    exact ⟨none, 0, by rw [HR.out] <;> rfl, by rw [HR.out]; exact Cells.nil _ _, hx3, fun _ h => by cases h⟩
  | true =>
    obtain ⟨hc8, hw8⟩ := insB_c (i := x) hr
    have HC := Lib.hid hc8
    clear hc8
    have HRR : Hid (rightInstr x = true) := hr
    clear hr
    go_upto_region 4 with fail
    have hown4 := World.ownsRow_lit (base := w2.heap.size) (e := 5) (size := 1) w2 #[.int .u8 x.1] 1 (Nat.le_refl _) (by decide) rfl
    have hx4 := (Ext.rf w2).al (.cells #[.int .u8 x.1] 5)
    have hz4 : (w2.alloc (.cells #[.int .u8 x.1] 5)).heap.size = w2.heap.size + 1 := by simp
    have hb4 := hx3.size
    generalize w2.alloc (.cells #[.int .u8 x.1] 5) = W4 at *
    have f0 := hx4.has e0
    have f1 := hx4.has e1
    have hx5 := hx3.tr hx4
    clear e0 e1 hx3 hx4
    go_wp2_with fail
    refine (opsref_Operand x.1 _).mono ?_
    rintro e w5 ⟨rfl, rfl⟩
    obtain ⟨ho1, ho2⟩ := operandI_lt x.1
    cases hq : operandI x.1 != 0 with
    | false =>
      have HR := Lib.hid (putInstr_0 HRR.out hq)
      have hq0 : operandI x.1 = 0 := by simpa using hq
      rw [hq0]
      clear hq hq0 ho1 ho2
      go_wp2_with fail
      go_ret
      have hown5 : W4.ownsRow w2.heap.size 5 1 (.slice (some ⟨w2.heap.size, 0, none⟩) 1 1) 1 [byteC (insB x)] := by rw [← HC.out]; exact hown4
      obtain ⟨ao, cap, he, hc, hf⟩ := own_cells hown5
      exact ⟨ao, cap, by rw [HR.out]; exact congrArg _ he, by rw [HR.out]; exact hc, hx5, fun ad e => Nat.le_trans hb4 (hf ad e)⟩
    | true =>
      have HR := Lib.hid (putInstr_1 HRR.out hq)
      have hq0 : decide (0 < operandI x.1) = true := by
        have : operandI x.1 ≠ 0 := by simpa using hq
        exact decide_eq_true (by omega)
      clear hq ho1 ho2
      go_wp2_with fail
      refine (uvarref_Fold x.2 _ h1 h2).mono ?_
      rintro e w5 ⟨rfl, rfl⟩
      have HPI : Hid (putI x.2 = putB (foldN x.2)) := rfl
      generalize foldN x.2 = F at *
      go_wp2_with fail
      refine (uvarref_PutO F _ h3).mono ?_
      rintro e w6 ⟨u6, rfl, ho6, hb6⟩
      have hple6 := putB_le F
      generalize putB F = T at *
      obtain ⟨a6, c6, rfl, hc6, -⟩ := own_cells ho6
      have hown6 := own_ext hown4 hb6
      have hx6 := hx5.tr hb6
      have hz6 : w2.heap.size ≤ w6.heap.size := by have := hb6.size; omega
      clear ho6 hb6 hown4 hx5 f0 f1 hz4
      go_wp2_with (at_builtin; (refine wpList_appendAll rfl (.tmp 15) (.tmp 19) 38 rfl w2.heap.size 5 (.int .u8 0) 1 1 Try.underlying38 (by kernel_rfl) rfl (by decide) _ 1 _ a6 T.length _ (T.map byteC) rfl hown6 rfl hc6 (by simp) (by intro u hu; simp only [List.mem_map] at hu; obtain ⟨_, _, rfl⟩ := hu; rfl) (by unfold maxLen; omega) (by omega) hz6 ?_; intro v' w7 hown7 hgr; have hx7 := hx6.push hown6 hb4 hgr; clear hgr hown6 hx6))
      go_ret
      have hown8 : w7.ownsRow w2.heap.size 5 1 v' (1 + T.length) (([insB x] ++ T).map byteC) := by rw [List.map_append, List.map_singleton, ← HC.out]; exact hown7
      obtain ⟨ao, cap, he, hc, hf⟩ := own_cells hown8
      exact ⟨ao, cap, by rw [HR.out, HPI.out, List.length_append, List.length_singleton]; exact congrArg _ he, by rw [HR.out, HPI.out]; exact hc, hx7, fun ad e => Nat.le_trans hb4 (hf ad e)⟩
end Go.Proofs.Ytofdkhilapmccaa
