/- Whether a function may be called so. Whether two slices of structs, or of arrays, are the same: slices.Equal and the references' loops. Whether two slices of ints are the same: slices.Equal and the references' loops. Whether two functions are the same: fnc.Same. Functions: how many slots they have, whether they have tables, whether their types may be. Instructions: small facts for their walks. The text of an instruction: the walks of instr.Text and of its reference. -/
import Derived.Test.YtkdnbnkbnegckaaGreatDoorBase
import Derived.Test.YtkdnbnkbnegckaaGreatDoorStrA
import Derived.Test.YtkdnbnkbnegckaaGreatDoorCurW
import Derived.Test.YtkdnbnkbnegckaaGreatDoorEvA
import Derived.Deep.DeepCutAuto
import Derived.Test.YtkdnbnkbnegckaaGreatDoorInstrN
namespace Go.Proofs.YtkdnbnkbnegckaaGreatDoor
open Go.RowKit

def lowC (c : Int) : Bool := decide (97 ≤ c) && decide (c ≤ 122)
def othC (c : Int) : Bool := lowC c || (decide (48 ≤ c) && decide (c ≤ 57)) || c == 95
def othU (c : UInt8) : Bool := othC c.toNat
def mayName (s : ByteArray) : Bool := decide (1 ≤ s.size) && decide (s.size ≤ 12) && lowC (s.data.toList.headD 0).toNat && s.data.toList.all othU

theorem names_first (c : Int) (w : World) : Calls Tryz.prog 56 #[.int .u8 c] w fun e w' => e = .returned (.bool (lowC c)) ∧ w = w' := by
  unfold lowC
  cases t1 : decide (97 ≤ c) <;> cases t2 : decide (c ≤ 122) <;>
  (go_enter Tryz.func56, Tryz.ntmps56
   go_wp2
   go_ret
   exact ⟨rfl, rfl⟩)

theorem names_other (c : Int) (w : World) : Calls Tryz.prog 57 #[.int .u8 c] w fun e w' => e = .returned (.bool (othC c)) ∧ w = w' := by
  unfold othC
  cases t0 : lowC c <;> cases t1 : decide (48 ≤ c) <;> cases t2 : decide (c ≤ 57) <;> cases t3 : c == 95 <;>
  (go_enter Tryz.func57, Tryz.ntmps57
   go_wp2_with fail
   refine (names_first c w).mono ?_
   rw [t0]
   rintro e w1 ⟨rfl, rfl⟩
   go_wp2_with fail
   go_ret
   exact ⟨rfl, rfl⟩)

theorem allOth_snoc {l : List UInt8} {k : Nat} (h : k < l.length) : (l.take (k + 1)).all othU = ((l.take k).all othU && othU l[k]) := by
  rw [List.take_succ_eq_append_getElem h, List.all_append]; simp

set_option maxHeartbeats 1000000 in
set_option maxRecDepth 20000 in
theorem names_May (s : ByteArray) (w : World) (hs : s.size ≤ 9223372036854775807) : Calls Tryz.prog 24 #[.string s] w fun e w' => e = .returned (.bool (mayName s)) ∧ w = w' := by
  by_cases h0 : s.size = 0
  · obtain rfl : s = ByteArray.empty := by simpa using h0
    go_enter Tryz.func24, Tryz.ntmps24
    go_wp2
    go_ret
    exact ⟨rfl, rfl⟩
  · have hl : s.toList.isEmpty = false := by rw [ByteArray.toList_eq]; cases hd : s.data.toList with
      | nil => exact absurd (by simpa using congrArg List.length hd) h0
      | cons => rfl
    have hp : 0 < s.size := Nat.pos_of_ne_zero h0
    by_cases h12 : s.size ≤ 12
    · have t1 : decide (12 < (s.size : Int)) = false := decide_eq_false (by omega)
      have HS : Hid (s.data.toList.headD 0 = s[0]) := by
        rw [Hid, ByteArray.getElem_eq_getElem_data, List.headD_eq_head?_getD, List.head?_eq_getElem?]
        simp [hp]
      have HR : Hid (mayName s = (lowC (s.data.toList.headD 0).toNat && s.data.toList.all othU)) := by
        rw [Hid, mayName, decide_eq_true h12, decide_eq_true (show 1 ≤ s.size by omega)]; simp only [Bool.true_and]
      clear h0
      go_enter Tryz.func24, Tryz.ntmps24
      go_wp2_with fail
      refine (names_first _ _).mono ?_
      rintro e w1 ⟨rfl, rfl⟩
      have HK : ∀ k, (h : k < s.size) → Hid (((s.data.toList.take (k + 1)).all othU) = ((s.data.toList.take k).all othU && othC s[k].toNat)) := fun k h => by
        rw [Hid, allOth_snoc (by simpa using h)]; rfl
      have HF : ∀ k, (h : k < s.size) → Hid (othC s[k].toNat = false → s.data.toList.all othU = false) := fun k h e => by
        rw [← Bool.not_eq_true, List.all_eq_true]
        intro q
        have := q s[k] (mem_data s k h)
        rw [othU, e] at this; cases this
      have HK' := Lib.hid HK
      have HF' := Lib.hid HF
      clear HK HF
      cases hp1 : lowC s[0].toNat with
      | false =>
        have HR' : Hid (mayName s = false) := by rw [Hid, HR.out, HS.out, hp1, Bool.false_and]
        clear hp1
        go_wp2_with fail
        go_ret
        exact ⟨by rw [HR'.out] <;> rfl, rfl⟩
      | true =>
        have HR' : Hid (mayName s = s.data.toList.all othU) := by rw [Hid, HR.out, HS.out, hp1, Bool.true_and]
        clear hp1 HR HS
        go_wp2_with fail
        go_loop [19] (fun i => ∃ k : Nat, k ≤ s.size ∧ i = .int .i64 k ∧ Hid ((s.data.toList.take k).all othU = true)) (fun i => s.size - (intOf i).toNat)
        case atStart => exact ⟨0, Nat.zero_le _, rfl, Lib.hid (by simp)⟩
        case round =>
          obtain ⟨k, hk, rfl, hall⟩ := hrel
          by_cases hlt : k < s.size
          · have H1 := HK'.out k hlt
            have H2 := HF'.out k hlt
            go_wp2_with fail
            refine (names_other _ _).mono ?_
            rintro e w1 ⟨rfl, rfl⟩
            cases hq : othC s[k].toNat with
            | false =>
              have HX := Lib.hid (H2.out hq)
              clear hq
              go_wp2_with fail
              go_ret
              exact ⟨by rw [HR'.out, HX.out] <;> rfl, rfl⟩
            | true =>
              have HX : Hid ((s.data.toList.take (k + 1)).all othU = true) := by rw [Hid, H1.out, hall.out, hq]; rfl
              clear hq
              go_wp2_with fail
              go_round
              case rel => exact ⟨k + 1, by omega, by go_num, HX⟩
              case measure => simp [intOf]; omega
          · obtain rfl : k = s.size := by omega
            have HX : Hid (s.data.toList.all othU = true) := by
              have := hall.out
              rwa [List.take_of_length_le (by simp)] at this
            go_wp2_with fail
            go_ret
            exact ⟨by rw [HR'.out, HX.out] <;> rfl, rfl⟩
    · have t1 : decide (12 < (s.size : Int)) = true := decide_eq_true (by omega)
      have HR : Hid (mayName s = false) := by simp [Hid, mayName, h12]
      clear h0
      go_enter Tryz.func24, Tryz.ntmps24
      go_wp2_with fail
      go_ret
      exact ⟨by rw [HR.out] <;> rfl, rfl⟩

end Go.Proofs.YtkdnbnkbnegckaaGreatDoor
namespace Go.Proofs.YtkdnbnkbnegckaaGreatDoor
open Go.RowKit


end Go.Proofs.YtkdnbnkbnegckaaGreatDoor
namespace Go.Proofs.YtkdnbnkbnegckaaGreatDoor
open Go.RowKit


end Go.Proofs.YtkdnbnkbnegckaaGreatDoor
namespace Go.Proofs.YtkdnbnkbnegckaaGreatDoor
open Go.RowKit

end Go.Proofs.YtkdnbnkbnegckaaGreatDoor
namespace Go.Proofs.YtkdnbnkbnegckaaGreatDoor
open Go.RowKit

theorem one_box (w : World) (cs : List Value) (t : TypeId) :
    Ext w (w.alloc (.cells cs.toArray t)) ∧ w.heap.size < (w.alloc (.cells cs.toArray t)).heap.size ∧ Cells (w.alloc (.cells cs.toArray t)) (some ⟨w.heap.size, 0, none⟩) cs :=
  ⟨(Ext.rf w).al _, by simp, cells_new w cs t _ rfl⟩

end Go.Proofs.YtkdnbnkbnegckaaGreatDoor
namespace Go.Proofs.YtkdnbnkbnegckaaGreatDoor
open Go.RowKit

theorem right_zero {op : Int} (h : isOp op = true) : rightInstr (op, 0) = true := by
  have h1 := operandI_lt op
  have h2 : (0 : Int) ≤ mostI (operandI op) := by unfold mostI; repeat' split
                                                  all_goals decide
  simp [rightInstr, h, mayOperand, h2]

theorem load_instr {W : World} {g : Nat} {a b : Value} {t : TypeId} {fz : Nat × Nat} (h : W.heap[g]? = some (.cells #[a, b] t fz)) : (loadVar 25 ⟨g, 0, none⟩).run Tryz.prog W = .ok (.agg #[a, b]) W := by
  have c0 : W.cell? ⟨g, 0, none⟩ = some a := blk h 0 rfl
  have c1 : W.cell? ⟨g, 1, none⟩ = some b := blk h 1 rfl
  go_simp
end Go.Proofs.YtkdnbnkbnegckaaGreatDoor
namespace Go.Proofs.YtkdnbnkbnegckaaGreatDoor
open Go.RowKit

/-- The text of an instruction. -/
def textI (i : InstrT) : List UInt8 := if rightInstr i = true then (if operandI i.1 = 0 then opNameL i.1 else opNameL i.1 ++ 32 :: decB i.2) else []

theorem textI_no {i : InstrT} (h : rightInstr i = false) : textI i = [] := by unfold textI; rw [if_neg (by rw [h]; decide)]
theorem textI_bare {i : InstrT} (h : rightInstr i = true) (h2 : operandI i.1 = 0) : textI i = opNameL i.1 := by unfold textI; rw [if_pos h, if_pos h2]
theorem textI_has {i : InstrT} (h : rightInstr i = true) (h2 : operandI i.1 ≠ 0) : textI i = opNameL i.1 ++ 32 :: decB i.2 := by unfold textI; rw [if_pos h, if_neg h2]
theorem strB_has (a b : List UInt8) : strB (a ++ 32 :: b) = strB a ++ (⟨#[32]⟩ : ByteArray) ++ strB b := by
  rw [show (⟨#[32]⟩ : ByteArray) = strB [32] from rfl, strB_app, strB_app]; simp
set_option maxHeartbeats 1000000 in
set_option maxRecDepth 20000 in
theorem instr_Text (a b : Int) (w : World) (hb : I64 b) : Calls Tryz.prog 72 #[.agg #[.int .i64 a, .int .i64 b]] w fun e w' => e = .returned (.string (strB (textI (a, b)))) ∧ Ext w w' := by
  obtain ⟨hb1, hb2⟩ := hb
  have HN : Hid (∀ q, q = opNameL a → q.length ≤ 10) := fun q h => by rw [h]; exact opNameL_len a
  have HDL := Lib.hid (decB_len hb1 hb2)
  have HT1 := Lib.hid (fun h => textI_no (i := (a, b)) h)
  have HT2 := Lib.hid (fun h h2 => textI_bare (i := (a, b)) h h2)
  have HT3 := Lib.hid (fun h h2 => textI_has (i := (a, b)) h h2)
  have HSB := Lib.hid (strB_has (opNameL a) (decB b))
  go_enter Tryz.func72, Tryz.ntmps72
  go_upto_region 1 with fail
  obtain ⟨hx0, hz0, hcA⟩ := one_box w ([.int .i64 a, .int .i64 b] : List Value) 25
  generalize hW1 : w.alloc (.cells ([.int .i64 a, .int .i64 b] : List Value).toArray 25) = W1 at *
  clear hW1
  have c0 : W1.cell? ⟨w.heap.size, 0, none⟩ = some (.int .i64 a) := by have := hcA.cell _ _ rfl 0 _ rfl; rwa [Nat.zero_add] at this
  have c1 : W1.cell? ⟨w.heap.size, 1, none⟩ = some (.int .i64 b) := by have := hcA.cell _ _ rfl 1 _ rfl; rwa [Nat.zero_add] at this
  clear hcA
  have HX0 := Lib.hid hx0
  clear hx0
  go_wp2_with fail
  refine (instr_Right a b _).mono ?_
  rintro e w2 ⟨rfl, hx2⟩
  have d0 := hx2.has c0
  have d1 := hx2.has c1
  have HX2 := Lib.hid (HX0.out.tr hx2)
  clear hx2 c0 c1
  cases hr : rightInstr (a, b) with
  | false =>
    have HR := Lib.hid (HT1.out hr)
    clear hr
    go_wp2_with fail
    go_ret
    exact ⟨by rw [HR.out] <;> rfl, HX2.out⟩
  | true =>
    by_cases h0 : operandI a = 0
    · have HR := Lib.hid (HT2.out hr h0)
      have t1 : (operandI a != 0) = false := by rw [h0]; rfl
      clear hr h0
      go_wp2_with fail
      refine (instr_has a _).mono ?_
      rintro e w3 ⟨rfl, rfl⟩
      go_wp2_with fail
      refine (ops_Name a _).mono ?_
      rintro e w4 ⟨rfl, hx4⟩
      go_wp2_with fail
      go_ret
      exact ⟨by rw [HR.out] <;> rfl, HX2.out.tr hx4⟩
    · have HR := Lib.hid (HT3.out hr h0)
      have t1 : (operandI a != 0) = true := by simpa using h0
      have q1 : (strB (opNameL a)).size ≤ 10 := by rw [strB_size]; exact HN.out _ rfl
      have q2 : (strB (decB b)).size ≤ 20 := by rw [strB_size]; exact HDL.out
      have K1 := Lib.hid (fun W => ops_Name a W)
      have K2 := Lib.hid (fun W => instr_Digits b W hb1 hb2)
      clear hr h0
      generalize strB (opNameL a) = T at *
      generalize strB (decB b) = D at *
      have f1 : ¬ 9223372036854775807 < T.size + 1 := by omega
      have f2 : ¬ 9223372036854775807 < T.size + 1 + D.size := by omega
      go_wp2_with fail
      refine (instr_has a _).mono ?_
      rintro e w3 ⟨rfl, rfl⟩
      go_wp2_with fail
      refine wp_region_ext (fun W => Ext w2 W) (by kernel_rfl) ((Ext.rf _).dr) (fun hS0 => ?_)
      refine take_op 0 (v := ?_) rfl (by kernel_rfl) (by kernel_rfl) (by kernel_rfl) (Or.inl ⟨by rfl, ?_⟩) (by assumption) ?_
      rotate_left 1
      · (intro W hS; go_simp; try with_reducible rfl)
      (try simp only [Act.put, List.setIfInBounds_toArray, List.set_cons_zero, List.set_cons_succ])
      refine take_op 1 (v := ?_) rfl (by kernel_rfl) (by kernel_rfl) (by kernel_rfl) (Or.inl ⟨by rfl, ?_⟩) (by assumption) ?_
      rotate_left 1
      · (intro W hS; have d0 := hS.has d0; have d1 := hS.has d1; go_simp; try with_reducible rfl)
      (try simp only [Act.put, List.setIfInBounds_toArray, List.set_cons_zero, List.set_cons_succ])
      refine take_op 4 (v := ?_) rfl (by kernel_rfl) (by kernel_rfl) (by kernel_rfl) (Or.inl ⟨by rfl, ?_⟩) (by assumption) ?_
      rotate_left 1
      · (intro W hS; go_simp; try with_reducible rfl)
      (try simp only [Act.put, List.setIfInBounds_toArray, List.set_cons_zero, List.set_cons_succ])
      refine take_op 5 (v := ?_) rfl (by kernel_rfl) (by kernel_rfl) (by kernel_rfl) (Or.inl ⟨by rfl, ?_⟩) (by assumption) ?_
      rotate_left 1
      · (intro W hS; have d0 := hS.has d0; have d1 := hS.has d1; go_simp; try with_reducible rfl)
      (try simp only [Act.put, List.setIfInBounds_toArray, List.set_cons_zero, List.set_cons_succ])
      refine do_op 2 rfl (by kernel_rfl) (fun K hK => ?_)
      go_simp; (with_reducible refine (K1.out _).mono ?_); rintro e w4 ⟨rfl, hx4⟩; have hy4 := (Ext.rf w2).dr.tr hx4
      refine hK.out _ _ hy4 (fun hS => ?_)
      clear hK K
      (try simp only [Act.put, List.setIfInBounds_toArray, List.set_cons_zero, List.set_cons_succ])
      refine take_op 3 (v := ?_) rfl (by kernel_rfl) (by kernel_rfl) (by kernel_rfl) (Or.inl ⟨by rfl, ?_⟩) (by assumption) ?_
      rotate_left 1
      · (intro W hS; go_simp; try with_reducible rfl)
      (try simp only [Act.put, List.setIfInBounds_toArray, List.set_cons_zero, List.set_cons_succ])
      refine do_op 6 rfl (by kernel_rfl) (fun K hK => ?_)
      go_simp; (with_reducible refine (K2.out _).mono ?_); rintro e w5 ⟨rfl, hx5⟩; have hy5 := hy4.tr hx5
      refine hK.out _ _ hy5 (fun hS => ?_)
      clear hK K
      (try simp only [Act.put, List.setIfInBounds_toArray, List.set_cons_zero, List.set_cons_succ])
      refine take_op 7 (v := ?_) rfl (by kernel_rfl) (by kernel_rfl) (by kernel_rfl) (Or.inl ⟨by rfl, ?_⟩) (by assumption) ?_
      rotate_left 1
      · (intro W hS; go_simp; try with_reducible rfl)
      (try simp only [Act.put, List.setIfInBounds_toArray, List.set_cons_zero, List.set_cons_succ])
      refine take_op 8 (v := ?_) rfl (by kernel_rfl) (by kernel_rfl) (by kernel_rfl) (Or.inl ⟨by rfl, ?_⟩) (by assumption) ?_
      rotate_left 1
      · (intro W hS; go_simp; try with_reducible rfl)
      (try simp only [Act.put, List.setIfInBounds_toArray, List.set_cons_zero, List.set_cons_succ])
      refine wpAnyH_done (by kernel_rfl) ?_ _
      refine NoPanic.normal ?_
      go_wp2_with fail
      go_ret
      exact ⟨by rw [HR.out, HSB.out] <;> rfl, HX2.out.tr hy5⟩
end Go.Proofs.YtkdnbnkbnegckaaGreatDoor
