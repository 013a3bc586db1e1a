/- Inline trees: their text. -/
import Derived.Test.YtkdnbnkbnegckaaDoorDigW
import Derived.Test.YtkdnbnkbnegckaaDoorDigI
namespace Go.Proofs.YtkdnbnkbnegckaaDoor
open Go.RowKit

def dummyNode : NodeT := ⟨0, 0, 0, 0, 0, 0, 0⟩
def lineOf (d : Nat) (i : Int) (x : NodeT) : List UInt8 := List.replicate (2 * (d - 1)) 32 ++ (decB i ++ (32 :: (decB x.fn ++ (32 :: (decB x.line ++ [10])))))
def treeLine (l : List NodeT) (i : Nat) : List UInt8 := lineOf (depthN l i) i (l[i]?.getD dummyNode)
def treeText (l : List NodeT) (k : Nat) : List UInt8 := (List.range k).flatMap (treeLine l)
theorem treeText_succ (l : List NodeT) (k : Nat) : treeText l (k + 1) = treeText l k ++ treeLine l k := by
  rw [treeText, List.range_succ, List.flatMap_append]; simp [treeText]
theorem treeLine_get {l : List NodeT} {k : Nat} {x : NodeT} (h : l[k]? = some x) : treeLine l k = lineOf (depthN l k) k x := by rw [treeLine, h]; rfl
theorem rep2 (c : Nat) : Lib.repeatL (strB [32, 32]).data.toList c = List.replicate (2 * c) 32 := by
  have := Lib.repeatL_replicate 32 2 c
  rw [Nat.mul_comm c 2] at this
  exact this
theorem blanks (c : Nat) (w : World) (hc : c ≤ 100000) : Calls Tryd.prog 48 #[.string ⟨#[32, 32]⟩, .int .i64 c] w fun e w' => e = .returned (.string (strB (List.replicate (2 * c) 32))) ∧ Ext w w' :=
  (Tryd.strings_Repeat ⟨#[32, 32]⟩ c w (by omega) (by have : (⟨#[32, 32]⟩ : ByteArray).size = 2 := rfl; rw [this]; omega)).mono fun e w' ⟨h1, h2⟩ => ⟨by rw [h1, ← rep2]; rfl, h2⟩
theorem lineOf_len (d : Nat) (i : Int) (x : NodeT) (h1 : I64 i) (h2 : I64 x.fn) (h3 : I64 x.line) : (lineOf d i x).length ≤ 2 * d + 63 := by
  have a := decB_len h1.1 h1.2
  have b := decB_len h2.1 h2.2
  have c := decB_len h3.1 h3.2
  simp only [lineOf, List.length_append, List.length_replicate, List.length_cons, List.length_nil]
  omega
theorem treeText_len {l : List NodeT} (hv : ∀ n ∈ l, Node64 n) (hl : l.length ≤ 100000) : ∀ k, k ≤ l.length → (treeText l k).length ≤ k * 300000 := by
  intro k
  induction k with
  | zero => intro _; simp [treeText]
  | succ k ih =>
    intro hk
    have hlt : k < l.length := by omega
    rw [treeText_succ, List.length_append, treeLine_get (List.getElem?_eq_getElem hlt)]
    have h1 := ih (by omega)
    have hn := hv l[k] (List.getElem_mem hlt)
    have h2 := lineOf_len (depthN l k) (k : Int) l[k] ⟨by omega, by omega⟩ hn.2.1 hn.2.2.1
    have h3 : depthN l k ≤ l.length := upF_len l _ _
    omega

set_option maxHeartbeats 2000000 in
set_option maxRecDepth 20000 in
theorem tree_Text (ao : Option Addr) (cap : Nat) (l : List NodeT) (w : World) (hc : Cells w ao (l.flatMap nodeC)) (hl : l.length ≤ 100000) (hv : ∀ n ∈ l, Node64 n) :
    Calls Tryd.prog 26 #[.slice ao l.length cap] w fun e w' => e = .returned (.string (strB (treeText l l.length))) ∧ Ext w w' := by
  have HV := Lib.hid hv
  have HTL := Lib.hid (treeText_len hv hl)
  clear hv
  go_enter Tryd.func26, Tryd.ntmps26
  go_wp2_with fail
  go_loopw [3, 9] (fun s i wr => ∃ k : Nat, k ≤ l.length ∧ i = .int .i64 k ∧ s = .string (strB (treeText l k)) ∧ Ext w wr)
    (fun _ i _ => l.length - (intOf i).toNat)
  case atStart => exact ⟨0, Nat.zero_le _, rfl, rfl, Ext.rf w⟩
  case round =>
    obtain ⟨k, hk, rfl, rfl, hext⟩ := hrel
    by_cases hlt : k < l.length
    · obtain ⟨b, off, rfl, hcl⟩ := (hc.ext hext).flat (enc := nodeC) (size := 7) (fun _ => rfl) hlt (by decide)
      have HS : Hid (treeText l (k + 1) = treeText l k ++ lineOf (depthN l k) k l[k]) := by rw [Hid, treeText_succ, treeLine_get (List.getElem?_eq_getElem hlt)]
      have hn := HV.out l[k] (List.getElem_mem hlt)
      have hdl : depthN l k ≤ l.length := upF_len l _ _
      have htl : (strB (treeText l k)).size ≤ 30000000000 := by have := HTL.out k (by omega); rw [strB_size]; omega
      generalize l[k] = x at *
      have e0 : wr.cell? ⟨b, off + k * 7, none⟩ = some (.int .i64 x.par) := by exact hcl 0 _ rfl
      have e1 : wr.cell? ⟨b, off + k * 7 + 1, none⟩ = some (.int .i64 x.fn) := by rw [Nat.add_assoc]; exact hcl 1 _ rfl
      have e2 : wr.cell? ⟨b, off + k * 7 + 2, none⟩ = some (.int .i64 x.line) := by rw [Nat.add_assoc]; exact hcl 2 _ rfl
      have e3 : wr.cell? ⟨b, off + k * 7 + 3, none⟩ = some (.int .i64 x.frm) := by rw [Nat.add_assoc]; exact hcl 3 _ rfl
      have e4 : wr.cell? ⟨b, off + k * 7 + 4, none⟩ = some (.int .i64 x.args) := by rw [Nat.add_assoc]; exact hcl 4 _ rfl
      have e5 : wr.cell? ⟨b, off + k * 7 + 5, none⟩ = some (.int .i64 x.upto) := by rw [Nat.add_assoc]; exact hcl 5 _ rfl
      have e6 : wr.cell? ⟨b, off + k * 7 + 6, none⟩ = some (.int .i64 x.res) := by rw [Nat.add_assoc]; exact hcl 6 _ rfl
      clear hcl
      have q1 := decB_len (n := (k : Int)) (by omega) (by omega)
      have q2 := decB_len hn.2.1.1 hn.2.1.2
      have q3 := decB_len hn.2.2.1.1 hn.2.2.1.2
      rw [← strB_size] at q1 q2 q3
      have K1 := Lib.hid (fun W => instr_Digits (k : Int) W (by omega) (by omega))
      have K2 := Lib.hid (fun W => instr_Digits x.fn W hn.2.1.1 hn.2.1.2)
      have K3 := Lib.hid (fun W => instr_Digits x.line W hn.2.2.1.1 hn.2.2.1.2)
      clear hn
      go_upto_region 5 with fail
      obtain ⟨hx0, hz0, hcA⟩ := one_box wr ([.int .i64 x.par, .int .i64 x.fn, .int .i64 x.line, .int .i64 x.frm, .int .i64 x.args, .int .i64 x.upto, .int .i64 x.res] : List Value) 86
      generalize hW1 : wr.alloc (.cells ([.int .i64 x.par, .int .i64 x.fn, .int .i64 x.line, .int .i64 x.frm, .int .i64 x.args, .int .i64 x.upto, .int .i64 x.res] : List Value).toArray 86) = W1 at *
      clear hW1
      have c0 : W1.cell? ⟨wr.heap.size, 0, none⟩ = some (.int .i64 x.par) := by have := hcA.cell _ _ rfl 0 _ rfl; rwa [Nat.zero_add] at this
      have c1 : W1.cell? ⟨wr.heap.size, 1, none⟩ = some (.int .i64 x.fn) := by have := hcA.cell _ _ rfl 1 _ rfl; rwa [Nat.zero_add] at this
      have c2 : W1.cell? ⟨wr.heap.size, 2, none⟩ = some (.int .i64 x.line) := by have := hcA.cell _ _ rfl 2 _ rfl; rwa [Nat.zero_add] at this
      have c3 : W1.cell? ⟨wr.heap.size, 3, none⟩ = some (.int .i64 x.frm) := by have := hcA.cell _ _ rfl 3 _ rfl; rwa [Nat.zero_add] at this
      have c4 : W1.cell? ⟨wr.heap.size, 4, none⟩ = some (.int .i64 x.args) := by have := hcA.cell _ _ rfl 4 _ rfl; rwa [Nat.zero_add] at this
      have c5 : W1.cell? ⟨wr.heap.size, 5, none⟩ = some (.int .i64 x.upto) := by have := hcA.cell _ _ rfl 5 _ rfl; rwa [Nat.zero_add] at this
      have c6 : W1.cell? ⟨wr.heap.size, 6, none⟩ = some (.int .i64 x.res) := by have := hcA.cell _ _ rfl 6 _ rfl; rwa [Nat.zero_add] at this
      clear hcA
      clear e0 e1 e2 e3 e4 e5 e6
      have HX0 := Lib.hid (hext.tr hx0)
      clear hx0
      go_wp2_with fail
      refine (tree_Depth _ _ l k _ (hc.ext HX0.out) (by omega)).mono ?_
      rintro e w2 ⟨rfl, hx2⟩
      have hmx : max ((depthN l k : Int) - 1) 0 = ((depthN l k - 1 : Nat) : Int) := by omega
      have hdI : ((depthN l k : Int) - 1) = ((depthN l k : Int) - 1) := rfl
      have HX2 := Lib.hid (HX0.out.tr hx2)
      have b1 : -1 ≤ (depthN l k : Int) - 1 := by omega
      have b2 : (depthN l k : Int) - 1 ≤ 100000 := by omega
      have hb2 := bcell hx2
      clear hdI
      go_wp2_with fail
      refine (blanks (depthN l k - 1) _ (by omega)).mono ?_
      rintro e w3 ⟨rfl, hx3⟩
      have HX3 := Lib.hid (HX2.out.tr hx3)
      have k1 : w3.cell? ⟨wr.heap.size, 1, none⟩ = some (.int .i64 x.fn) := (hx2.tr hx3).has c1
      have k2 : w3.cell? ⟨wr.heap.size, 2, none⟩ = some (.int .i64 x.line) := (hx2.tr hx3).has c2
      have q0 : (strB (List.replicate (2 * (depthN l k - 1)) 32)).size ≤ 200000 := by rw [strB_size, List.length_replicate]; omega
      have HF : Hid (strB (treeText l (k + 1)) = strB (treeText l k) ++ (strB (List.replicate (2 * (depthN l k - 1)) 32) ++ strB (decB k) ++ (⟨#[32]⟩ : ByteArray) ++ strB (decB x.fn) ++ ⟨#[32]⟩ ++ strB (decB x.line) ++ ⟨#[10]⟩)) := by
        rw [Hid, HS.out, lineOf, show (⟨#[32]⟩ : ByteArray) = strB [32] from rfl, show (⟨#[10]⟩ : ByteArray) = strB [10] from rfl]
        simp only [strB_app, List.append_assoc, List.cons_append, List.nil_append]
      clear hb2 hx2 hx3 c0 c1 c2 c3 c4 c5 c6 hz0 HS hmx b1 b2 hdl
      generalize strB (List.replicate (2 * (depthN l k - 1)) 32) = T at *
      generalize strB (decB k) = D1 at *
      generalize strB (decB x.fn) = D2 at *
      generalize strB (decB x.line) = D3 at *
      generalize strB (treeText l k) = S at *
      have f1 : ¬ 9223372036854775807 < T.size + D1.size := by omega
      have f2 : ¬ 9223372036854775807 < T.size + D1.size + 1 := by omega
      have f3 : ¬ 9223372036854775807 < T.size + D1.size + 1 + D2.size := by omega
      have f4 : ¬ 9223372036854775807 < T.size + D1.size + 1 + D2.size + 1 := by omega
      have f5 : ¬ 9223372036854775807 < T.size + D1.size + 1 + D2.size + 1 + D3.size := by omega
      have f6 : ¬ 9223372036854775807 < T.size + D1.size + 1 + D2.size + 1 + D3.size + 1 := by omega
      have f7 : ¬ 9223372036854775807 < S.size + (T.size + D1.size + 1 + D2.size + 1 + D3.size + 1) := by omega
      go_wp2_with fail
      refine wp_region_ext (fun W => Ext w3 W) (by kernel_rfl) ((Ext.rf _).dr) (fun hS0 => ?_)
      refine take_op 0 (v := ?_) rfl (by kernel_rfl) (by kernel_rfl) (by kernel_rfl) (Or.inl ⟨by rfl, ?_⟩) (by assumption) ?_
      rotate_left 1
      · (intro W hS; go_simp; try with_reducible rfl)
      (try simp only [Act.put, List.setIfInBounds_toArray, List.set_cons_zero, List.set_cons_succ])
      refine take_op 1 (v := ?_) rfl (by kernel_rfl) (by kernel_rfl) (by kernel_rfl) (Or.inl ⟨by rfl, ?_⟩) (by assumption) ?_
      rotate_left 1
      · (intro W hS; go_simp; try with_reducible rfl)
      (try simp only [Act.put, List.setIfInBounds_toArray, List.set_cons_zero, List.set_cons_succ])
      refine take_op 2 (v := ?_) rfl (by kernel_rfl) (by kernel_rfl) (by kernel_rfl) (Or.inl ⟨by rfl, ?_⟩) (by assumption) ?_
      rotate_left 1
      · (intro W hS; go_simp; try with_reducible rfl)
      (try simp only [Act.put, List.setIfInBounds_toArray, List.set_cons_zero, List.set_cons_succ])
      refine take_op 6 (v := ?_) rfl (by kernel_rfl) (by kernel_rfl) (by kernel_rfl) (Or.inl ⟨by rfl, ?_⟩) (by assumption) ?_
      rotate_left 1
      · (intro W hS; go_simp; try with_reducible rfl)
      (try simp only [Act.put, List.setIfInBounds_toArray, List.set_cons_zero, List.set_cons_succ])
      refine take_op 7 (v := ?_) rfl (by kernel_rfl) (by kernel_rfl) (by kernel_rfl) (Or.inl ⟨by rfl, ?_⟩) (by assumption) ?_
      rotate_left 1
      · (intro W hS; have k1 := hS.has k1; have k2 := hS.has k2; go_simp; try with_reducible rfl)
      (try simp only [Act.put, List.setIfInBounds_toArray, List.set_cons_zero, List.set_cons_succ])
      refine take_op 11 (v := ?_) rfl (by kernel_rfl) (by kernel_rfl) (by kernel_rfl) (Or.inl ⟨by rfl, ?_⟩) (by assumption) ?_
      rotate_left 1
      · (intro W hS; go_simp; try with_reducible rfl)
      (try simp only [Act.put, List.setIfInBounds_toArray, List.set_cons_zero, List.set_cons_succ])
      refine take_op 12 (v := ?_) rfl (by kernel_rfl) (by kernel_rfl) (by kernel_rfl) (Or.inl ⟨by rfl, ?_⟩) (by assumption) ?_
      rotate_left 1
      · (intro W hS; have k1 := hS.has k1; have k2 := hS.has k2; go_simp; try with_reducible rfl)
      (try simp only [Act.put, List.setIfInBounds_toArray, List.set_cons_zero, List.set_cons_succ])
      refine do_op 3 rfl (by kernel_rfl) (fun K hK => ?_)
      go_simp; (with_reducible refine (K1.out _).mono ?_); rintro e w4 ⟨rfl, hx4⟩; have hy4 := (Ext.rf w3).dr.tr hx4
      refine hK.out _ _ hy4 (fun hS => ?_)
      clear hK K
      (try simp only [Act.put, List.setIfInBounds_toArray, List.set_cons_zero, List.set_cons_succ])
      refine take_op 4 (v := ?_) rfl (by kernel_rfl) (by kernel_rfl) (by kernel_rfl) (Or.inl ⟨by rfl, ?_⟩) (by assumption) ?_
      rotate_left 1
      · (intro W hS; go_simp; try with_reducible rfl)
      (try simp only [Act.put, List.setIfInBounds_toArray, List.set_cons_zero, List.set_cons_succ])
      refine take_op 5 (v := ?_) rfl (by kernel_rfl) (by kernel_rfl) (by kernel_rfl) (Or.inl ⟨by rfl, ?_⟩) (by assumption) ?_
      rotate_left 1
      · (intro W hS; go_simp; try with_reducible rfl)
      (try simp only [Act.put, List.setIfInBounds_toArray, List.set_cons_zero, List.set_cons_succ])
      refine do_op 8 rfl (by kernel_rfl) (fun K hK => ?_)
      go_simp; (with_reducible refine (K2.out _).mono ?_); rintro e w5 ⟨rfl, hx5⟩; have hy5 := hy4.tr hx5
      refine hK.out _ _ hy5 (fun hS => ?_)
      clear hK K
      (try simp only [Act.put, List.setIfInBounds_toArray, List.set_cons_zero, List.set_cons_succ])
      refine take_op 9 (v := ?_) rfl (by kernel_rfl) (by kernel_rfl) (by kernel_rfl) (Or.inl ⟨by rfl, ?_⟩) (by assumption) ?_
      rotate_left 1
      · (intro W hS; go_simp; try with_reducible rfl)
      (try simp only [Act.put, List.setIfInBounds_toArray, List.set_cons_zero, List.set_cons_succ])
      refine take_op 10 (v := ?_) rfl (by kernel_rfl) (by kernel_rfl) (by kernel_rfl) (Or.inl ⟨by rfl, ?_⟩) (by assumption) ?_
      rotate_left 1
      · (intro W hS; go_simp; try with_reducible rfl)
      (try simp only [Act.put, List.setIfInBounds_toArray, List.set_cons_zero, List.set_cons_succ])
      refine do_op 13 rfl (by kernel_rfl) (fun K hK => ?_)
      go_simp; (with_reducible refine (K3.out _).mono ?_); rintro e w6 ⟨rfl, hx6⟩; have hy6 := hy5.tr hx6
      refine hK.out _ _ hy6 (fun hS => ?_)
      clear hK K
      (try simp only [Act.put, List.setIfInBounds_toArray, List.set_cons_zero, List.set_cons_succ])
      refine take_op 14 (v := ?_) rfl (by kernel_rfl) (by kernel_rfl) (by kernel_rfl) (Or.inl ⟨by rfl, ?_⟩) (by assumption) ?_
      rotate_left 1
      · (intro W hS; go_simp; try with_reducible rfl)
      (try simp only [Act.put, List.setIfInBounds_toArray, List.set_cons_zero, List.set_cons_succ])
      refine take_op 15 (v := ?_) rfl (by kernel_rfl) (by kernel_rfl) (by kernel_rfl) (Or.inl ⟨by rfl, ?_⟩) (by assumption) ?_
      rotate_left 1
      · (intro W hS; go_simp; try with_reducible rfl)
      (try simp only [Act.put, List.setIfInBounds_toArray, List.set_cons_zero, List.set_cons_succ])
      refine take_op 16 (v := ?_) rfl (by kernel_rfl) (by kernel_rfl) (by kernel_rfl) (Or.inl ⟨by rfl, ?_⟩) (by assumption) ?_
      rotate_left 1
      · (intro W hS; go_simp; try with_reducible rfl)
      (try simp only [Act.put, List.setIfInBounds_toArray, List.set_cons_zero, List.set_cons_succ])
      refine take_op 17 (v := ?_) rfl (by kernel_rfl) (by kernel_rfl) (by kernel_rfl) (Or.inl ⟨by rfl, ?_⟩) (by assumption) ?_
      rotate_left 1
      · (intro W hS; go_simp; try with_reducible rfl)
      (try simp only [Act.put, List.setIfInBounds_toArray, List.set_cons_zero, List.set_cons_succ])
      refine wpAnyH_done (by kernel_rfl) ?_ _
      refine NoPanic.normal ?_
      go_wp2_with fail
      go_roundw
      case rel => exact ⟨k + 1, by omega, by go_num, by rw [HF.out], HX3.out.tr hy6⟩
      case measure => simp [intOf]; omega
    · obtain rfl : k = l.length := by omega
      go_wp2_with fail
      go_ret
      exact ⟨rfl, hext⟩
end Go.Proofs.YtkdnbnkbnegckaaDoor
