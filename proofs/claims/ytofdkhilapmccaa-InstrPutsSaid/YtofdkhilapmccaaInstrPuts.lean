/- InstrPuts: whether an instruction may be, its bytes, its text, and what is read from them: the walk of the law. -/
import Derived.Test.YtofdkhilapmccaaInstrB
import Derived.Test.YtofdkhilapmccaaInstrL
import Derived.Test.YtofdkhilapmccaaRefE
import Derived.Test.YtofdkhilapmccaaOpenF
import Derived.Test.YtofdkhilapmccaaOpen2
namespace Go.Proofs.Ytofdkhilapmccaa
open Go.RowKit Go.ChangeShapes Go.WideShapes

set_option maxRecDepth 100000 in
theorem open_instr {W : World} {r : Reach} {base : Nat} {v : Value} (hv : Value.okWide Try.prog W r base 49 v) {H : Type} {enc : TypeId × Value → H} {base' : Nat} {spare : Nat → Bool} {held : Bool} {d : DataW H} {p : List MemPlace} {ts : List TypeId} {ds : List (DataW H)}
    (hsz : (DataW.weightsEach Try.prog ts ds).all (· ≤ reachBytes) = true) {j : Nat} (htj : ts[j]? = some 49) (hdj : ds[j]? = some d) (h : DataW.Trod enc Try.prog W base' spare held 49 v d p) :
    ∃ x : InstrT, v = .agg #[.int .i64 x.1, .int .i64 x.2] ∧ I64 x.1 ∧ I64 x.2 := by
  obtain ⟨cs, rfl, _⟩ := okWide_struct Try.underlying49 hv
  obtain ⟨x, h1, h2⟩ := open_w opensW_instr hsz htj hdj h
  refine ⟨x, ?_, h2⟩
  have h3 : cs.toList = pairC x := h1
  have : cs = (pairC x).toArray := by rw [← h3]
  rw [this]; rfl

theorem endS_0 : endS [] 0 = 0 := by decide

set_option maxHeartbeats 4000000 in
set_option maxRecDepth 20000 in
theorem InstrPuts_walk (w : World) (x0 : InstrT) (hx0 : I64 x0.1 ∧ I64 x0.2) (ao1 : Option Addr) (cap1 : Nat) (b1 : List UInt8) (hl1 : Cells w ao1 (b1.map byteC) ∧ b1.length ≤ cap1 ∧ b1.length ≤ 140737488351232) (m0 : Int) (hm0 : w.cell? ⟨0, 0, none⟩ = some (.int .i64 m0)) :
    Calls Try.prog 12 #[.agg #[.int .i64 x0.1, .int .i64 x0.2], .slice ao1 b1.length cap1] w fun e w' => e = .returned (.bool true) ∧ Ext w w' := by
  obtain ⟨a, b⟩ := x0
  obtain ⟨⟨ha1, ha2⟩, hb⟩ := hx0
  obtain ⟨hb1, hb2⟩ := hb
  obtain ⟨hc1, -, hlen⟩ := hl1
  dsimp only at ha1 ha2 hb1 hb2
  have HM := Lib.hid hm0
  have HC1 := Lib.hid hc1
  clear hm0 hc1
  by_cases h50 : 50 < b1.length
  · have t1 : decide ((50 : Int) < b1.length) = true := decide_eq_true (by omega)
    have t1n : decide (50 < b1.length) = true := decide_eq_true h50
    go_enter Try.func12, Try.ntmps12
    go_upto_region 1 with fail
    obtain ⟨hx0, hz0, hcA⟩ := one_box w ([.int .i64 a, .int .i64 b] : List Value) 49
    generalize hW1 : w.alloc (.cells ([.int .i64 a, .int .i64 b] : List Value).toArray 49) = W1 at *
    clear hW1
    have c0 : W1.cell? ⟨w.heap.size, 0, none⟩ = some (.int .i64 a) := by have := hcA.cell _ _ rfl 0 _ rfl; rwa [Nat.zero_add] at this
    have c1 : W1.cell? ⟨w.heap.size, 1, none⟩ = some (.int .i64 b) := by have := hcA.cell _ _ rfl 1 _ rfl; rwa [Nat.zero_add] at this
    clear hcA
    have HX0 := Lib.hid hx0
    clear hx0
    go_wp2_with fail
    refine (instr_lives _ _ (HX0.out.has HM.out)).mono ?_
    rintro e w1 ⟨rfl, hx1⟩
    go_wp2_with fail
    go_ret
    exact ⟨rfl, HX0.out.tr hx1⟩
  · have t1 : decide ((50 : Int) < b1.length) = false := decide_eq_false (by omega)
    have t1n : decide (50 < b1.length) = false := decide_eq_false h50
    have HPL := Lib.hid (putInstr_le (a, b))
    have HPT := Lib.hid (fun h => instrTake_put (i := (a, b)) h ⟨hb1, hb2⟩ [])
    have HRT := Lib.hid (fun h => readI_text (i := (a, b)) h ⟨hb1, hb2⟩)
    have K1 := Lib.hid (fun W => instr_Text a b W ⟨hb1, hb2⟩)
    have K2 := Lib.hid (fun W => instrref_Text a b W ⟨hb1, hb2⟩)
    have K3 := Lib.hid (fun base v k0 xs W h1 h2 h3 => instr_Put base v k0 xs (a, b) W h1 h2 h3 hb1 hb2)
    have K4 := Lib.hid (fun W => instrref_Put (a, b) W hb1 hb2)
    have hTL : (textI (a, b)).length ≤ 40 := by
      have h1 := opNameL_len a
      have h2 := decB_len hb1 hb2
      unfold textI; split
      · split
        · simp only; omega
        · rw [List.length_append, List.length_cons]; simp only; omega
      · exact Nat.zero_le _
    rw [List.append_nil] at HPT
    go_enter Try.func12, Try.ntmps12
    go_upto_region 1 with fail
    obtain ⟨hx0, hz0, hcA⟩ := one_box w ([.int .i64 a, .int .i64 b] : List Value) 49
    generalize hW1 : w.alloc (.cells ([.int .i64 a, .int .i64 b] : List Value).toArray 49) = W1 at *
    clear hW1
    have c0 : W1.cell? ⟨w.heap.size, 0, none⟩ = some (.int .i64 a) := by have := hcA.cell _ _ rfl 0 _ rfl; rwa [Nat.zero_add] at this
    have c1 : W1.cell? ⟨w.heap.size, 1, none⟩ = some (.int .i64 b) := by have := hcA.cell _ _ rfl 1 _ rfl; rwa [Nat.zero_add] at this
    clear hcA
    have HX0 := Lib.hid hx0
    clear hx0
    go_wp2_with fail
    refine (K4.out _).mono ?_
    rintro e wr ⟨a5, k5, rfl, hc5, hx5, hf5⟩
    generalize putInstr (a, b) = PR at *
    have hpl := HPL.out
    replace c0 := hx5.has c0
    replace c1 := hx5.has c1
    have HX5 := Lib.hid (HX0.out.tr hx5)
    have j1 := HC1.out.ext HX5.out
    have j5 := hc5
    clear hx5 hc5
    have hxB : Ext wr (wr.drew.alloc (.cells #[] 5)) := (Ext.rf wr).dr.al _
    have ownB := World.ownsRow_lit (base := wr.heap.size) (e := 5) (size := 1) wr.drew #[] 0 (Nat.le_refl _) (by decide) rfl
    have jB := j1.ext hxB
    have hcb : ∀ W, Ext wr W → (convert 38 9 (.slice ao1 b1.length cap1)).run Try.prog W = .ok (.string (strB b1)) W := fun W h => run_bytes_string _ rfl Try.underlying38 Try.underlying5 Try.underlying9 (j1.ext h)
    have hcr : ∀ W, Ext wr W → (convert 38 9 (.slice a5 PR.length k5)).run Try.prog W = .ok (.string (strB PR)) W := fun W h => run_bytes_string _ rfl Try.underlying38 Try.underlying5 Try.underlying9 (j5.ext h)
    have e0 := Ext.rf wr
    have heq : strB b1 ++ strB PR = strB (b1 ++ PR) := strB_app _ _
    have hz1 : (strB b1).size = b1.length := strB_size _
    have hz2 : (strB PR).size = PR.length := strB_size _
    have hnb : ¬ 9223372036854775807 < (strB b1).size + (strB PR).size := by rw [hz1, hz2]; omega
    have hnb2 : ¬ 9223372036854775807 < b1.length + PR.length := by omega
    have q1 : ((strB (b1 ++ PR)).toList == (strB (b1 ++ PR)).toList) = true := by simp
    have q2 : (rightInstr (a, b) == rightInstr (a, b)) = true := by simp
    have q3 : ((strB (textI (a, b))).toList == (strB (textI (a, b))).toList) = true := by simp
    have HJ5 := Lib.hid j5
    have hl50 : b1.length ≤ 50 := by omega
    clear hz1 hz2 h50
    go_wp2_with fail
    refine wp_region_ext (fun W => Ext wr W) (by kernel_rfl) ((Ext.rf _).dr) (fun hS0 => ?_)
    refine take_op 1 (v := ?_) rfl (by kernel_rfl) (by kernel_rfl) (by kernel_rfl) (Or.inl ⟨by rfl, ?_⟩) (by assumption) ?_
    rotate_left 1
    · (intro W hS; go_simp; try with_reducible rfl)
    (try simp only [Act.put, List.setIfInBounds_toArray, List.set_cons_zero, List.set_cons_succ])
    refine take_op 3 (v := ?_) rfl (by kernel_rfl) (by kernel_rfl) (by kernel_rfl) (Or.inl ⟨by rfl, ?_⟩) (by assumption) ?_
    rotate_left 1
    · (intro W hS; have c0 := hS.has c0; have c1 := hS.has c1; go_simp; try with_reducible rfl)
    (try simp only [Act.put, List.setIfInBounds_toArray, List.set_cons_zero, List.set_cons_succ])
    refine take_op 6 (v := ?_) rfl (by kernel_rfl) (by kernel_rfl) (by kernel_rfl) (Or.inl ⟨by rfl, ?_⟩) (by assumption) ?_
    rotate_left 1
    · (intro W hS; go_simp; try with_reducible rfl)
    (try simp only [Act.put, List.setIfInBounds_toArray, List.set_cons_zero, List.set_cons_succ])
    refine take_op 7 (v := ?_) rfl (by kernel_rfl) (by kernel_rfl) (by kernel_rfl) (Or.inl ⟨by rfl, ?_⟩) (by assumption) ?_
    rotate_left 1
    · (intro W hS; go_simp; try with_reducible rfl)
    (try simp only [Act.put, List.setIfInBounds_toArray, List.set_cons_zero, List.set_cons_succ])
    refine take_op 8 (v := ?_) rfl (by kernel_rfl) (by kernel_rfl) (by kernel_rfl) (Or.inl ⟨by rfl, ?_⟩) (by assumption) ?_
    rotate_left 1
    · (intro W hS; go_simp; try with_reducible rfl)
    (try simp only [Act.put, List.setIfInBounds_toArray, List.set_cons_zero, List.set_cons_succ])
    refine take_op 9 (v := ?_) rfl (by kernel_rfl) (by kernel_rfl) (by kernel_rfl) (Or.inl ⟨by rfl, ?_⟩) (by assumption) ?_
    rotate_left 1
    · (intro W hS; go_simp; try with_reducible rfl)
    (try simp only [Act.put, List.setIfInBounds_toArray, List.set_cons_zero, List.set_cons_succ])
    refine take_op 10 (v := ?_) rfl (by kernel_rfl) (by kernel_rfl) (by kernel_rfl) (Or.inl ⟨by rfl, ?_⟩) (by assumption) ?_
    rotate_left 1
    · (intro W hS; go_simp; try with_reducible rfl)
    (try simp only [Act.put, List.setIfInBounds_toArray, List.set_cons_zero, List.set_cons_succ])
    refine do_op 0 rfl (by kernel_rfl) (fun K hK => ?_)
    go_simp
    refine hK.out _ _ hxB (fun hS => ?_)
    clear hK K
    (try simp only [Act.put, List.setIfInBounds_toArray, List.set_cons_zero, List.set_cons_succ])
    refine do_op 2 rfl (by kernel_rfl) (fun K hK => ?_)
    (refine step_appendAll rfl (.tmp 15) (.tmp 16) 38 rfl wr.heap.size 5 (.int .u8 0) 1 1 Try.underlying38 (by kernel_rfl) rfl (by decide) _ 0 _ ao1 b1.length cap1 (b1.map byteC) rfl ownB rfl jB (by simp) (by intro u hu; simp only [List.mem_map] at hu; obtain ⟨_, _, rfl⟩ := hu; rfl) (by unfold maxLen; omega) (by omega) hxB.size ?_; intro v6 w6 ho6 hg6; have hxA := hxB.push ownB (Nat.le_refl _) hg6)
    refine hK.out _ _ hxA (fun hS => ?_)
    clear hK K
    (try simp only [Act.put, List.setIfInBounds_toArray, List.set_cons_zero, List.set_cons_succ])
    refine do_op 4 rfl (by kernel_rfl) (fun K hK => ?_)
    go_simp; (with_reducible refine (K3.out wr.heap.size _ _ _ _ ho6 hxA.size (by omega)).mono ?_); rintro e w7 ⟨v7, rfl, ho7, hg7⟩; have hxP := hxA.push ho6 (Nat.le_refl _) hg7; obtain ⟨a7, k7, rfl, hc7, -⟩ := own_cells ho7
    refine hK.out _ _ hxP (fun hS => ?_)
    clear hK K
    (try simp only [Act.put, List.setIfInBounds_toArray, List.set_cons_zero, List.set_cons_succ])
    refine wpAnyH_weaken (S' := fun W => Ext w7 W) (fun W h => Ext.tr hxP h) _ _ _ _ ?_
    have hS : Ext w7 w7 := Ext.rf _
    have hcv7 : ∀ W, Ext w7 W → (convert 38 9 (.slice a7 (b1.length + PR.length) k7)).run Try.prog W = .ok (.string (strB (b1 ++ PR))) W := fun W h => run_bytes_string _ (by simp) Try.underlying38 Try.underlying5 Try.underlying9 (by simpa using hc7.ext h); replace c0 := hxP.has c0; replace c1 := hxP.has c1
    refine take_op 5 (v := ?_) rfl (by kernel_rfl) (by kernel_rfl) (by kernel_rfl) (Or.inl ⟨by rfl, ?_⟩) (by assumption) ?_
    rotate_left 1
    · (intro W hS; go_simp; try with_reducible rfl)
    (try simp only [Act.put, List.setIfInBounds_toArray, List.set_cons_zero, List.set_cons_succ])
    refine take_op 11 (v := ?_) rfl (by kernel_rfl) (by kernel_rfl) (by kernel_rfl) (Or.inl ⟨by rfl, ?_⟩) (by assumption) ?_
    rotate_left 1
    · (intro W hS; go_simp; try with_reducible rfl)
    (try simp only [Act.put, List.setIfInBounds_toArray, List.set_cons_zero, List.set_cons_succ])
    refine take_op 12 (v := ?_) rfl (by kernel_rfl) (by kernel_rfl) (by kernel_rfl) (Or.inl ⟨by rfl, ?_⟩) (by assumption) ?_
    rotate_left 1
    · (intro W hS; go_simp; try with_reducible rfl)
    (try simp only [Act.put, List.setIfInBounds_toArray, List.set_cons_zero, List.set_cons_succ])
    refine take_op 13 (v := ?_) rfl (by kernel_rfl) (by kernel_rfl) (by kernel_rfl) (Or.inl ⟨by rfl, ?_⟩) (by assumption) ?_
    rotate_left 1
    · (intro W hS; have c0 := hS.has c0; have c1 := hS.has c1; go_simp; try with_reducible rfl)
    (try simp only [Act.put, List.setIfInBounds_toArray, List.set_cons_zero, List.set_cons_succ])
    refine take_op 15 (v := ?_) rfl (by kernel_rfl) (by kernel_rfl) (by kernel_rfl) (Or.inl ⟨by rfl, ?_⟩) (by assumption) ?_
    rotate_left 1
    · (intro W hS; have c0 := hS.has c0; have c1 := hS.has c1; go_simp; try with_reducible rfl)
    (try simp only [Act.put, List.setIfInBounds_toArray, List.set_cons_zero, List.set_cons_succ])
    refine do_op 14 rfl (by kernel_rfl) (fun K hK => ?_)
    go_simp; (with_reducible refine (instr_Right a b _).mono ?_); rintro e w8 ⟨rfl, hx8⟩
    refine hK.out _ _ hx8 (fun hS => ?_)
    clear hK K
    (try simp only [Act.put, List.setIfInBounds_toArray, List.set_cons_zero, List.set_cons_succ])
    refine wpAnyH_weaken (S' := fun W => Ext w8 W) (fun W h => Ext.tr hx8 h) _ _ _ _ ?_
    have hS : Ext w8 w8 := Ext.rf _
    replace c0 := hx8.has c0; replace c1 := hx8.has c1
    refine do_op 16 rfl (by kernel_rfl) (fun K hK => ?_)
    go_simp; (with_reducible refine (instrref_Right a b _).mono ?_); rintro e w9 ⟨rfl, hx9⟩
    refine hK.out _ _ hx9 (fun hS => ?_)
    clear hK K
    (try simp only [Act.put, List.setIfInBounds_toArray, List.set_cons_zero, List.set_cons_succ])
    refine wpAnyH_weaken (S' := fun W => Ext w9 W) (fun W h => Ext.tr hx9 h) _ _ _ _ ?_
    have hS : Ext w9 w9 := Ext.rf _
    replace c0 := hx9.has c0; replace c1 := hx9.has c1
    refine take_op 17 (v := ?_) rfl (by kernel_rfl) (by kernel_rfl) (by kernel_rfl) (Or.inl ⟨by rfl, ?_⟩) (by assumption) ?_
    rotate_left 1
    · (intro W hS; go_simp; try with_reducible rfl)
    (try simp only [Act.put, List.setIfInBounds_toArray, List.set_cons_zero, List.set_cons_succ])
    refine take_op 18 (v := ?_) rfl (by kernel_rfl) (by kernel_rfl) (by kernel_rfl) (Or.inl ⟨by rfl, ?_⟩) (by assumption) ?_
    rotate_left 1
    · (intro W hS; go_simp; try with_reducible rfl)
    (try simp only [Act.put, List.setIfInBounds_toArray, List.set_cons_zero, List.set_cons_succ])
    refine take_op 19 (v := ?_) rfl (by kernel_rfl) (by kernel_rfl) (by kernel_rfl) (Or.inl ⟨by rfl, ?_⟩) (by assumption) ?_
    rotate_left 1
    · (intro W hS; go_simp; try with_reducible rfl)
    (try simp only [Act.put, List.setIfInBounds_toArray, List.set_cons_zero, List.set_cons_succ])
    refine take_op 20 (v := ?_) rfl (by kernel_rfl) (by kernel_rfl) (by kernel_rfl) (Or.inl ⟨by rfl, ?_⟩) (by assumption) ?_
    rotate_left 1
    · (intro W hS; have c0 := hS.has c0; have c1 := hS.has c1; go_simp; try with_reducible rfl)
    (try simp only [Act.put, List.setIfInBounds_toArray, List.set_cons_zero, List.set_cons_succ])
    refine take_op 22 (v := ?_) rfl (by kernel_rfl) (by kernel_rfl) (by kernel_rfl) (Or.inl ⟨by rfl, ?_⟩) (by assumption) ?_
    rotate_left 1
    · (intro W hS; have c0 := hS.has c0; have c1 := hS.has c1; go_simp; try with_reducible rfl)
    (try simp only [Act.put, List.setIfInBounds_toArray, List.set_cons_zero, List.set_cons_succ])
    refine do_op 21 rfl (by kernel_rfl) (fun K hK => ?_)
    go_simp; (with_reducible refine (K1.out _).mono ?_); rintro e w10 ⟨rfl, hx10⟩
    refine hK.out _ _ hx10 (fun hS => ?_)
    clear hK K
    (try simp only [Act.put, List.setIfInBounds_toArray, List.set_cons_zero, List.set_cons_succ])
    refine wpAnyH_weaken (S' := fun W => Ext w10 W) (fun W h => Ext.tr hx10 h) _ _ _ _ ?_
    have hS : Ext w10 w10 := Ext.rf _
    replace c0 := hx10.has c0; replace c1 := hx10.has c1
    refine do_op 23 rfl (by kernel_rfl) (fun K hK => ?_)
    go_simp; (with_reducible refine (K2.out _).mono ?_); rintro e w11 ⟨rfl, hx11⟩
    refine hK.out _ _ hx11 (fun hS => ?_)
    clear hK K
    (try simp only [Act.put, List.setIfInBounds_toArray, List.set_cons_zero, List.set_cons_succ])
    refine wpAnyH_weaken (S' := fun W => Ext w11 W) (fun W h => Ext.tr hx11 h) _ _ _ _ ?_
    have hS : Ext w11 w11 := Ext.rf _
    replace c0 := hx11.has c0; replace c1 := hx11.has c1
    refine take_op 24 (v := ?_) rfl (by kernel_rfl) (by kernel_rfl) (by kernel_rfl) (Or.inl ⟨by rfl, ?_⟩) (by assumption) ?_
    rotate_left 1
    · (intro W hS; go_simp; try with_reducible rfl)
    (try simp only [Act.put, List.setIfInBounds_toArray, List.set_cons_zero, List.set_cons_succ])
    refine take_op 25 (v := ?_) rfl (by kernel_rfl) (by kernel_rfl) (by kernel_rfl) (Or.inl ⟨by rfl, ?_⟩) (by assumption) ?_
    rotate_left 1
    · (intro W hS; go_simp; try with_reducible rfl)
    (try simp only [Act.put, List.setIfInBounds_toArray, List.set_cons_zero, List.set_cons_succ])
    refine wpAnyH_done (by kernel_rfl) ?_ _
    refine NoPanic.normal ?_
    have HXE := Lib.hid ((((hxP.tr hx8).tr hx9).tr hx10).tr hx11)
    have hcE := HJ5.out.ext HXE.out
    have HXF := Lib.hid (HX5.out.tr HXE.out)
    clear hxP hx8 hx9 hx10 hx11 hcv7 hc7 ho7 ho6 hg6 hg7 hxA hxB ownB jB j1 j5 hcb hcr e0 heq
    cases hr : rightInstr (a, b) with
    | false =>
      go_wp2_with fail
      refine (instrref_Right a b _).mono ?_
      rw [hr]
      rintro e w12 ⟨rfl, hx12⟩
      have HX12 := Lib.hid (HXF.out.tr hx12)
      clear hx12
      go_wp2_with fail
      refine (instr_lives _ _ (HX12.out.has HM.out)).mono ?_
      rintro e w13 ⟨rfl, hx13⟩
      go_wp2_with fail
      go_ret
      exact ⟨rfl, HX12.out.tr hx13⟩
    | true =>
      have HPT2 := Lib.hid (HPT.out hr)
      have HRT2 := Lib.hid (HRT.out hr)
      go_wp2_with fail
      refine (instrref_Right a b _).mono ?_
      rw [hr]
      rintro e w12 ⟨rfl, hx12⟩
      replace c0 := hx12.has c0
      replace c1 := hx12.has c1
      have HX12 := Lib.hid (HXF.out.tr hx12)
      have hcE := hcE.ext hx12
      clear hx12 hr HPT HRT HXE HXF
      go_wp2_with fail
      refine (cur_New _ _ _ _ hcE (by omega)).mono ?_
      rintro e w13 ⟨g, rfl, hg, hcu, hx13⟩
      have HCU := Lib.hid hcu
      have HX13 := Lib.hid (HX12.out.tr hx13)
      have hlt0 := World.block_lt_of_cell? _ _ c0
      replace c0 := hx13.has c0
      replace c1 := hx13.has c1
      have hgw : w.heap.size < g := Nat.lt_of_lt_of_le hlt0 hg
      clear hcu hx13 hlt0 hcE HX12
      have HT := Lib.hid (fun W (h : CurAt W g PR 0) => instr_Take g PR 0 W h (by omega))
      rw [HPT2.out] at HT
      have HRD := Lib.hid (fun W hm => instr_Read (textI (a, b)) m0 W hm (by omega))
      rw [HRT2.out] at HRD
      go_wp2_with fail
      refine (K1.out _).mono ?_
      rintro e w14 ⟨rfl, hx14⟩
      have HX14 := Lib.hid (HX13.out.tr hx14)
      have HCU := Lib.hid (HCU.out.ext hx14)
      replace c0 := hx14.has c0
      replace c1 := hx14.has c1
      clear hx14 HX13
      go_wp2_with fail
      refine (HRD.out _ (HX14.out.has HM.out)).mono ?_
      rintro e w15 ⟨rfl, hx15⟩
      have HX15 := Lib.hid (HX14.out.tr hx15)
      have HCU := Lib.hid (HCU.out.ext hx15)
      replace c0 := hx15.has c0
      replace c1 := hx15.has c1
      have hg15 : g < w15.heap.size := HCU.out.lt
      clear hx15 HX14
      go_wp2_with fail
      obtain ⟨w16, hw16⟩ : ∃ x, x = w15.alloc (.cells #[.int .i64 a, .int .i64 b] 49) := ⟨_, rfl⟩
      rw [← hw16]
      have hxa : Ext w15 w16.drew := by rw [hw16]; exact ((Ext.rf _).al _).dr
      have h7 : w16.drew.heap[w15.heap.size]? = some (.cells #[.int .i64 a, .int .i64 b] 49 (0, 0)) := by rw [hw16]; exact alloc_new w15 _
      have hy := HX15.out.tr hxa
      have HC := Lib.hid (HCU.out.ext hxa)
      replace c0 := hxa.has c0
      replace c1 := hxa.has c1
      clear hw16 hxa HX15 HCU
      generalize w15.heap.size = S at *
      have hq : ∀ W, (binOp .eql 49 (.agg #[.int .i64 a, .int .i64 b]) (.agg #[.int .i64 a, .int .i64 b])).run Try.prog W = .ok (.bool true) W := fun W => by
        have h := run_eql_ints (P := Try.prog) (k := .i64) (t := 49) (n := 2) (by decide) (by kernel_rfl) W [a, b] [a, b] rfl rfl
        simpa using h
      have hE0 := endS_0
      refine wp_region_ext (fun W => Ext w W ∧ W.cell? ⟨w.heap.size, 0, none⟩ = some (.int .i64 a) ∧ W.cell? ⟨w.heap.size, 1, none⟩ = some (.int .i64 b) ∧ W.heap[S]? = some (.cells #[.int .i64 a, .int .i64 b] 49 (0, 0))) (by kernel_rfl) ⟨hy, c0, c1, h7⟩ (fun hS => ?_)
      refine take_op 0 (v := ?_) rfl (by kernel_rfl) (by kernel_rfl) (by kernel_rfl) (Or.inl ⟨by rfl, ?_⟩) (by assumption) ?_
      rotate_left 1
      · (intro W hS; go_simp; try with_reducible rfl)
      (try simp only [Act.put, List.setIfInBounds_toArray, List.set_cons_zero, List.set_cons_succ])
      refine take_op 2 (v := ?_) rfl (by kernel_rfl) (by kernel_rfl) (by kernel_rfl) (Or.inl ⟨by rfl, ?_⟩) (by assumption) ?_
      rotate_left 1
      · (intro W hS; obtain ⟨-, l0, l1, hS7⟩ := hS; have m0 := blk hS7 0 rfl; have m1 := blk hS7 1 rfl; go_simp; try with_reducible rfl)
      (try simp only [Act.put, List.setIfInBounds_toArray, List.set_cons_zero, List.set_cons_succ])
      refine do_op 1 rfl (by kernel_rfl) (fun K hK => ?_)
      go_simp; (with_reducible refine (HT.out _ HC.out).mono ?_); rintro e w17 ⟨rfl, hcu5, hg5⟩
      refine hK.out _ _ ⟨ext_grown hy hg5 (by omega), hg5.cell c0 (by simp; omega), hg5.cell c1 (by simp; omega), keepG hg5 h7 (by omega)⟩ (fun hS => ?_)
      clear hK K
      (try simp only [Act.put, List.setIfInBounds_toArray, List.set_cons_zero, List.set_cons_succ])
      replace c0 := hg5.cell c0 (by simp; omega); replace c1 := hg5.cell c1 (by simp; omega); replace h7 := keepG hg5 h7 (by omega); replace hy := ext_grown hy hg5 (by omega); replace HC := Lib.hid hcu5
      refine take_op 3 (v := ?_) rfl (by kernel_rfl) (by kernel_rfl) (by kernel_rfl) (Or.inl ⟨by rfl, ?_⟩) (by assumption) ?_
      rotate_left 1
      · (intro W hS; go_simp; try with_reducible rfl)
      (try simp only [Act.put, List.setIfInBounds_toArray, List.set_cons_zero, List.set_cons_succ])
      refine take_op 4 (v := ?_) rfl (by kernel_rfl) (by kernel_rfl) (by kernel_rfl) (Or.inl ⟨by rfl, ?_⟩) (by assumption) ?_
      rotate_left 1
      · (intro W hS; go_simp; try with_reducible rfl)
      (try simp only [Act.put, List.setIfInBounds_toArray, List.set_cons_zero, List.set_cons_succ])
      refine take_op 5 (v := ?_) rfl (by kernel_rfl) (by kernel_rfl) (by kernel_rfl) (Or.inl ⟨by rfl, ?_⟩) (by assumption) ?_
      rotate_left 1
      · (intro W hS; go_simp; try with_reducible rfl)
      (try simp only [Act.put, List.setIfInBounds_toArray, List.set_cons_zero, List.set_cons_succ])
      refine do_op 6 rfl (by kernel_rfl) (fun K hK => ?_)
      go_simp; (with_reducible refine (cur_End g [] 0 _ HC.out).mono ?_); rw [hE0]; rintro e w18 ⟨rfl, rfl⟩
      refine hK.out _ _ ⟨hy, c0, c1, h7⟩ (fun hS => ?_)
      clear hK K
      (try simp only [Act.put, List.setIfInBounds_toArray, List.set_cons_zero, List.set_cons_succ])
      refine take_op 7 (v := ?_) rfl (by kernel_rfl) (by kernel_rfl) (by kernel_rfl) (Or.inl ⟨by rfl, ?_⟩) (by assumption) ?_
      rotate_left 1
      · (intro W hS; go_simp; try with_reducible rfl)
      (try simp only [Act.put, List.setIfInBounds_toArray, List.set_cons_zero, List.set_cons_succ])
      refine take_op 8 (v := ?_) rfl (by kernel_rfl) (by kernel_rfl) (by kernel_rfl) (Or.inl ⟨by rfl, ?_⟩) (by assumption) ?_
      rotate_left 1
      · (intro W hS; go_simp; try with_reducible rfl)
      (try simp only [Act.put, List.setIfInBounds_toArray, List.set_cons_zero, List.set_cons_succ])
      refine take_op 9 (v := ?_) rfl (by kernel_rfl) (by kernel_rfl) (by kernel_rfl) (Or.inl ⟨by rfl, ?_⟩) (by assumption) ?_
      rotate_left 1
      · (intro W hS; go_simp; try with_reducible rfl)
      (try simp only [Act.put, List.setIfInBounds_toArray, List.set_cons_zero, List.set_cons_succ])
      refine take_op 10 (v := ?_) rfl (by kernel_rfl) (by kernel_rfl) (by kernel_rfl) (Or.inl ⟨by rfl, ?_⟩) (by assumption) ?_
      rotate_left 1
      · (intro W hS; obtain ⟨-, l0, l1, hS7⟩ := hS; have m0 := blk hS7 0 rfl; have m1 := blk hS7 1 rfl; go_simp; try with_reducible rfl)
      (try simp only [Act.put, List.setIfInBounds_toArray, List.set_cons_zero, List.set_cons_succ])
      refine take_op 11 (v := ?_) rfl (by kernel_rfl) (by kernel_rfl) (by kernel_rfl) (Or.inl ⟨by rfl, ?_⟩) (by assumption) ?_
      rotate_left 1
      · (intro W hS; obtain ⟨-, l0, l1, hS7⟩ := hS; have m0 := blk hS7 0 rfl; have m1 := blk hS7 1 rfl; go_simp; try with_reducible rfl)
      (try simp only [Act.put, List.setIfInBounds_toArray, List.set_cons_zero, List.set_cons_succ])
      refine take_op 12 (v := ?_) rfl (by kernel_rfl) (by kernel_rfl) (by kernel_rfl) (Or.inl ⟨by rfl, ?_⟩) (by assumption) ?_
      rotate_left 1
      · (intro W hS; go_simp; try with_reducible rfl)
      (try simp only [Act.put, List.setIfInBounds_toArray, List.set_cons_zero, List.set_cons_succ])
      refine take_op 13 (v := ?_) rfl (by kernel_rfl) (by kernel_rfl) (by kernel_rfl) (Or.inl ⟨by rfl, ?_⟩) (by assumption) ?_
      rotate_left 1
      · (intro W hS; go_simp; try with_reducible rfl)
      (try simp only [Act.put, List.setIfInBounds_toArray, List.set_cons_zero, List.set_cons_succ])
      refine take_op 14 (v := ?_) rfl (by kernel_rfl) (by kernel_rfl) (by kernel_rfl) (Or.inl ⟨by rfl, ?_⟩) (by assumption) ?_
      rotate_left 1
      · (intro W hS; go_simp; try with_reducible rfl)
      (try simp only [Act.put, List.setIfInBounds_toArray, List.set_cons_zero, List.set_cons_succ])
      refine take_op 15 (v := ?_) rfl (by kernel_rfl) (by kernel_rfl) (by kernel_rfl) (Or.inl ⟨by rfl, ?_⟩) (by assumption) ?_
      rotate_left 1
      · (intro W hS; go_simp; try with_reducible rfl)
      (try simp only [Act.put, List.setIfInBounds_toArray, List.set_cons_zero, List.set_cons_succ])
      refine take_op 16 (v := ?_) rfl (by kernel_rfl) (by kernel_rfl) (by kernel_rfl) (Or.inl ⟨by rfl, ?_⟩) (by assumption) ?_
      rotate_left 1
      · (intro W hS; go_simp; try with_reducible rfl)
      (try simp only [Act.put, List.setIfInBounds_toArray, List.set_cons_zero, List.set_cons_succ])
      refine take_op 17 (v := ?_) rfl (by kernel_rfl) (by kernel_rfl) (by kernel_rfl) (Or.inl ⟨by rfl, ?_⟩) (by assumption) ?_
      rotate_left 1
      · (intro W hS; go_simp; try with_reducible rfl)
      (try simp only [Act.put, List.setIfInBounds_toArray, List.set_cons_zero, List.set_cons_succ])
      refine take_op 18 (v := ?_) rfl (by kernel_rfl) (by kernel_rfl) (by kernel_rfl) (Or.inl ⟨by rfl, ?_⟩) (by assumption) ?_
      rotate_left 1
      · (intro W hS; go_simp; try with_reducible rfl)
      (try simp only [Act.put, List.setIfInBounds_toArray, List.set_cons_zero, List.set_cons_succ])
      refine do_op 19 rfl (by kernel_rfl) (fun K hK => ?_)
      go_simp; (with_reducible refine (instr_lives _ _ (hy.has HM.out)).mono ?_); rintro e w19 ⟨rfl, hx19⟩
      refine hK.out _ _ ⟨hy.tr hx19, hx19.has c0, hx19.has c1, hx19.blk h7⟩ (fun hS => ?_)
      clear hK K
      (try simp only [Act.put, List.setIfInBounds_toArray, List.set_cons_zero, List.set_cons_succ])
      replace hy := hy.tr hx19
      refine take_op 20 (v := ?_) rfl (by kernel_rfl) (by kernel_rfl) (by kernel_rfl) (Or.inl ⟨by rfl, ?_⟩) (by assumption) ?_
      rotate_left 1
      · (intro W hS; go_simp; try with_reducible rfl)
      (try simp only [Act.put, List.setIfInBounds_toArray, List.set_cons_zero, List.set_cons_succ])
      refine take_op 21 (v := ?_) rfl (by kernel_rfl) (by kernel_rfl) (by kernel_rfl) (Or.inl ⟨by rfl, ?_⟩) (by assumption) ?_
      rotate_left 1
      · (intro W hS; go_simp; try with_reducible rfl)
      (try simp only [Act.put, List.setIfInBounds_toArray, List.set_cons_zero, List.set_cons_succ])
      refine wpAnyH_done (by kernel_rfl) ?_ _
      refine NoPanic.normal ?_
      go_wp2_with fail
      go_ret
      exact ⟨rfl, hy⟩
end Go.Proofs.Ytofdkhilapmccaa
