/- A function's bytes: fnc.Put. -/
import Derived.Test.YtofdkhilapmccaaFncX
import Derived.Test.YtofdkhilapmccaaStrA
namespace Go.Proofs.Ytofdkhilapmccaa
open Go.RowKit

theorem flag_byte (f : FuncT) : Value.int .u8 (flagF f) = byteC (UInt8.ofNat (flagF f)) := by
  have : flagF f < 256 := by unfold flagF; split <;> split <;> omega
  rw [byteC, UInt8.toNat_ofNat', Nat.mod_eq_of_lt this]
theorem putFY_le (f : FuncT) : (putF' f).length ≤ 1000000 := by
  unfold putF'; split
  · rename_i h
    obtain ⟨s0, s1, s2, s3, s4, s5, s6, s7, s8, s9⟩ := canF_small h
    have h1 := putB_le f.name.size
    have htl : f.name.data.toList.length = f.name.size := by rw [Array.length_toList]; rfl
    have h2 := sigPut_le f.outer
    have h3 := sigPut_le f.params
    have h4 := sigPut_le f.results
    have h5 := sigPut_le f.locs
    have h6 := putB_le f.code.length
    have h7 := flat_le putInstr 11 putInstr_le f.code
    have h8 := putRuns_le (runsOf f.lines)
    have h9 := (cntOk f.lines).1
    have h10 := putB_le f.nodes.length
    have h11 := flat_le putNode 70 putNode_le f.nodes
    have h12 := putRuns_le (runsOf f.ats)
    have h13 := (cntOk f.ats).1
    have h14 := putMaps_le f.live
    have h15 : (sigsY f).length ≤ 400 := by
      unfold sigsY; split <;> simp only [List.length_append, List.length_nil] <;> omega
    have h16 : (tabsY f).length ≤ 300000 := by
      unfold tabsY putTree; split <;> simp only [List.length_append, List.length_nil] <;> omega
    simp only [bytesY, headY, codeY, List.length_append, List.length_singleton]
    omega
  · exact Nat.zero_le _
theorem nodes_ne {l : List NodeT} (h : l ≠ []) : l.flatMap nodeC ≠ [] := by
  cases l with
  | nil => exact absurd rfl h
  | cons x l => simp [nodeC]
theorem cells_below {w : World} {ao : Option Addr} {cs : List Value} {base : Nat} (h : Cells w ao cs) (hb : w.heap.size ≤ base) (b off : Nat) (hne : cs ≠ []) (e : ao = some ⟨b, off, none⟩) : b < base := by
  subst e; exact Nat.lt_of_lt_of_le (h.lt hne) hb

set_option maxHeartbeats 16000000 in
set_option maxRecDepth 20000 in
theorem fnc_Put (base : Nat) (v : Value) (k0 : Nat) (xs : List Value) (A : FuncA) (f : FuncT) (w0 w : World) (hown : w.ownsRow base 5 1 v k0 xs) (hb : base ≤ w.heap.size) (hk0 : k0 ≤ 4294967296)
    (hf : FuncIn w0 A f) (hx : Ext w0 w) (hb0 : w0.heap.size ≤ base) (bf : FuncB f) :
    Calls Try.prog 51 #[v, .agg #[.string f.name, .bool f.inner, .slice A.o1 f.outer.length A.c1, .slice A.o2 f.params.length A.c2, .slice A.o3 f.results.length A.c3, .slice A.o4 f.locs.length A.c4, .slice A.o5 f.code.length A.c5, .slice A.o6 f.lines.length A.c6, .slice A.o7 f.nodes.length A.c7, .slice A.o8 f.ats.length A.c8, .slice A.o9 f.live.length A.c9]] w (PutRow base v k0 xs (putF' f) w) := by
  have HFB := Lib.hid bf
  have HFI := Lib.hid (hf.ext hx)
  have HBR : Hid (∀ W, Calls Try.prog 49 #[.agg #[.string f.name, .bool f.inner, .slice A.o1 f.outer.length A.c1, .slice A.o2 f.params.length A.c2, .slice A.o3 f.results.length A.c3, .slice A.o4 f.locs.length A.c4, .slice A.o5 f.code.length A.c5, .slice A.o6 f.lines.length A.c6, .slice A.o7 f.nodes.length A.c7, .slice A.o8 f.ats.length A.c8, .slice A.o9 f.live.length A.c9]] W fun e w' => e = .returned (.bool (bareF f)) ∧ Ext W w') := fun W => fnc_Bare A f W bf
  have HFL : Hid (∀ W, Calls Try.prog 111 #[.agg #[.string f.name, .bool f.inner, .slice A.o1 f.outer.length A.c1, .slice A.o2 f.params.length A.c2, .slice A.o3 f.results.length A.c3, .slice A.o4 f.locs.length A.c4, .slice A.o5 f.code.length A.c5, .slice A.o6 f.lines.length A.c6, .slice A.o7 f.nodes.length A.c7, .slice A.o8 f.ats.length A.c8, .slice A.o9 f.live.length A.c9]] W fun e w' => e = .returned (.int .u8 (flagF f)) ∧ Ext W w') := fun W => fnc_flag A f W bf
  clear bf
  have hne : v.ownBlock ≠ some w.heap.size := fun e => by have := (hown.lt _ e).2; omega
  have hlow : ∀ k, v.ownBlock = some k → w0.heap.size ≤ k := fun k e => Nat.le_trans hb0 (hown.lt _ e).1
  go_enter Try.func51, Try.ntmps51
  go_upto_region 1 with fail
  obtain ⟨hx0, hz0, hcA⟩ := one_box w [.string f.name, .bool f.inner, .slice A.o1 f.outer.length A.c1, .slice A.o2 f.params.length A.c2, .slice A.o3 f.results.length A.c3, .slice A.o4 f.locs.length A.c4, .slice A.o5 f.code.length A.c5, .slice A.o6 f.lines.length A.c6, .slice A.o7 f.nodes.length A.c7, .slice A.o8 f.ats.length A.c8, .slice A.o9 f.live.length A.c9] 28
  generalize hW1 : w.alloc (.cells ([.string f.name, .bool f.inner, .slice A.o1 f.outer.length A.c1, .slice A.o2 f.params.length A.c2, .slice A.o3 f.results.length A.c3, .slice A.o4 f.locs.length A.c4, .slice A.o5 f.code.length A.c5, .slice A.o6 f.lines.length A.c6, .slice A.o7 f.nodes.length A.c7, .slice A.o8 f.ats.length A.c8, .slice A.o9 f.live.length A.c9] : List Value).toArray 28) = W1 at *
  clear hW1
  have c0 : W1.cell? ⟨w.heap.size, 0, none⟩ = some (.string f.name) := by have := hcA.cell _ _ rfl 0 _ rfl; rwa [Nat.zero_add] at this
  have c1 : W1.cell? ⟨w.heap.size, 1, none⟩ = some (.bool f.inner) := by have := hcA.cell _ _ rfl 1 _ rfl; rwa [Nat.zero_add] at this
  have c2 : W1.cell? ⟨w.heap.size, 2, none⟩ = some (.slice A.o1 f.outer.length A.c1) := by have := hcA.cell _ _ rfl 2 _ rfl; rwa [Nat.zero_add] at this
  have c3 : W1.cell? ⟨w.heap.size, 3, none⟩ = some (.slice A.o2 f.params.length A.c2) := by have := hcA.cell _ _ rfl 3 _ rfl; rwa [Nat.zero_add] at this
  have c4 : W1.cell? ⟨w.heap.size, 4, none⟩ = some (.slice A.o3 f.results.length A.c3) := by have := hcA.cell _ _ rfl 4 _ rfl; rwa [Nat.zero_add] at this
  have c5 : W1.cell? ⟨w.heap.size, 5, none⟩ = some (.slice A.o4 f.locs.length A.c4) := by have := hcA.cell _ _ rfl 5 _ rfl; rwa [Nat.zero_add] at this
  have c6 : W1.cell? ⟨w.heap.size, 6, none⟩ = some (.slice A.o5 f.code.length A.c5) := by have := hcA.cell _ _ rfl 6 _ rfl; rwa [Nat.zero_add] at this
  have c7 : W1.cell? ⟨w.heap.size, 7, none⟩ = some (.slice A.o6 f.lines.length A.c6) := by have := hcA.cell _ _ rfl 7 _ rfl; rwa [Nat.zero_add] at this
  have c8 : W1.cell? ⟨w.heap.size, 8, none⟩ = some (.slice A.o7 f.nodes.length A.c7) := by have := hcA.cell _ _ rfl 8 _ rfl; rwa [Nat.zero_add] at this
  have c9 : W1.cell? ⟨w.heap.size, 9, none⟩ = some (.slice A.o8 f.ats.length A.c8) := by have := hcA.cell _ _ rfl 9 _ rfl; rwa [Nat.zero_add] at this
  have c10 : W1.cell? ⟨w.heap.size, 10, none⟩ = some (.slice A.o9 f.live.length A.c9) := by have := hcA.cell _ _ rfl 10 _ rfl; rwa [Nat.zero_add] at this
  clear hcA
  go_wp2_with fail
  refine (fnc_Can A f _ (HFI.out.ext hx0) HFB.out).mono ?_
  rintro e W2 ⟨rfl, hx2⟩
  have hown2 := own_ext hown (hx0.tr hx2)
  have HG2 := Lib.hid ((Grow.rf w v).extR (hx0.tr hx2))
  have hb2 : base ≤ W2.heap.size := by have := (hx0.tr hx2).size; omega
  have hX2 := hx.tr (hx0.tr hx2)
  have HBX : Hid (∀ W u, Grow W2 W v u → ∀ i c, (funcC A f)[i]? = some c → W.cell? ⟨w.heap.size, i, none⟩ = some c) := fun W u hg i c h => by
    have hlt : w.heap.size < W2.heap.size := Nat.lt_of_lt_of_le hz0 hx2.size
    have h2 : W2.cell? ⟨w.heap.size, i, none⟩ = some c := by
      refine hx2.has ?_
      rcases i with _ | _ | _ | _ | _ | _ | _ | _ | _ | _ | _ | i
      · simp only [funcC, List.getElem?_cons_zero, Option.some.injEq] at h; subst h; exact c0
      all_goals (simp only [funcC, List.getElem?_cons_succ, List.getElem?_cons_zero, List.getElem?_nil, Option.some.injEq] at h)
      all_goals first | (cases h; done) | (subst h; assumption)
    exact hg.togrownBy.cell h2 (fun e2 => hne e2.symm)
  have HFI2 : Hid (∀ W u, Grow W2 W v u → FuncIn W A f) := fun W u hg => hf.ext (Below.grown hX2.b hg.togrownBy hX2.size hlow)
  have HV2 : Hid (∀ n ∈ f.params, -9223372036854775808 ≤ n ∧ n ≤ 9223372036854775807) := HFB.out.v2
  have HV3 : Hid (∀ n ∈ f.results, -9223372036854775808 ≤ n ∧ n ≤ 9223372036854775807) := HFB.out.v3
  have HV4 : Hid (∀ n ∈ f.locs, -9223372036854775808 ≤ n ∧ n ≤ 9223372036854775807) := HFB.out.v4
  have HV8 : Hid (∀ n ∈ f.ats, -9223372036854775808 ≤ n ∧ n ≤ 9223372036854775807) := HFB.out.v8
  have HF1 : Hid (∀ b off, f.outer ≠ [] → A.o1 = some ⟨b, off, none⟩ → b < base) := fun b off h e => cells_below hf.h1 hb0 b off (by simpa using h) e
  have HF2 : Hid (∀ b off, f.params ≠ [] → A.o2 = some ⟨b, off, none⟩ → b < base) := fun b off h e => cells_below hf.h2 hb0 b off (by simpa using h) e
  have HF3 : Hid (∀ b off, f.results ≠ [] → A.o3 = some ⟨b, off, none⟩ → b < base) := fun b off h e => cells_below hf.h3 hb0 b off (by simpa using h) e
  have HF4 : Hid (∀ b off, f.locs ≠ [] → A.o4 = some ⟨b, off, none⟩ → b < base) := fun b off h e => cells_below hf.h4 hb0 b off (by simpa using h) e
  have HF7 : Hid (∀ b off, f.nodes ≠ [] → A.o7 = some ⟨b, off, none⟩ → b < base) := fun b off h e => cells_below hf.h7 hb0 b off (nodes_ne h) e
  clear HFI hx0 hx2 c0 c1 c2 c3 c4 c5 c6 c7 c8 c9 c10 hf hx hX2 hown
  cases hcan : canF f == 0 with
  | false =>
    have hm : (canF f != 0) = true := by rw [bne, hcan]; rfl
    have HR : Hid (putF' f = []) := by rw [Hid, putF', if_neg (by simpa using hcan)]
    clear hcan
    obtain ⟨ro, rc, rfl⟩ := own_form hown2
    go_wp2_with fail
    go_ret
    exact ⟨_, rfl, by rw [HR.out]; simpa using hown2, HG2.out⟩
  | true =>
    have h0 : canF f = 0 := by simpa using hcan
    have HRB0 : Hid (putF' f = bytesY f) := by rw [Hid, putF', if_pos h0]
    obtain ⟨s0, s1, s2, s3, s4, s5, s6, s7, s8, s9⟩ := canF_small h0
    rw [h0]
    clear hcan h0
    have hwn : IntKind.u64.wrap (f.name.size : Int) = f.name.size := by rw [IntKind.wrap_u64]; omega
    have hwc : IntKind.u64.wrap (f.code.length : Int) = f.code.length := by rw [IntKind.wrap_u64]; omega
    have htl : f.name.data.toList.length = f.name.size := by rw [Array.length_toList]; rfl
    have hpn := putB_le f.name.size
    go_upto_region 3 with fail
    go_cut [0] (fun s0' wx => wx.ownsRow base 5 1 s0' (k0 + (putB f.name.size ++ f.name.data.toList).length) (xs ++ (putB f.name.size ++ f.name.data.toList).map byteC) ∧ Grow W2 wx v s0')
    case first =>
      have hy := (Grow.rf W2 v).extR ((Ext.rf W2).dr)
      have ho := own_ext hown2 ((Ext.rf W2).dr)
      have hz := Nat.le_trans hb2 hy.size
      refine wp_region_ext (fun W => ∃ u, Grow W2 W v u) (by kernel_rfl) ⟨_, hy⟩ (fun hS => ?_)
      refine take_op 0 (v := ?_) rfl (by kernel_rfl) (by kernel_rfl) (by kernel_rfl) (Or.inl ⟨by rfl, ?_⟩) (by assumption) ?_
      rotate_left 1
      · (intro W hS; go_simp; try with_reducible rfl)
      (try simp only [Act.put, List.setIfInBounds_toArray, List.set_cons_zero, List.set_cons_succ])
      refine take_op 1 (v := ?_) rfl (by kernel_rfl) (by kernel_rfl) (by kernel_rfl) (Or.inl ⟨by rfl, ?_⟩) (by assumption) ?_
      rotate_left 1
      · (intro W hS; go_simp; try with_reducible rfl)
      (try simp only [Act.put, List.setIfInBounds_toArray, List.set_cons_zero, List.set_cons_succ])
      refine take_op 2 (v := ?_) rfl (by kernel_rfl) (by kernel_rfl) (by kernel_rfl) (Or.inl ⟨by rfl, ?_⟩) (by assumption) ?_
      rotate_left 1
      · (intro W hS; obtain ⟨uS, hgS⟩ := hS; have d0 := HBX.out _ _ hgS 0 _ rfl; go_simp; try with_reducible rfl)
      (try simp only [Act.put, List.setIfInBounds_toArray, List.set_cons_zero, List.set_cons_succ])
      refine take_op 3 (v := ?_) rfl (by kernel_rfl) (by kernel_rfl) (by kernel_rfl) (Or.inl ⟨by rfl, ?_⟩) (by assumption) ?_
      rotate_left 1
      · (intro W hS; go_simp; try with_reducible rfl)
      (try simp only [Act.put, List.setIfInBounds_toArray, List.set_cons_zero, List.set_cons_succ])
      refine take_op 4 (v := ?_) rfl (by kernel_rfl) (by kernel_rfl) (by kernel_rfl) (Or.inl ⟨by rfl, ?_⟩) (by assumption) ?_
      rotate_left 1
      · (intro W hS; obtain ⟨uS, hgS⟩ := hS; have d0 := HBX.out _ _ hgS 0 _ rfl; go_simp; try with_reducible rfl)
      (try simp only [Act.put, List.setIfInBounds_toArray, List.set_cons_zero, List.set_cons_succ])
      refine take_op 6 (v := ?_) rfl (by kernel_rfl) (by kernel_rfl) (by kernel_rfl) (Or.inl ⟨by rfl, ?_⟩) (by assumption) ?_
      rotate_left 1
      · (intro W hS; go_simp; try with_reducible rfl)
      (try simp only [Act.put, List.setIfInBounds_toArray, List.set_cons_zero, List.set_cons_succ])
      refine take_op 7 (v := ?_) rfl (by kernel_rfl) (by kernel_rfl) (by kernel_rfl) (Or.inl ⟨by rfl, ?_⟩) (by assumption) ?_
      rotate_left 1
      · (intro W hS; obtain ⟨uS, hgS⟩ := hS; have d0 := HBX.out _ _ hgS 0 _ rfl; go_simp; try with_reducible rfl)
      (try simp only [Act.put, List.setIfInBounds_toArray, List.set_cons_zero, List.set_cons_succ])
      refine do_op 5 rfl (by kernel_rfl) (fun K hK => ?_)
      go_simp; (with_reducible refine (uvar_Put base _ _ _ f.name.size _ ho hz (by omega) (by omega)).mono ?_); rintro e wA ⟨vA, rfl, hoA, hgA⟩
      refine hK.out _ _ ⟨_, hy.tr hgA⟩ (fun hS => ?_)
      clear hK K
      (try simp only [Act.put, List.setIfInBounds_toArray, List.set_cons_zero, List.set_cons_succ])
      replace hy := hy.tr hgA; replace ho := hoA; replace hz := Nat.le_trans hb2 hy.size
      refine do_op 8 rfl (by kernel_rfl) (fun K hK => ?_)
      refine step_appendStr rfl (.tmp 16) (.tmp 18) 38 9 rfl base 5 (.int .u8 0) Try.underlying38 Try.underlying9 (by kernel_rfl) rfl _ _ _ rfl ho f.name rfl (by unfold maxLen; omega) (by omega) hz ?_; intro vC wC hoC hgC
      refine hK.out _ _ ⟨_, hy.tr hgC⟩ (fun hS => ?_)
      clear hK K
      (try simp only [Act.put, List.setIfInBounds_toArray, List.set_cons_zero, List.set_cons_succ])
      replace hy := hy.tr hgC; replace ho := hoC
      refine take_op 9 (v := ?_) rfl (by kernel_rfl) (by kernel_rfl) (by kernel_rfl) (Or.inl ⟨by rfl, ?_⟩) (by assumption) ?_
      rotate_left 1
      · (intro W hS; go_simp; try with_reducible rfl)
      (try simp only [Act.put, List.setIfInBounds_toArray, List.set_cons_zero, List.set_cons_succ])
      refine wpAnyH_done (by kernel_rfl) ?_ _
      refine NoPanic.normal ?_
      go_wp2_with fail
      go_meet
      exact ⟨by rw [List.length_append, List.map_append, htl, ← List.append_assoc, ← Nat.add_assoc]; exact ho, hy⟩
    case rest =>
      obtain ⟨HO0, hg0⟩ := hcut
      have hle0 : (putB f.name.size ++ f.name.data.toList).length ≤ 22 := by rw [List.length_append]; omega
      clear hwn hpn htl hown2
      rcases Bool.eq_false_or_eq_true f.inner with hi | hi <;> rcases Bool.eq_false_or_eq_true (bareF f) with hq | hq
      · have HRB : Hid (putF' f = (putB f.name.size ++ f.name.data.toList ++ [UInt8.ofNat (flagF f)]) ++ (sigPut f.outer ++ sigPut f.params ++ sigPut f.results ++ sigPut f.locs) ++ (putB f.code.length ++ f.code.flatMap putInstr) ++ putRuns (runsOf f.lines) ++ []) := by
          rw [Hid, HRB0.out, bytesY, headY, sigsY, codeY, tabsY, hi, hq]; rfl
        rw [hi] at HFL HBR
        rw [hq] at HBR
        have d0 := HBX.out _ _ hg0 0 _ rfl
        have d1 := HBX.out _ _ hg0 1 _ rfl
        have d2 := HBX.out _ _ hg0 2 _ rfl
        have d3 := HBX.out _ _ hg0 3 _ rfl
        have d4 := HBX.out _ _ hg0 4 _ rfl
        have d5 := HBX.out _ _ hg0 5 _ rfl
        have d6 := HBX.out _ _ hg0 6 _ rfl
        have d7 := HBX.out _ _ hg0 7 _ rfl
        have d8 := HBX.out _ _ hg0 8 _ rfl
        have d9 := HBX.out _ _ hg0 9 _ rfl
        have d10 := HBX.out _ _ hg0 10 _ rfl
        rw [hi] at d1
        generalize hD : putB f.name.size ++ f.name.data.toList = D0 at *
        have HD0 := Lib.hid hD
        clear hD HRB0
        go_wp2_with fail
        refine (HFL.out _).mono ?_
        rintro e wf ⟨rfl, hxf⟩
        have hoF := own_ext HO0 hxf
        have hgF := hg0.extR hxf
        have hbF := Nat.le_trans hb2 hgF.size
        have d1' := hxf.has d1
        clear HO0 hg0 hxf d0 d1 d2 d3 d4 d5 d6 d7 d8 d9 d10
        go_upto_region 5 with (at_builtin; (refine wpList_push rfl (.tmp 20) (.tmp 23) 38 rfl base 5 5 (.int .u8 0) 1 1 Try.underlying38 (by kernel_rfl) rfl (by decide) _ (k0 + D0.length) _ [.int .u8 (flagF f)] rfl hoF _ rfl (by simp) rfl (by simp [Value.oneCell']) (by unfold maxLen; omega) (by omega) hbF ?_; intro vb0 wb0 hownb0 hgr'; have hgr := Lib.hid hgr'; clear hgr'))
        have hg1 := hgF.tr hgr.out
        clear hgF hgr hoF hbF d1'
        obtain ⟨P0, HP0⟩ : ∃ P0 : List UInt8, Hid ([UInt8.ofNat (flagF f)] = P0) := ⟨_, Lib.hid rfl⟩
        have hPl0 : P0.length = 1 := by rw [← HP0.out]; rfl
        have hfl : [Value.int .u8 (flagF f)] = P0.map byteC := by rw [← HP0.out]; exact congrArg (fun x => [x]) (flag_byte f)
        rw [hfl] at hownb0
        have hownc0 : wb0.ownsRow base 5 1 vb0 (k0 + D0.length + P0.length) (xs ++ D0.map byteC ++ P0.map byteC) := by rw [hPl0]; exact hownb0
        clear hfl hownb0
        have HO1 : wb0.ownsRow base 5 1 vb0 (k0 + (D0 ++ P0).length) (xs ++ (D0 ++ P0).map byteC) := by rw [List.length_append, List.map_append, ← List.append_assoc, ← Nat.add_assoc]; exact hownc0
        have hle1 : (D0 ++ P0).length ≤ 23 := by rw [List.length_append]; omega
        generalize hD : D0 ++ P0 = D1 at *
        have HD1 := Lib.hid hD
        clear hD hownc0 hle0 hPl0
        have d1 := HBX.out _ _ hg1 1 _ rfl
        rw [hi] at d1
        go_upto_region 6 with fail
        clear d1
        have d2 := HBX.out _ _ hg1 2 _ rfl
        go_wp2_with fail
        refine (sig_Put base _ _ _ A.o1 A.c1 f.outer _ HO1 (Nat.le_trans hb2 hg1.size) (by omega) ((HFI2.out _ _ hg1)).h1 (by omega) HFB.out.v1 HF1.out).mono ?_
        rintro e wb1 ⟨vb1, rfl, hoX, hgX⟩
        have hPl1 : (sigPut f.outer).length ≤ 14 := by have := sigPut_le f.outer; omega
        generalize hP : sigPut f.outer = P1 at *
        have HP1 := Lib.hid hP
        have hg2 := hg1.tr hgX
        clear hP HO1 hg1 hgX d2
        have HO2 : wb1.ownsRow base 5 1 vb1 (k0 + (D1 ++ P1).length) (xs ++ (D1 ++ P1).map byteC) := by rw [List.length_append, List.map_append, ← List.append_assoc, ← Nat.add_assoc]; exact hoX
        have hle2 : (D1 ++ P1).length ≤ 37 := by rw [List.length_append]; omega
        generalize hD : D1 ++ P1 = D2 at *
        have HD2 := Lib.hid hD
        clear hD hoX hle1 hPl1
        go_upto_region 7 with fail
        have hp2 := sigPut_le f.params
        have hp3 := sigPut_le f.results
        have hp4 := sigPut_le f.locs
        have hy := hg2.extR ((Ext.rf wb1).dr)
        have ho := own_ext HO2 ((Ext.rf wb1).dr)
        have hz := Nat.le_trans hb2 hy.size
        clear HO2 hg2
        refine wp_region_ext (fun W => ∃ u, Grow W2 W v u) (by kernel_rfl) ⟨_, hy⟩ (fun hS => ?_)
        refine take_op 0 (v := ?_) rfl (by kernel_rfl) (by kernel_rfl) (by kernel_rfl) (Or.inl ⟨by rfl, ?_⟩) (by assumption) ?_
        rotate_left 1
        · (intro W hS; go_simp; try with_reducible rfl)
        (try simp only [Act.put, List.setIfInBounds_toArray, List.set_cons_zero, List.set_cons_succ])
        refine take_op 1 (v := ?_) rfl (by kernel_rfl) (by kernel_rfl) (by kernel_rfl) (Or.inl ⟨by rfl, ?_⟩) (by assumption) ?_
        rotate_left 1
        · (intro W hS; go_simp; try with_reducible rfl)
        (try simp only [Act.put, List.setIfInBounds_toArray, List.set_cons_zero, List.set_cons_succ])
        refine take_op 2 (v := ?_) rfl (by kernel_rfl) (by kernel_rfl) (by kernel_rfl) (Or.inl ⟨by rfl, ?_⟩) (by assumption) ?_
        rotate_left 1
        · (intro W hS; obtain ⟨uS, hgS⟩ := hS; have d3 := HBX.out _ _ hgS 3 _ rfl; have d4 := HBX.out _ _ hgS 4 _ rfl; have d5 := HBX.out _ _ hgS 5 _ rfl; go_simp; try with_reducible rfl)
        (try simp only [Act.put, List.setIfInBounds_toArray, List.set_cons_zero, List.set_cons_succ])
        refine take_op 4 (v := ?_) rfl (by kernel_rfl) (by kernel_rfl) (by kernel_rfl) (Or.inl ⟨by rfl, ?_⟩) (by assumption) ?_
        rotate_left 1
        · (intro W hS; go_simp; try with_reducible rfl)
        (try simp only [Act.put, List.setIfInBounds_toArray, List.set_cons_zero, List.set_cons_succ])
        refine take_op 5 (v := ?_) rfl (by kernel_rfl) (by kernel_rfl) (by kernel_rfl) (Or.inl ⟨by rfl, ?_⟩) (by assumption) ?_
        rotate_left 1
        · (intro W hS; obtain ⟨uS, hgS⟩ := hS; have d3 := HBX.out _ _ hgS 3 _ rfl; have d4 := HBX.out _ _ hgS 4 _ rfl; have d5 := HBX.out _ _ hgS 5 _ rfl; go_simp; try with_reducible rfl)
        (try simp only [Act.put, List.setIfInBounds_toArray, List.set_cons_zero, List.set_cons_succ])
        refine take_op 7 (v := ?_) rfl (by kernel_rfl) (by kernel_rfl) (by kernel_rfl) (Or.inl ⟨by rfl, ?_⟩) (by assumption) ?_
        rotate_left 1
        · (intro W hS; go_simp; try with_reducible rfl)
        (try simp only [Act.put, List.setIfInBounds_toArray, List.set_cons_zero, List.set_cons_succ])
        refine take_op 8 (v := ?_) rfl (by kernel_rfl) (by kernel_rfl) (by kernel_rfl) (Or.inl ⟨by rfl, ?_⟩) (by assumption) ?_
        rotate_left 1
        · (intro W hS; obtain ⟨uS, hgS⟩ := hS; have d3 := HBX.out _ _ hgS 3 _ rfl; have d4 := HBX.out _ _ hgS 4 _ rfl; have d5 := HBX.out _ _ hgS 5 _ rfl; go_simp; try with_reducible rfl)
        (try simp only [Act.put, List.setIfInBounds_toArray, List.set_cons_zero, List.set_cons_succ])
        refine do_op 3 rfl (by kernel_rfl) (fun K hK => ?_)
        go_simp; (with_reducible refine (sig_Put base _ _ _ A.o2 A.c2 f.params _ ho hz (by omega) (HFI2.out _ _ hy).h2 (by omega) HV2.out HF2.out).mono ?_); rintro e wA3 ⟨vA3, rfl, hoA, hgA⟩
        refine hK.out _ _ ⟨_, hy.tr hgA⟩ (fun hS => ?_)
        clear hK K
        (try simp only [Act.put, List.setIfInBounds_toArray, List.set_cons_zero, List.set_cons_succ])
        replace hy := hy.tr hgA; replace ho := hoA; replace hz := Nat.le_trans hb2 hy.size; clear hoA hgA
        refine do_op 6 rfl (by kernel_rfl) (fun K hK => ?_)
        go_simp; (with_reducible refine (sig_Put base _ _ _ A.o3 A.c3 f.results _ ho hz (by omega) (HFI2.out _ _ hy).h3 (by omega) HV3.out HF3.out).mono ?_); rintro e wA6 ⟨vA6, rfl, hoA, hgA⟩
        refine hK.out _ _ ⟨_, hy.tr hgA⟩ (fun hS => ?_)
        clear hK K
        (try simp only [Act.put, List.setIfInBounds_toArray, List.set_cons_zero, List.set_cons_succ])
        replace hy := hy.tr hgA; replace ho := hoA; replace hz := Nat.le_trans hb2 hy.size; clear hoA hgA
        refine do_op 9 rfl (by kernel_rfl) (fun K hK => ?_)
        go_simp; (with_reducible refine (sig_Put base _ _ _ A.o4 A.c4 f.locs _ ho hz (by omega) (HFI2.out _ _ hy).h4 (by omega) HV4.out HF4.out).mono ?_); rintro e wb2 ⟨vb2, rfl, hoA, hgA⟩
        refine hK.out _ _ ⟨_, hy.tr hgA⟩ (fun hS => ?_)
        clear hK K
        (try simp only [Act.put, List.setIfInBounds_toArray, List.set_cons_zero, List.set_cons_succ])
        replace hy := hy.tr hgA; replace ho := hoA; replace hz := Nat.le_trans hb2 hy.size; clear hoA hgA
        refine take_op 10 (v := ?_) rfl (by kernel_rfl) (by kernel_rfl) (by kernel_rfl) (Or.inl ⟨by rfl, ?_⟩) (by assumption) ?_
        rotate_left 1
        · (intro W hS; go_simp; try with_reducible rfl)
        (try simp only [Act.put, List.setIfInBounds_toArray, List.set_cons_zero, List.set_cons_succ])
        refine wpAnyH_done (by kernel_rfl) ?_ _
        refine NoPanic.normal ?_
        skip
        have hoX : wb2.ownsRow base 5 1 vb2 (k0 + D2.length + (sigPut f.params ++ sigPut f.results ++ sigPut f.locs).length) (xs ++ D2.map byteC ++ (sigPut f.params ++ sigPut f.results ++ sigPut f.locs).map byteC) := by rw [List.length_append, List.length_append, List.map_append, List.map_append]; simpa only [Nat.add_assoc, List.append_assoc, List.length_append, List.map_append] using ho
        have hPl2 : (sigPut f.params ++ sigPut f.results ++ sigPut f.locs).length ≤ 298 := by rw [List.length_append, List.length_append]; omega
        have hg3 := hy
        generalize hP : sigPut f.params ++ sigPut f.results ++ sigPut f.locs = P2 at *
        have HP2 := Lib.hid hP
        clear hP ho hy hz hp2 hp3 hp4
        have HO3 : wb2.ownsRow base 5 1 vb2 (k0 + (D2 ++ P2).length) (xs ++ (D2 ++ P2).map byteC) := by rw [List.length_append, List.map_append, ← List.append_assoc, ← Nat.add_assoc]; exact hoX
        have hle3 : (D2 ++ P2).length ≤ 335 := by rw [List.length_append]; omega
        generalize hD : D2 ++ P2 = D3 at *
        have HD3 := Lib.hid hD
        clear hD hoX hle2 hPl2
        have d6 := HBX.out _ _ hg3 6 _ rfl
        go_wp2_with fail
        refine (uvar_Put base _ _ _ f.code.length _ HO3 (Nat.le_trans hb2 hg3.size) (by omega) (by omega)).mono ?_
        rintro e wb3 ⟨vb3, rfl, hoX, hgX⟩
        have hPl3 : (putB f.code.length).length ≤ 10 := putB_le _
        generalize hP : putB f.code.length = P3 at *
        have HP3 := Lib.hid hP
        have hg4 := hg3.tr hgX
        clear hP HO3 hg3 hgX d6
        have HO4 : wb3.ownsRow base 5 1 vb3 (k0 + (D3 ++ P3).length) (xs ++ (D3 ++ P3).map byteC) := by rw [List.length_append, List.map_append, ← List.append_assoc, ← Nat.add_assoc]; exact hoX
        have hle4 : (D3 ++ P3).length ≤ 345 := by rw [List.length_append]; omega
        generalize hD : D3 ++ P3 = D4 at *
        have HD4 := Lib.hid hD
        clear hD hoX hle3 hPl3
        have d6 := HBX.out _ _ hg4 6 _ rfl
        generalize hO : A.o5 = O5 at d6
        have HC5 : Hid (∀ W u, Grow W2 W v u → Cells W O5 (f.code.flatMap pairC)) := fun W u hg => hO ▸ (HFI2.out W u hg).h5
        clear hO
        go_wp2_with fail
        go_loopw [0, 50] (fun u i wr => ∃ k : Nat, k ≤ f.code.length ∧ i = .int .i64 k ∧ wr.ownsRow base 5 1 u (k0 + (D4 ++ (f.code.take k).flatMap putInstr).length) (xs ++ (D4 ++ (f.code.take k).flatMap putInstr).map byteC) ∧ Grow W2 wr v u)
          (fun _ i _ => f.code.length - (intOf i).toNat)
        case atStart => exact ⟨0, Nat.zero_le _, rfl, by simpa using HO4, hg4⟩
        case round =>
          clear HO4 hg4 d6
          obtain ⟨k, hk, rfl, hownk, hgk⟩ := hrel
          have hle : ((f.code.take k).flatMap putInstr).length ≤ k * 11 := by
            have := flat_le putInstr 11 putInstr_le (f.code.take k)
            rw [List.length_take] at this; have e : min k f.code.length = k := by omega
            rwa [e] at this
          by_cases hlt : k < f.code.length
          · obtain ⟨b, off, rfl, x1, x2⟩ := (HC5.out _ _ hgk).pair hlt
            have HS := Lib.hid (flat_snoc putInstr hlt)
            obtain ⟨hi1, hi2⟩ := (HFB.out.v5 _ (List.getElem_mem hlt)).2
            generalize f.code[k] = x at *
            have HD : Hid (D4 ++ (f.code.take (k + 1)).flatMap putInstr = (D4 ++ (f.code.take k).flatMap putInstr) ++ putInstr x) := by rw [Hid, HS.out, List.append_assoc]
            have hle2 : (D4 ++ (f.code.take k).flatMap putInstr).length ≤ 30000 := by rw [List.length_append]; omega
            clear HS
            generalize D4 ++ (f.code.take k).flatMap putInstr = Dk at *
            go_upto_region 12 with fail
            have hoK := hownk.alloc (.cells ([.int .i64 x.1, .int .i64 x.2] : List Value).toArray 49)
            obtain ⟨hxB, -, hcA⟩ := one_box wr [.int .i64 x.1, .int .i64 x.2] 49
            have hgK := hgk.extR hxB
            generalize wr.alloc (.cells ([.int .i64 x.1, .int .i64 x.2] : List Value).toArray 49) = WB at *
            have q0 : WB.cell? ⟨wr.heap.size, 0, none⟩ = some (.int .i64 x.1) := by have := hcA.cell _ _ rfl 0 _ rfl; rwa [Nat.zero_add] at this
            have q1 : WB.cell? ⟨wr.heap.size, 1, none⟩ = some (.int .i64 x.2) := by have := hcA.cell _ _ rfl 1 _ rfl; rwa [Nat.zero_add] at this
            clear hownk hgk hxB hcA x1 x2
            go_wp2_with fail
            refine (instr_Put base _ _ _ x _ hoK (Nat.le_trans hb2 hgK.size) (by omega) hi1 hi2).mono ?_
            rintro e wz ⟨uz, rfl, hoX, hgX⟩
            have HOk : Hid (wz.ownsRow base 5 1 uz (k0 + (Dk ++ putInstr x).length) (xs ++ (Dk ++ putInstr x).map byteC)) := by rw [Hid, List.length_append, List.map_append, ← List.append_assoc, ← Nat.add_assoc]; exact hoX
            have HGk := Lib.hid (hgK.tr hgX)
            clear hoX hgX hoK hgK q0 q1
            go_wp2_with fail
            go_roundw
            case rel => exact ⟨k + 1, by omega, by go_num, by rw [HD.out]; exact HOk.out, HGk.out⟩
            case measure => simp [intOf]; omega
          · obtain rfl : k = f.code.length := by omega
            rw [List.take_of_length_le (Nat.le_refl _)] at hownk hle
            have hPl4 : (f.code.flatMap putInstr).length ≤ 22000 := by omega
            generalize hP : f.code.flatMap putInstr = P4 at *
            have HP4 := Lib.hid hP
            clear hP hle
            go_upto_region 14 with fail
            have hle5 : (D4 ++ P4).length ≤ 22345 := by rw [List.length_append]; omega
            generalize hD : D4 ++ P4 = D5 at *
            have HD5 := Lib.hid hD
            have HO5 := hownk
            have hg5 := hgk
            clear hD hownk hgk hle4 hPl4
            have d7 := HBX.out _ _ hg5 7 _ rfl
            go_wp2_with fail
            refine (lines_PutG base _ _ _ A.o6 A.c6 f.lines _ HO5 (Nat.le_trans hb2 hg5.size) (by omega) ((HFI2.out _ _ hg5)).h6 (by omega) HFB.out.v6).mono ?_
            rintro e wb5 ⟨vb5, rfl, hoX, hgX⟩
            have hPl5 : (putRuns (runsOf f.lines)).length ≤ 40000 := by have := putRuns_le (runsOf f.lines); have := (cntOk f.lines).1; omega
            generalize hP : putRuns (runsOf f.lines) = P5 at *
            have HP5 := Lib.hid hP
            have hg6 := hg5.tr hgX
            clear hP HO5 hg5 hgX d7
            have HO6 : wb5.ownsRow base 5 1 vb5 (k0 + (D5 ++ P5).length) (xs ++ (D5 ++ P5).map byteC) := by rw [List.length_append, List.map_append, ← List.append_assoc, ← Nat.add_assoc]; exact hoX
            have hle6 : (D5 ++ P5).length ≤ 62345 := by rw [List.length_append]; omega
            generalize hD : D5 ++ P5 = D6 at *
            have HD6 := Lib.hid hD
            clear hD hoX hle5 hPl5
            have d0 := HBX.out _ _ hg6 0 _ rfl
            have d1 := HBX.out _ _ hg6 1 _ rfl
            have d2 := HBX.out _ _ hg6 2 _ rfl
            have d3 := HBX.out _ _ hg6 3 _ rfl
            have d4 := HBX.out _ _ hg6 4 _ rfl
            have d5 := HBX.out _ _ hg6 5 _ rfl
            have d6 := HBX.out _ _ hg6 6 _ rfl
            have d7 := HBX.out _ _ hg6 7 _ rfl
            have d8 := HBX.out _ _ hg6 8 _ rfl
            have d9 := HBX.out _ _ hg6 9 _ rfl
            have d10 := HBX.out _ _ hg6 10 _ rfl
            rw [hi] at d1
            go_wp2_with fail
            refine (HBR.out _).mono ?_
            rintro e wg ⟨rfl, hxg⟩
            have HOg := own_ext HO6 hxg
            have hgg := hg6.extR hxg
            clear HO6 hg6 hxg d0 d1 d2 d3 d4 d5 d6 d7 d8 d9 d10
            have HB : Hid (putF' f = D6) := by rw [Hid, HRB.out, ← HD6.out, ← HD5.out, ← HD4.out, ← HD3.out, ← HD2.out, ← HD1.out, ← HP0.out, ← HP1.out, ← HP2.out, ← HP3.out, ← HP4.out, ← HP5.out, ← HD0.out]; simp only [List.append_assoc, List.append_nil, List.nil_append]
            rw [← HB.out] at HOg
            have HOt := HOg
            have hgt := hgg
            clear HOg hgg
            obtain ⟨ro, rc, hro⟩ := own_form HOt
            subst hro
            have HGT := Lib.hid (HG2.out.tr hgt)
            clear hgt
            go_wp2_with fail
            go_ret
            exact ⟨_, rfl, HOt, HGT.out⟩
      · have HRB : Hid (putF' f = (putB f.name.size ++ f.name.data.toList ++ [UInt8.ofNat (flagF f)]) ++ (sigPut f.outer ++ sigPut f.params ++ sigPut f.results ++ sigPut f.locs) ++ (putB f.code.length ++ f.code.flatMap putInstr) ++ putRuns (runsOf f.lines) ++ (putTree f.nodes ++ putRuns (runsOf f.ats) ++ putMaps f.live)) := by
          rw [Hid, HRB0.out, bytesY, headY, sigsY, codeY, tabsY, hi, hq]; rfl
        rw [hi] at HFL HBR
        rw [hq] at HBR
        have d0 := HBX.out _ _ hg0 0 _ rfl
        have d1 := HBX.out _ _ hg0 1 _ rfl
        have d2 := HBX.out _ _ hg0 2 _ rfl
        have d3 := HBX.out _ _ hg0 3 _ rfl
        have d4 := HBX.out _ _ hg0 4 _ rfl
        have d5 := HBX.out _ _ hg0 5 _ rfl
        have d6 := HBX.out _ _ hg0 6 _ rfl
        have d7 := HBX.out _ _ hg0 7 _ rfl
        have d8 := HBX.out _ _ hg0 8 _ rfl
        have d9 := HBX.out _ _ hg0 9 _ rfl
        have d10 := HBX.out _ _ hg0 10 _ rfl
        rw [hi] at d1
        generalize hD : putB f.name.size ++ f.name.data.toList = D0 at *
        have HD0 := Lib.hid hD
        clear hD HRB0
        go_wp2_with fail
        refine (HFL.out _).mono ?_
        rintro e wf ⟨rfl, hxf⟩
        have hoF := own_ext HO0 hxf
        have hgF := hg0.extR hxf
        have hbF := Nat.le_trans hb2 hgF.size
        have d1' := hxf.has d1
        clear HO0 hg0 hxf d0 d1 d2 d3 d4 d5 d6 d7 d8 d9 d10
        go_upto_region 5 with (at_builtin; (refine wpList_push rfl (.tmp 20) (.tmp 23) 38 rfl base 5 5 (.int .u8 0) 1 1 Try.underlying38 (by kernel_rfl) rfl (by decide) _ (k0 + D0.length) _ [.int .u8 (flagF f)] rfl hoF _ rfl (by simp) rfl (by simp [Value.oneCell']) (by unfold maxLen; omega) (by omega) hbF ?_; intro vb0 wb0 hownb0 hgr'; have hgr := Lib.hid hgr'; clear hgr'))
        have hg1 := hgF.tr hgr.out
        clear hgF hgr hoF hbF d1'
        obtain ⟨P0, HP0⟩ : ∃ P0 : List UInt8, Hid ([UInt8.ofNat (flagF f)] = P0) := ⟨_, Lib.hid rfl⟩
        have hPl0 : P0.length = 1 := by rw [← HP0.out]; rfl
        have hfl : [Value.int .u8 (flagF f)] = P0.map byteC := by rw [← HP0.out]; exact congrArg (fun x => [x]) (flag_byte f)
        rw [hfl] at hownb0
        have hownc0 : wb0.ownsRow base 5 1 vb0 (k0 + D0.length + P0.length) (xs ++ D0.map byteC ++ P0.map byteC) := by rw [hPl0]; exact hownb0
        clear hfl hownb0
        have HO1 : wb0.ownsRow base 5 1 vb0 (k0 + (D0 ++ P0).length) (xs ++ (D0 ++ P0).map byteC) := by rw [List.length_append, List.map_append, ← List.append_assoc, ← Nat.add_assoc]; exact hownc0
        have hle1 : (D0 ++ P0).length ≤ 23 := by rw [List.length_append]; omega
        generalize hD : D0 ++ P0 = D1 at *
        have HD1 := Lib.hid hD
        clear hD hownc0 hle0 hPl0
        have d1 := HBX.out _ _ hg1 1 _ rfl
        rw [hi] at d1
        go_upto_region 6 with fail
        clear d1
        have d2 := HBX.out _ _ hg1 2 _ rfl
        go_wp2_with fail
        refine (sig_Put base _ _ _ A.o1 A.c1 f.outer _ HO1 (Nat.le_trans hb2 hg1.size) (by omega) ((HFI2.out _ _ hg1)).h1 (by omega) HFB.out.v1 HF1.out).mono ?_
        rintro e wb1 ⟨vb1, rfl, hoX, hgX⟩
        have hPl1 : (sigPut f.outer).length ≤ 14 := by have := sigPut_le f.outer; omega
        generalize hP : sigPut f.outer = P1 at *
        have HP1 := Lib.hid hP
        have hg2 := hg1.tr hgX
        clear hP HO1 hg1 hgX d2
        have HO2 : wb1.ownsRow base 5 1 vb1 (k0 + (D1 ++ P1).length) (xs ++ (D1 ++ P1).map byteC) := by rw [List.length_append, List.map_append, ← List.append_assoc, ← Nat.add_assoc]; exact hoX
        have hle2 : (D1 ++ P1).length ≤ 37 := by rw [List.length_append]; omega
        generalize hD : D1 ++ P1 = D2 at *
        have HD2 := Lib.hid hD
        clear hD hoX hle1 hPl1
        go_upto_region 7 with fail
        have hp2 := sigPut_le f.params
        have hp3 := sigPut_le f.results
        have hp4 := sigPut_le f.locs
        have hy := hg2.extR ((Ext.rf wb1).dr)
        have ho := own_ext HO2 ((Ext.rf wb1).dr)
        have hz := Nat.le_trans hb2 hy.size
        clear HO2 hg2
        refine wp_region_ext (fun W => ∃ u, Grow W2 W v u) (by kernel_rfl) ⟨_, hy⟩ (fun hS => ?_)
        refine take_op 0 (v := ?_) rfl (by kernel_rfl) (by kernel_rfl) (by kernel_rfl) (Or.inl ⟨by rfl, ?_⟩) (by assumption) ?_
        rotate_left 1
        · (intro W hS; go_simp; try with_reducible rfl)
        (try simp only [Act.put, List.setIfInBounds_toArray, List.set_cons_zero, List.set_cons_succ])
        refine take_op 1 (v := ?_) rfl (by kernel_rfl) (by kernel_rfl) (by kernel_rfl) (Or.inl ⟨by rfl, ?_⟩) (by assumption) ?_
        rotate_left 1
        · (intro W hS; go_simp; try with_reducible rfl)
        (try simp only [Act.put, List.setIfInBounds_toArray, List.set_cons_zero, List.set_cons_succ])
        refine take_op 2 (v := ?_) rfl (by kernel_rfl) (by kernel_rfl) (by kernel_rfl) (Or.inl ⟨by rfl, ?_⟩) (by assumption) ?_
        rotate_left 1
        · (intro W hS; obtain ⟨uS, hgS⟩ := hS; have d3 := HBX.out _ _ hgS 3 _ rfl; have d4 := HBX.out _ _ hgS 4 _ rfl; have d5 := HBX.out _ _ hgS 5 _ rfl; go_simp; try with_reducible rfl)
        (try simp only [Act.put, List.setIfInBounds_toArray, List.set_cons_zero, List.set_cons_succ])
        refine take_op 4 (v := ?_) rfl (by kernel_rfl) (by kernel_rfl) (by kernel_rfl) (Or.inl ⟨by rfl, ?_⟩) (by assumption) ?_
        rotate_left 1
        · (intro W hS; go_simp; try with_reducible rfl)
        (try simp only [Act.put, List.setIfInBounds_toArray, List.set_cons_zero, List.set_cons_succ])
        refine take_op 5 (v := ?_) rfl (by kernel_rfl) (by kernel_rfl) (by kernel_rfl) (Or.inl ⟨by rfl, ?_⟩) (by assumption) ?_
        rotate_left 1
        · (intro W hS; obtain ⟨uS, hgS⟩ := hS; have d3 := HBX.out _ _ hgS 3 _ rfl; have d4 := HBX.out _ _ hgS 4 _ rfl; have d5 := HBX.out _ _ hgS 5 _ rfl; go_simp; try with_reducible rfl)
        (try simp only [Act.put, List.setIfInBounds_toArray, List.set_cons_zero, List.set_cons_succ])
        refine take_op 7 (v := ?_) rfl (by kernel_rfl) (by kernel_rfl) (by kernel_rfl) (Or.inl ⟨by rfl, ?_⟩) (by assumption) ?_
        rotate_left 1
        · (intro W hS; go_simp; try with_reducible rfl)
        (try simp only [Act.put, List.setIfInBounds_toArray, List.set_cons_zero, List.set_cons_succ])
        refine take_op 8 (v := ?_) rfl (by kernel_rfl) (by kernel_rfl) (by kernel_rfl) (Or.inl ⟨by rfl, ?_⟩) (by assumption) ?_
        rotate_left 1
        · (intro W hS; obtain ⟨uS, hgS⟩ := hS; have d3 := HBX.out _ _ hgS 3 _ rfl; have d4 := HBX.out _ _ hgS 4 _ rfl; have d5 := HBX.out _ _ hgS 5 _ rfl; go_simp; try with_reducible rfl)
        (try simp only [Act.put, List.setIfInBounds_toArray, List.set_cons_zero, List.set_cons_succ])
        refine do_op 3 rfl (by kernel_rfl) (fun K hK => ?_)
        go_simp; (with_reducible refine (sig_Put base _ _ _ A.o2 A.c2 f.params _ ho hz (by omega) (HFI2.out _ _ hy).h2 (by omega) HV2.out HF2.out).mono ?_); rintro e wA3 ⟨vA3, rfl, hoA, hgA⟩
        refine hK.out _ _ ⟨_, hy.tr hgA⟩ (fun hS => ?_)
        clear hK K
        (try simp only [Act.put, List.setIfInBounds_toArray, List.set_cons_zero, List.set_cons_succ])
        replace hy := hy.tr hgA; replace ho := hoA; replace hz := Nat.le_trans hb2 hy.size; clear hoA hgA
        refine do_op 6 rfl (by kernel_rfl) (fun K hK => ?_)
        go_simp; (with_reducible refine (sig_Put base _ _ _ A.o3 A.c3 f.results _ ho hz (by omega) (HFI2.out _ _ hy).h3 (by omega) HV3.out HF3.out).mono ?_); rintro e wA6 ⟨vA6, rfl, hoA, hgA⟩
        refine hK.out _ _ ⟨_, hy.tr hgA⟩ (fun hS => ?_)
        clear hK K
        (try simp only [Act.put, List.setIfInBounds_toArray, List.set_cons_zero, List.set_cons_succ])
        replace hy := hy.tr hgA; replace ho := hoA; replace hz := Nat.le_trans hb2 hy.size; clear hoA hgA
        refine do_op 9 rfl (by kernel_rfl) (fun K hK => ?_)
        go_simp; (with_reducible refine (sig_Put base _ _ _ A.o4 A.c4 f.locs _ ho hz (by omega) (HFI2.out _ _ hy).h4 (by omega) HV4.out HF4.out).mono ?_); rintro e wb2 ⟨vb2, rfl, hoA, hgA⟩
        refine hK.out _ _ ⟨_, hy.tr hgA⟩ (fun hS => ?_)
        clear hK K
        (try simp only [Act.put, List.setIfInBounds_toArray, List.set_cons_zero, List.set_cons_succ])
        replace hy := hy.tr hgA; replace ho := hoA; replace hz := Nat.le_trans hb2 hy.size; clear hoA hgA
        refine take_op 10 (v := ?_) rfl (by kernel_rfl) (by kernel_rfl) (by kernel_rfl) (Or.inl ⟨by rfl, ?_⟩) (by assumption) ?_
        rotate_left 1
        · (intro W hS; go_simp; try with_reducible rfl)
        (try simp only [Act.put, List.setIfInBounds_toArray, List.set_cons_zero, List.set_cons_succ])
        refine wpAnyH_done (by kernel_rfl) ?_ _
        refine NoPanic.normal ?_
        skip
        have hoX : wb2.ownsRow base 5 1 vb2 (k0 + D2.length + (sigPut f.params ++ sigPut f.results ++ sigPut f.locs).length) (xs ++ D2.map byteC ++ (sigPut f.params ++ sigPut f.results ++ sigPut f.locs).map byteC) := by rw [List.length_append, List.length_append, List.map_append, List.map_append]; simpa only [Nat.add_assoc, List.append_assoc, List.length_append, List.map_append] using ho
        have hPl2 : (sigPut f.params ++ sigPut f.results ++ sigPut f.locs).length ≤ 298 := by rw [List.length_append, List.length_append]; omega
        have hg3 := hy
        generalize hP : sigPut f.params ++ sigPut f.results ++ sigPut f.locs = P2 at *
        have HP2 := Lib.hid hP
        clear hP ho hy hz hp2 hp3 hp4
        have HO3 : wb2.ownsRow base 5 1 vb2 (k0 + (D2 ++ P2).length) (xs ++ (D2 ++ P2).map byteC) := by rw [List.length_append, List.map_append, ← List.append_assoc, ← Nat.add_assoc]; exact hoX
        have hle3 : (D2 ++ P2).length ≤ 335 := by rw [List.length_append]; omega
        generalize hD : D2 ++ P2 = D3 at *
        have HD3 := Lib.hid hD
        clear hD hoX hle2 hPl2
        have d6 := HBX.out _ _ hg3 6 _ rfl
        go_wp2_with fail
        refine (uvar_Put base _ _ _ f.code.length _ HO3 (Nat.le_trans hb2 hg3.size) (by omega) (by omega)).mono ?_
        rintro e wb3 ⟨vb3, rfl, hoX, hgX⟩
        have hPl3 : (putB f.code.length).length ≤ 10 := putB_le _
        generalize hP : putB f.code.length = P3 at *
        have HP3 := Lib.hid hP
        have hg4 := hg3.tr hgX
        clear hP HO3 hg3 hgX d6
        have HO4 : wb3.ownsRow base 5 1 vb3 (k0 + (D3 ++ P3).length) (xs ++ (D3 ++ P3).map byteC) := by rw [List.length_append, List.map_append, ← List.append_assoc, ← Nat.add_assoc]; exact hoX
        have hle4 : (D3 ++ P3).length ≤ 345 := by rw [List.length_append]; omega
        generalize hD : D3 ++ P3 = D4 at *
        have HD4 := Lib.hid hD
        clear hD hoX hle3 hPl3
        have d6 := HBX.out _ _ hg4 6 _ rfl
        generalize hO : A.o5 = O5 at d6
        have HC5 : Hid (∀ W u, Grow W2 W v u → Cells W O5 (f.code.flatMap pairC)) := fun W u hg => hO ▸ (HFI2.out W u hg).h5
        clear hO
        go_wp2_with fail
        go_loopw [0, 50] (fun u i wr => ∃ k : Nat, k ≤ f.code.length ∧ i = .int .i64 k ∧ wr.ownsRow base 5 1 u (k0 + (D4 ++ (f.code.take k).flatMap putInstr).length) (xs ++ (D4 ++ (f.code.take k).flatMap putInstr).map byteC) ∧ Grow W2 wr v u)
          (fun _ i _ => f.code.length - (intOf i).toNat)
        case atStart => exact ⟨0, Nat.zero_le _, rfl, by simpa using HO4, hg4⟩
        case round =>
          clear HO4 hg4 d6
          obtain ⟨k, hk, rfl, hownk, hgk⟩ := hrel
          have hle : ((f.code.take k).flatMap putInstr).length ≤ k * 11 := by
            have := flat_le putInstr 11 putInstr_le (f.code.take k)
            rw [List.length_take] at this; have e : min k f.code.length = k := by omega
            rwa [e] at this
          by_cases hlt : k < f.code.length
          · obtain ⟨b, off, rfl, x1, x2⟩ := (HC5.out _ _ hgk).pair hlt
            have HS := Lib.hid (flat_snoc putInstr hlt)
            obtain ⟨hi1, hi2⟩ := (HFB.out.v5 _ (List.getElem_mem hlt)).2
            generalize f.code[k] = x at *
            have HD : Hid (D4 ++ (f.code.take (k + 1)).flatMap putInstr = (D4 ++ (f.code.take k).flatMap putInstr) ++ putInstr x) := by rw [Hid, HS.out, List.append_assoc]
            have hle2 : (D4 ++ (f.code.take k).flatMap putInstr).length ≤ 30000 := by rw [List.length_append]; omega
            clear HS
            generalize D4 ++ (f.code.take k).flatMap putInstr = Dk at *
            go_upto_region 12 with fail
            have hoK := hownk.alloc (.cells ([.int .i64 x.1, .int .i64 x.2] : List Value).toArray 49)
            obtain ⟨hxB, -, hcA⟩ := one_box wr [.int .i64 x.1, .int .i64 x.2] 49
            have hgK := hgk.extR hxB
            generalize wr.alloc (.cells ([.int .i64 x.1, .int .i64 x.2] : List Value).toArray 49) = WB at *
            have q0 : WB.cell? ⟨wr.heap.size, 0, none⟩ = some (.int .i64 x.1) := by have := hcA.cell _ _ rfl 0 _ rfl; rwa [Nat.zero_add] at this
            have q1 : WB.cell? ⟨wr.heap.size, 1, none⟩ = some (.int .i64 x.2) := by have := hcA.cell _ _ rfl 1 _ rfl; rwa [Nat.zero_add] at this
            clear hownk hgk hxB hcA x1 x2
            go_wp2_with fail
            refine (instr_Put base _ _ _ x _ hoK (Nat.le_trans hb2 hgK.size) (by omega) hi1 hi2).mono ?_
            rintro e wz ⟨uz, rfl, hoX, hgX⟩
            have HOk : Hid (wz.ownsRow base 5 1 uz (k0 + (Dk ++ putInstr x).length) (xs ++ (Dk ++ putInstr x).map byteC)) := by rw [Hid, List.length_append, List.map_append, ← List.append_assoc, ← Nat.add_assoc]; exact hoX
            have HGk := Lib.hid (hgK.tr hgX)
            clear hoX hgX hoK hgK q0 q1
            go_wp2_with fail
            go_roundw
            case rel => exact ⟨k + 1, by omega, by go_num, by rw [HD.out]; exact HOk.out, HGk.out⟩
            case measure => simp [intOf]; omega
          · obtain rfl : k = f.code.length := by omega
            rw [List.take_of_length_le (Nat.le_refl _)] at hownk hle
            have hPl4 : (f.code.flatMap putInstr).length ≤ 22000 := by omega
            generalize hP : f.code.flatMap putInstr = P4 at *
            have HP4 := Lib.hid hP
            clear hP hle
            go_upto_region 14 with fail
            have hle5 : (D4 ++ P4).length ≤ 22345 := by rw [List.length_append]; omega
            generalize hD : D4 ++ P4 = D5 at *
            have HD5 := Lib.hid hD
            have HO5 := hownk
            have hg5 := hgk
            clear hD hownk hgk hle4 hPl4
            have d7 := HBX.out _ _ hg5 7 _ rfl
            go_wp2_with fail
            refine (lines_PutG base _ _ _ A.o6 A.c6 f.lines _ HO5 (Nat.le_trans hb2 hg5.size) (by omega) ((HFI2.out _ _ hg5)).h6 (by omega) HFB.out.v6).mono ?_
            rintro e wb5 ⟨vb5, rfl, hoX, hgX⟩
            have hPl5 : (putRuns (runsOf f.lines)).length ≤ 40000 := by have := putRuns_le (runsOf f.lines); have := (cntOk f.lines).1; omega
            generalize hP : putRuns (runsOf f.lines) = P5 at *
            have HP5 := Lib.hid hP
            have hg6 := hg5.tr hgX
            clear hP HO5 hg5 hgX d7
            have HO6 : wb5.ownsRow base 5 1 vb5 (k0 + (D5 ++ P5).length) (xs ++ (D5 ++ P5).map byteC) := by rw [List.length_append, List.map_append, ← List.append_assoc, ← Nat.add_assoc]; exact hoX
            have hle6 : (D5 ++ P5).length ≤ 62345 := by rw [List.length_append]; omega
            generalize hD : D5 ++ P5 = D6 at *
            have HD6 := Lib.hid hD
            clear hD hoX hle5 hPl5
            have d0 := HBX.out _ _ hg6 0 _ rfl
            have d1 := HBX.out _ _ hg6 1 _ rfl
            have d2 := HBX.out _ _ hg6 2 _ rfl
            have d3 := HBX.out _ _ hg6 3 _ rfl
            have d4 := HBX.out _ _ hg6 4 _ rfl
            have d5 := HBX.out _ _ hg6 5 _ rfl
            have d6 := HBX.out _ _ hg6 6 _ rfl
            have d7 := HBX.out _ _ hg6 7 _ rfl
            have d8 := HBX.out _ _ hg6 8 _ rfl
            have d9 := HBX.out _ _ hg6 9 _ rfl
            have d10 := HBX.out _ _ hg6 10 _ rfl
            rw [hi] at d1
            go_wp2_with fail
            refine (HBR.out _).mono ?_
            rintro e wg ⟨rfl, hxg⟩
            have HOg := own_ext HO6 hxg
            have hgg := hg6.extR hxg
            clear HO6 hg6 hxg d0 d1 d2 d3 d4 d5 d6 d7 d8 d9 d10
            go_upto_region 16 with fail
            have hp7 : (putTree f.nodes).length ≤ 8410 := by have := putB_le f.nodes.length; have := flat_le putNode 70 putNode_le f.nodes; rw [putTree, List.length_append]; omega
            have hp8 : (putRuns (runsOf f.ats)).length ≤ 40000 := by have := putRuns_le (runsOf f.ats); have := (cntOk f.ats).1; omega
            have hp9 : (putMaps f.live).length ≤ 100000 := by have := putMaps_le f.live; omega
            have hy := hgg.extR ((Ext.rf wg).dr)
            have ho := own_ext HOg ((Ext.rf wg).dr)
            have hz := Nat.le_trans hb2 hy.size
            clear HOg hgg
            refine wp_region_ext (fun W => ∃ u, Grow W2 W v u) (by kernel_rfl) ⟨_, hy⟩ (fun hS => ?_)
            refine take_op 0 (v := ?_) rfl (by kernel_rfl) (by kernel_rfl) (by kernel_rfl) (Or.inl ⟨by rfl, ?_⟩) (by assumption) ?_
            rotate_left 1
            · (intro W hS; go_simp; try with_reducible rfl)
            (try simp only [Act.put, List.setIfInBounds_toArray, List.set_cons_zero, List.set_cons_succ])
            refine take_op 1 (v := ?_) rfl (by kernel_rfl) (by kernel_rfl) (by kernel_rfl) (Or.inl ⟨by rfl, ?_⟩) (by assumption) ?_
            rotate_left 1
            · (intro W hS; go_simp; try with_reducible rfl)
            (try simp only [Act.put, List.setIfInBounds_toArray, List.set_cons_zero, List.set_cons_succ])
            refine take_op 2 (v := ?_) rfl (by kernel_rfl) (by kernel_rfl) (by kernel_rfl) (Or.inl ⟨by rfl, ?_⟩) (by assumption) ?_
            rotate_left 1
            · (intro W hS; obtain ⟨uS, hgS⟩ := hS; have d8 := HBX.out _ _ hgS 8 _ rfl; have d9 := HBX.out _ _ hgS 9 _ rfl; have d10 := HBX.out _ _ hgS 10 _ rfl; go_simp; try with_reducible rfl)
            (try simp only [Act.put, List.setIfInBounds_toArray, List.set_cons_zero, List.set_cons_succ])
            refine take_op 4 (v := ?_) rfl (by kernel_rfl) (by kernel_rfl) (by kernel_rfl) (Or.inl ⟨by rfl, ?_⟩) (by assumption) ?_
            rotate_left 1
            · (intro W hS; go_simp; try with_reducible rfl)
            (try simp only [Act.put, List.setIfInBounds_toArray, List.set_cons_zero, List.set_cons_succ])
            refine take_op 5 (v := ?_) rfl (by kernel_rfl) (by kernel_rfl) (by kernel_rfl) (Or.inl ⟨by rfl, ?_⟩) (by assumption) ?_
            rotate_left 1
            · (intro W hS; obtain ⟨uS, hgS⟩ := hS; have d8 := HBX.out _ _ hgS 8 _ rfl; have d9 := HBX.out _ _ hgS 9 _ rfl; have d10 := HBX.out _ _ hgS 10 _ rfl; go_simp; try with_reducible rfl)
            (try simp only [Act.put, List.setIfInBounds_toArray, List.set_cons_zero, List.set_cons_succ])
            refine take_op 7 (v := ?_) rfl (by kernel_rfl) (by kernel_rfl) (by kernel_rfl) (Or.inl ⟨by rfl, ?_⟩) (by assumption) ?_
            rotate_left 1
            · (intro W hS; go_simp; try with_reducible rfl)
            (try simp only [Act.put, List.setIfInBounds_toArray, List.set_cons_zero, List.set_cons_succ])
            refine take_op 8 (v := ?_) rfl (by kernel_rfl) (by kernel_rfl) (by kernel_rfl) (Or.inl ⟨by rfl, ?_⟩) (by assumption) ?_
            rotate_left 1
            · (intro W hS; obtain ⟨uS, hgS⟩ := hS; have d8 := HBX.out _ _ hgS 8 _ rfl; have d9 := HBX.out _ _ hgS 9 _ rfl; have d10 := HBX.out _ _ hgS 10 _ rfl; go_simp; try with_reducible rfl)
            (try simp only [Act.put, List.setIfInBounds_toArray, List.set_cons_zero, List.set_cons_succ])
            refine do_op 3 rfl (by kernel_rfl) (fun K hK => ?_)
            go_simp; (with_reducible refine (tree_Put base _ _ _ A.o7 A.c7 f.nodes _ ho hz (by omega) (HFI2.out _ _ hy).h7 (by omega) HFB.out.v7 HF7.out).mono ?_); rintro e wA3 ⟨vA3, rfl, hoA, hgA⟩
            refine hK.out _ _ ⟨_, hy.tr hgA⟩ (fun hS => ?_)
            clear hK K
            (try simp only [Act.put, List.setIfInBounds_toArray, List.set_cons_zero, List.set_cons_succ])
            replace hy := hy.tr hgA; replace ho := hoA; replace hz := Nat.le_trans hb2 hy.size; clear hoA hgA
            refine do_op 6 rfl (by kernel_rfl) (fun K hK => ?_)
            go_simp; (with_reducible refine (runs_Put base _ _ _ A.o8 A.c8 f.ats _ ho hz (by omega) (HFI2.out _ _ hy).h8 (by omega) HV8.out).mono ?_); rintro e wA6 ⟨vA6, rfl, hoA, hgA⟩
            refine hK.out _ _ ⟨_, hy.tr hgA⟩ (fun hS => ?_)
            clear hK K
            (try simp only [Act.put, List.setIfInBounds_toArray, List.set_cons_zero, List.set_cons_succ])
            replace hy := hy.tr hgA; replace ho := hoA; replace hz := Nat.le_trans hb2 hy.size; clear hoA hgA
            refine do_op 9 rfl (by kernel_rfl) (fun K hK => ?_)
            go_simp; (with_reducible refine (maps_Put base _ _ _ A.o9 A.c9 f.live _ ho hz (by omega) (HFI2.out _ _ hy).h9 (by omega) HFB.out.v9).mono ?_); rintro e wA9 ⟨vA9, rfl, hoA, hgA⟩
            refine hK.out _ _ ⟨_, hy.tr hgA⟩ (fun hS => ?_)
            clear hK K
            (try simp only [Act.put, List.setIfInBounds_toArray, List.set_cons_zero, List.set_cons_succ])
            replace hy := hy.tr hgA; replace ho := hoA; replace hz := Nat.le_trans hb2 hy.size; clear hoA hgA
            refine take_op 10 (v := ?_) rfl (by kernel_rfl) (by kernel_rfl) (by kernel_rfl) (Or.inl ⟨by rfl, ?_⟩) (by assumption) ?_
            rotate_left 1
            · (intro W hS; go_simp; try with_reducible rfl)
            (try simp only [Act.put, List.setIfInBounds_toArray, List.set_cons_zero, List.set_cons_succ])
            refine wpAnyH_done (by kernel_rfl) ?_ _
            refine NoPanic.normal ?_
            skip
            have HOt : wA9.ownsRow base 5 1 vA9 (k0 + (D6 ++ (putTree f.nodes ++ putRuns (runsOf f.ats) ++ putMaps f.live)).length) (xs ++ (D6 ++ (putTree f.nodes ++ putRuns (runsOf f.ats) ++ putMaps f.live)).map byteC) := by simpa only [Nat.add_assoc, List.append_assoc, List.length_append, List.map_append] using ho
            have HB : Hid (putF' f = D6 ++ (putTree f.nodes ++ putRuns (runsOf f.ats) ++ putMaps f.live)) := by rw [Hid, HRB.out, ← HD6.out, ← HD5.out, ← HD4.out, ← HD3.out, ← HD2.out, ← HD1.out, ← HP0.out, ← HP1.out, ← HP2.out, ← HP3.out, ← HP4.out, ← HP5.out, ← HD0.out]; simp only [List.append_assoc, List.append_nil, List.nil_append]
            rw [← HB.out] at HOt
            have hgt := hy
            clear ho hy hz
            obtain ⟨ro, rc, hro⟩ := own_form HOt
            subst hro
            have HGT := Lib.hid (HG2.out.tr hgt)
            clear hgt
            go_wp2_with fail
            go_ret
            exact ⟨_, rfl, HOt, HGT.out⟩
      · have HRB : Hid (putF' f = (putB f.name.size ++ f.name.data.toList ++ [UInt8.ofNat (flagF f)]) ++ ([] ++ sigPut f.params ++ sigPut f.results ++ sigPut f.locs) ++ (putB f.code.length ++ f.code.flatMap putInstr) ++ putRuns (runsOf f.lines) ++ []) := by
          rw [Hid, HRB0.out, bytesY, headY, sigsY, codeY, tabsY, hi, hq]; rfl
        rw [hi] at HFL HBR
        rw [hq] at HBR
        have d0 := HBX.out _ _ hg0 0 _ rfl
        have d1 := HBX.out _ _ hg0 1 _ rfl
        have d2 := HBX.out _ _ hg0 2 _ rfl
        have d3 := HBX.out _ _ hg0 3 _ rfl
        have d4 := HBX.out _ _ hg0 4 _ rfl
        have d5 := HBX.out _ _ hg0 5 _ rfl
        have d6 := HBX.out _ _ hg0 6 _ rfl
        have d7 := HBX.out _ _ hg0 7 _ rfl
        have d8 := HBX.out _ _ hg0 8 _ rfl
        have d9 := HBX.out _ _ hg0 9 _ rfl
        have d10 := HBX.out _ _ hg0 10 _ rfl
        rw [hi] at d1
        generalize hD : putB f.name.size ++ f.name.data.toList = D0 at *
        have HD0 := Lib.hid hD
        clear hD HRB0
        go_wp2_with fail
        refine (HFL.out _).mono ?_
        rintro e wf ⟨rfl, hxf⟩
        have hoF := own_ext HO0 hxf
        have hgF := hg0.extR hxf
        have hbF := Nat.le_trans hb2 hgF.size
        have d1' := hxf.has d1
        clear HO0 hg0 hxf d0 d1 d2 d3 d4 d5 d6 d7 d8 d9 d10
        go_upto_region 5 with (at_builtin; (refine wpList_push rfl (.tmp 20) (.tmp 23) 38 rfl base 5 5 (.int .u8 0) 1 1 Try.underlying38 (by kernel_rfl) rfl (by decide) _ (k0 + D0.length) _ [.int .u8 (flagF f)] rfl hoF _ rfl (by simp) rfl (by simp [Value.oneCell']) (by unfold maxLen; omega) (by omega) hbF ?_; intro vb0 wb0 hownb0 hgr'; have hgr := Lib.hid hgr'; clear hgr'))
        have hg1 := hgF.tr hgr.out
        clear hgF hgr hoF hbF d1'
        obtain ⟨P0, HP0⟩ : ∃ P0 : List UInt8, Hid ([UInt8.ofNat (flagF f)] = P0) := ⟨_, Lib.hid rfl⟩
        have hPl0 : P0.length = 1 := by rw [← HP0.out]; rfl
        have hfl : [Value.int .u8 (flagF f)] = P0.map byteC := by rw [← HP0.out]; exact congrArg (fun x => [x]) (flag_byte f)
        rw [hfl] at hownb0
        have hownc0 : wb0.ownsRow base 5 1 vb0 (k0 + D0.length + P0.length) (xs ++ D0.map byteC ++ P0.map byteC) := by rw [hPl0]; exact hownb0
        clear hfl hownb0
        have HO1 : wb0.ownsRow base 5 1 vb0 (k0 + (D0 ++ P0).length) (xs ++ (D0 ++ P0).map byteC) := by rw [List.length_append, List.map_append, ← List.append_assoc, ← Nat.add_assoc]; exact hownc0
        have hle1 : (D0 ++ P0).length ≤ 23 := by rw [List.length_append]; omega
        generalize hD : D0 ++ P0 = D1 at *
        have HD1 := Lib.hid hD
        clear hD hownc0 hle0 hPl0
        have d1 := HBX.out _ _ hg1 1 _ rfl
        rw [hi] at d1
        go_upto_region 7 with fail
        clear d1
        have hp2 := sigPut_le f.params
        have hp3 := sigPut_le f.results
        have hp4 := sigPut_le f.locs
        have hy := hg1.extR ((Ext.rf wb0).dr)
        have ho := own_ext HO1 ((Ext.rf wb0).dr)
        have hz := Nat.le_trans hb2 hy.size
        clear HO1 hg1
        refine wp_region_ext (fun W => ∃ u, Grow W2 W v u) (by kernel_rfl) ⟨_, hy⟩ (fun hS => ?_)
        refine take_op 0 (v := ?_) rfl (by kernel_rfl) (by kernel_rfl) (by kernel_rfl) (Or.inl ⟨by rfl, ?_⟩) (by assumption) ?_
        rotate_left 1
        · (intro W hS; go_simp; try with_reducible rfl)
        (try simp only [Act.put, List.setIfInBounds_toArray, List.set_cons_zero, List.set_cons_succ])
        refine take_op 1 (v := ?_) rfl (by kernel_rfl) (by kernel_rfl) (by kernel_rfl) (Or.inl ⟨by rfl, ?_⟩) (by assumption) ?_
        rotate_left 1
        · (intro W hS; go_simp; try with_reducible rfl)
        (try simp only [Act.put, List.setIfInBounds_toArray, List.set_cons_zero, List.set_cons_succ])
        refine take_op 2 (v := ?_) rfl (by kernel_rfl) (by kernel_rfl) (by kernel_rfl) (Or.inl ⟨by rfl, ?_⟩) (by assumption) ?_
        rotate_left 1
        · (intro W hS; obtain ⟨uS, hgS⟩ := hS; have d3 := HBX.out _ _ hgS 3 _ rfl; have d4 := HBX.out _ _ hgS 4 _ rfl; have d5 := HBX.out _ _ hgS 5 _ rfl; go_simp; try with_reducible rfl)
        (try simp only [Act.put, List.setIfInBounds_toArray, List.set_cons_zero, List.set_cons_succ])
        refine take_op 4 (v := ?_) rfl (by kernel_rfl) (by kernel_rfl) (by kernel_rfl) (Or.inl ⟨by rfl, ?_⟩) (by assumption) ?_
        rotate_left 1
        · (intro W hS; go_simp; try with_reducible rfl)
        (try simp only [Act.put, List.setIfInBounds_toArray, List.set_cons_zero, List.set_cons_succ])
        refine take_op 5 (v := ?_) rfl (by kernel_rfl) (by kernel_rfl) (by kernel_rfl) (Or.inl ⟨by rfl, ?_⟩) (by assumption) ?_
        rotate_left 1
        · (intro W hS; obtain ⟨uS, hgS⟩ := hS; have d3 := HBX.out _ _ hgS 3 _ rfl; have d4 := HBX.out _ _ hgS 4 _ rfl; have d5 := HBX.out _ _ hgS 5 _ rfl; go_simp; try with_reducible rfl)
        (try simp only [Act.put, List.setIfInBounds_toArray, List.set_cons_zero, List.set_cons_succ])
        refine take_op 7 (v := ?_) rfl (by kernel_rfl) (by kernel_rfl) (by kernel_rfl) (Or.inl ⟨by rfl, ?_⟩) (by assumption) ?_
        rotate_left 1
        · (intro W hS; go_simp; try with_reducible rfl)
        (try simp only [Act.put, List.setIfInBounds_toArray, List.set_cons_zero, List.set_cons_succ])
        refine take_op 8 (v := ?_) rfl (by kernel_rfl) (by kernel_rfl) (by kernel_rfl) (Or.inl ⟨by rfl, ?_⟩) (by assumption) ?_
        rotate_left 1
        · (intro W hS; obtain ⟨uS, hgS⟩ := hS; have d3 := HBX.out _ _ hgS 3 _ rfl; have d4 := HBX.out _ _ hgS 4 _ rfl; have d5 := HBX.out _ _ hgS 5 _ rfl; go_simp; try with_reducible rfl)
        (try simp only [Act.put, List.setIfInBounds_toArray, List.set_cons_zero, List.set_cons_succ])
        refine do_op 3 rfl (by kernel_rfl) (fun K hK => ?_)
        go_simp; (with_reducible refine (sig_Put base _ _ _ A.o2 A.c2 f.params _ ho hz (by omega) (HFI2.out _ _ hy).h2 (by omega) HV2.out HF2.out).mono ?_); rintro e wA3 ⟨vA3, rfl, hoA, hgA⟩
        refine hK.out _ _ ⟨_, hy.tr hgA⟩ (fun hS => ?_)
        clear hK K
        (try simp only [Act.put, List.setIfInBounds_toArray, List.set_cons_zero, List.set_cons_succ])
        replace hy := hy.tr hgA; replace ho := hoA; replace hz := Nat.le_trans hb2 hy.size; clear hoA hgA
        refine do_op 6 rfl (by kernel_rfl) (fun K hK => ?_)
        go_simp; (with_reducible refine (sig_Put base _ _ _ A.o3 A.c3 f.results _ ho hz (by omega) (HFI2.out _ _ hy).h3 (by omega) HV3.out HF3.out).mono ?_); rintro e wA6 ⟨vA6, rfl, hoA, hgA⟩
        refine hK.out _ _ ⟨_, hy.tr hgA⟩ (fun hS => ?_)
        clear hK K
        (try simp only [Act.put, List.setIfInBounds_toArray, List.set_cons_zero, List.set_cons_succ])
        replace hy := hy.tr hgA; replace ho := hoA; replace hz := Nat.le_trans hb2 hy.size; clear hoA hgA
        refine do_op 9 rfl (by kernel_rfl) (fun K hK => ?_)
        go_simp; (with_reducible refine (sig_Put base _ _ _ A.o4 A.c4 f.locs _ ho hz (by omega) (HFI2.out _ _ hy).h4 (by omega) HV4.out HF4.out).mono ?_); rintro e wb1 ⟨vb1, rfl, hoA, hgA⟩
        refine hK.out _ _ ⟨_, hy.tr hgA⟩ (fun hS => ?_)
        clear hK K
        (try simp only [Act.put, List.setIfInBounds_toArray, List.set_cons_zero, List.set_cons_succ])
        replace hy := hy.tr hgA; replace ho := hoA; replace hz := Nat.le_trans hb2 hy.size; clear hoA hgA
        refine take_op 10 (v := ?_) rfl (by kernel_rfl) (by kernel_rfl) (by kernel_rfl) (Or.inl ⟨by rfl, ?_⟩) (by assumption) ?_
        rotate_left 1
        · (intro W hS; go_simp; try with_reducible rfl)
        (try simp only [Act.put, List.setIfInBounds_toArray, List.set_cons_zero, List.set_cons_succ])
        refine wpAnyH_done (by kernel_rfl) ?_ _
        refine NoPanic.normal ?_
        skip
        have hoX : wb1.ownsRow base 5 1 vb1 (k0 + D1.length + (sigPut f.params ++ sigPut f.results ++ sigPut f.locs).length) (xs ++ D1.map byteC ++ (sigPut f.params ++ sigPut f.results ++ sigPut f.locs).map byteC) := by rw [List.length_append, List.length_append, List.map_append, List.map_append]; simpa only [Nat.add_assoc, List.append_assoc, List.length_append, List.map_append] using ho
        have hPl1 : (sigPut f.params ++ sigPut f.results ++ sigPut f.locs).length ≤ 298 := by rw [List.length_append, List.length_append]; omega
        have hg2 := hy
        generalize hP : sigPut f.params ++ sigPut f.results ++ sigPut f.locs = P1 at *
        have HP1 := Lib.hid hP
        clear hP ho hy hz hp2 hp3 hp4
        have HO2 : wb1.ownsRow base 5 1 vb1 (k0 + (D1 ++ P1).length) (xs ++ (D1 ++ P1).map byteC) := by rw [List.length_append, List.map_append, ← List.append_assoc, ← Nat.add_assoc]; exact hoX
        have hle2 : (D1 ++ P1).length ≤ 321 := by rw [List.length_append]; omega
        generalize hD : D1 ++ P1 = D2 at *
        have HD2 := Lib.hid hD
        clear hD hoX hle1 hPl1
        have d6 := HBX.out _ _ hg2 6 _ rfl
        go_wp2_with fail
        refine (uvar_Put base _ _ _ f.code.length _ HO2 (Nat.le_trans hb2 hg2.size) (by omega) (by omega)).mono ?_
        rintro e wb2 ⟨vb2, rfl, hoX, hgX⟩
        have hPl2 : (putB f.code.length).length ≤ 10 := putB_le _
        generalize hP : putB f.code.length = P2 at *
        have HP2 := Lib.hid hP
        have hg3 := hg2.tr hgX
        clear hP HO2 hg2 hgX d6
        have HO3 : wb2.ownsRow base 5 1 vb2 (k0 + (D2 ++ P2).length) (xs ++ (D2 ++ P2).map byteC) := by rw [List.length_append, List.map_append, ← List.append_assoc, ← Nat.add_assoc]; exact hoX
        have hle3 : (D2 ++ P2).length ≤ 331 := by rw [List.length_append]; omega
        generalize hD : D2 ++ P2 = D3 at *
        have HD3 := Lib.hid hD
        clear hD hoX hle2 hPl2
        have d6 := HBX.out _ _ hg3 6 _ rfl
        generalize hO : A.o5 = O5 at d6
        have HC5 : Hid (∀ W u, Grow W2 W v u → Cells W O5 (f.code.flatMap pairC)) := fun W u hg => hO ▸ (HFI2.out W u hg).h5
        clear hO
        go_wp2_with fail
        go_loopw [0, 50] (fun u i wr => ∃ k : Nat, k ≤ f.code.length ∧ i = .int .i64 k ∧ wr.ownsRow base 5 1 u (k0 + (D3 ++ (f.code.take k).flatMap putInstr).length) (xs ++ (D3 ++ (f.code.take k).flatMap putInstr).map byteC) ∧ Grow W2 wr v u)
          (fun _ i _ => f.code.length - (intOf i).toNat)
        case atStart => exact ⟨0, Nat.zero_le _, rfl, by simpa using HO3, hg3⟩
        case round =>
          clear HO3 hg3 d6
          obtain ⟨k, hk, rfl, hownk, hgk⟩ := hrel
          have hle : ((f.code.take k).flatMap putInstr).length ≤ k * 11 := by
            have := flat_le putInstr 11 putInstr_le (f.code.take k)
            rw [List.length_take] at this; have e : min k f.code.length = k := by omega
            rwa [e] at this
          by_cases hlt : k < f.code.length
          · obtain ⟨b, off, rfl, x1, x2⟩ := (HC5.out _ _ hgk).pair hlt
            have HS := Lib.hid (flat_snoc putInstr hlt)
            obtain ⟨hi1, hi2⟩ := (HFB.out.v5 _ (List.getElem_mem hlt)).2
            generalize f.code[k] = x at *
            have HD : Hid (D3 ++ (f.code.take (k + 1)).flatMap putInstr = (D3 ++ (f.code.take k).flatMap putInstr) ++ putInstr x) := by rw [Hid, HS.out, List.append_assoc]
            have hle2 : (D3 ++ (f.code.take k).flatMap putInstr).length ≤ 30000 := by rw [List.length_append]; omega
            clear HS
            generalize D3 ++ (f.code.take k).flatMap putInstr = Dk at *
            go_upto_region 12 with fail
            have hoK := hownk.alloc (.cells ([.int .i64 x.1, .int .i64 x.2] : List Value).toArray 49)
            obtain ⟨hxB, -, hcA⟩ := one_box wr [.int .i64 x.1, .int .i64 x.2] 49
            have hgK := hgk.extR hxB
            generalize wr.alloc (.cells ([.int .i64 x.1, .int .i64 x.2] : List Value).toArray 49) = WB at *
            have q0 : WB.cell? ⟨wr.heap.size, 0, none⟩ = some (.int .i64 x.1) := by have := hcA.cell _ _ rfl 0 _ rfl; rwa [Nat.zero_add] at this
            have q1 : WB.cell? ⟨wr.heap.size, 1, none⟩ = some (.int .i64 x.2) := by have := hcA.cell _ _ rfl 1 _ rfl; rwa [Nat.zero_add] at this
            clear hownk hgk hxB hcA x1 x2
            go_wp2_with fail
            refine (instr_Put base _ _ _ x _ hoK (Nat.le_trans hb2 hgK.size) (by omega) hi1 hi2).mono ?_
            rintro e wz ⟨uz, rfl, hoX, hgX⟩
            have HOk : Hid (wz.ownsRow base 5 1 uz (k0 + (Dk ++ putInstr x).length) (xs ++ (Dk ++ putInstr x).map byteC)) := by rw [Hid, List.length_append, List.map_append, ← List.append_assoc, ← Nat.add_assoc]; exact hoX
            have HGk := Lib.hid (hgK.tr hgX)
            clear hoX hgX hoK hgK q0 q1
            go_wp2_with fail
            go_roundw
            case rel => exact ⟨k + 1, by omega, by go_num, by rw [HD.out]; exact HOk.out, HGk.out⟩
            case measure => simp [intOf]; omega
          · obtain rfl : k = f.code.length := by omega
            rw [List.take_of_length_le (Nat.le_refl _)] at hownk hle
            have hPl3 : (f.code.flatMap putInstr).length ≤ 22000 := by omega
            generalize hP : f.code.flatMap putInstr = P3 at *
            have HP3 := Lib.hid hP
            clear hP hle
            go_upto_region 14 with fail
            have hle4 : (D3 ++ P3).length ≤ 22331 := by rw [List.length_append]; omega
            generalize hD : D3 ++ P3 = D4 at *
            have HD4 := Lib.hid hD
            have HO4 := hownk
            have hg4 := hgk
            clear hD hownk hgk hle3 hPl3
            have d7 := HBX.out _ _ hg4 7 _ rfl
            go_wp2_with fail
            refine (lines_PutG base _ _ _ A.o6 A.c6 f.lines _ HO4 (Nat.le_trans hb2 hg4.size) (by omega) ((HFI2.out _ _ hg4)).h6 (by omega) HFB.out.v6).mono ?_
            rintro e wb4 ⟨vb4, rfl, hoX, hgX⟩
            have hPl4 : (putRuns (runsOf f.lines)).length ≤ 40000 := by have := putRuns_le (runsOf f.lines); have := (cntOk f.lines).1; omega
            generalize hP : putRuns (runsOf f.lines) = P4 at *
            have HP4 := Lib.hid hP
            have hg5 := hg4.tr hgX
            clear hP HO4 hg4 hgX d7
            have HO5 : wb4.ownsRow base 5 1 vb4 (k0 + (D4 ++ P4).length) (xs ++ (D4 ++ P4).map byteC) := by rw [List.length_append, List.map_append, ← List.append_assoc, ← Nat.add_assoc]; exact hoX
            have hle5 : (D4 ++ P4).length ≤ 62331 := by rw [List.length_append]; omega
            generalize hD : D4 ++ P4 = D5 at *
            have HD5 := Lib.hid hD
            clear hD hoX hle4 hPl4
            have d0 := HBX.out _ _ hg5 0 _ rfl
            have d1 := HBX.out _ _ hg5 1 _ rfl
            have d2 := HBX.out _ _ hg5 2 _ rfl
            have d3 := HBX.out _ _ hg5 3 _ rfl
            have d4 := HBX.out _ _ hg5 4 _ rfl
            have d5 := HBX.out _ _ hg5 5 _ rfl
            have d6 := HBX.out _ _ hg5 6 _ rfl
            have d7 := HBX.out _ _ hg5 7 _ rfl
            have d8 := HBX.out _ _ hg5 8 _ rfl
            have d9 := HBX.out _ _ hg5 9 _ rfl
            have d10 := HBX.out _ _ hg5 10 _ rfl
            rw [hi] at d1
            go_wp2_with fail
            refine (HBR.out _).mono ?_
            rintro e wg ⟨rfl, hxg⟩
            have HOg := own_ext HO5 hxg
            have hgg := hg5.extR hxg
            clear HO5 hg5 hxg d0 d1 d2 d3 d4 d5 d6 d7 d8 d9 d10
            have HB : Hid (putF' f = D5) := by rw [Hid, HRB.out, ← HD5.out, ← HD4.out, ← HD3.out, ← HD2.out, ← HD1.out, ← HP0.out, ← HP1.out, ← HP2.out, ← HP3.out, ← HP4.out, ← HD0.out]; simp only [List.append_assoc, List.append_nil, List.nil_append]
            rw [← HB.out] at HOg
            have HOt := HOg
            have hgt := hgg
            clear HOg hgg
            obtain ⟨ro, rc, hro⟩ := own_form HOt
            subst hro
            have HGT := Lib.hid (HG2.out.tr hgt)
            clear hgt
            go_wp2_with fail
            go_ret
            exact ⟨_, rfl, HOt, HGT.out⟩
      · have HRB : Hid (putF' f = (putB f.name.size ++ f.name.data.toList ++ [UInt8.ofNat (flagF f)]) ++ ([] ++ sigPut f.params ++ sigPut f.results ++ sigPut f.locs) ++ (putB f.code.length ++ f.code.flatMap putInstr) ++ putRuns (runsOf f.lines) ++ (putTree f.nodes ++ putRuns (runsOf f.ats) ++ putMaps f.live)) := by
          rw [Hid, HRB0.out, bytesY, headY, sigsY, codeY, tabsY, hi, hq]; rfl
        rw [hi] at HFL HBR
        rw [hq] at HBR
        have d0 := HBX.out _ _ hg0 0 _ rfl
        have d1 := HBX.out _ _ hg0 1 _ rfl
        have d2 := HBX.out _ _ hg0 2 _ rfl
        have d3 := HBX.out _ _ hg0 3 _ rfl
        have d4 := HBX.out _ _ hg0 4 _ rfl
        have d5 := HBX.out _ _ hg0 5 _ rfl
        have d6 := HBX.out _ _ hg0 6 _ rfl
        have d7 := HBX.out _ _ hg0 7 _ rfl
        have d8 := HBX.out _ _ hg0 8 _ rfl
        have d9 := HBX.out _ _ hg0 9 _ rfl
        have d10 := HBX.out _ _ hg0 10 _ rfl
        rw [hi] at d1
        generalize hD : putB f.name.size ++ f.name.data.toList = D0 at *
        have HD0 := Lib.hid hD
        clear hD HRB0
        go_wp2_with fail
        refine (HFL.out _).mono ?_
        rintro e wf ⟨rfl, hxf⟩
        have hoF := own_ext HO0 hxf
        have hgF := hg0.extR hxf
        have hbF := Nat.le_trans hb2 hgF.size
        have d1' := hxf.has d1
        clear HO0 hg0 hxf d0 d1 d2 d3 d4 d5 d6 d7 d8 d9 d10
        go_upto_region 5 with (at_builtin; (refine wpList_push rfl (.tmp 20) (.tmp 23) 38 rfl base 5 5 (.int .u8 0) 1 1 Try.underlying38 (by kernel_rfl) rfl (by decide) _ (k0 + D0.length) _ [.int .u8 (flagF f)] rfl hoF _ rfl (by simp) rfl (by simp [Value.oneCell']) (by unfold maxLen; omega) (by omega) hbF ?_; intro vb0 wb0 hownb0 hgr'; have hgr := Lib.hid hgr'; clear hgr'))
        have hg1 := hgF.tr hgr.out
        clear hgF hgr hoF hbF d1'
        obtain ⟨P0, HP0⟩ : ∃ P0 : List UInt8, Hid ([UInt8.ofNat (flagF f)] = P0) := ⟨_, Lib.hid rfl⟩
        have hPl0 : P0.length = 1 := by rw [← HP0.out]; rfl
        have hfl : [Value.int .u8 (flagF f)] = P0.map byteC := by rw [← HP0.out]; exact congrArg (fun x => [x]) (flag_byte f)
        rw [hfl] at hownb0
        have hownc0 : wb0.ownsRow base 5 1 vb0 (k0 + D0.length + P0.length) (xs ++ D0.map byteC ++ P0.map byteC) := by rw [hPl0]; exact hownb0
        clear hfl hownb0
        have HO1 : wb0.ownsRow base 5 1 vb0 (k0 + (D0 ++ P0).length) (xs ++ (D0 ++ P0).map byteC) := by rw [List.length_append, List.map_append, ← List.append_assoc, ← Nat.add_assoc]; exact hownc0
        have hle1 : (D0 ++ P0).length ≤ 23 := by rw [List.length_append]; omega
        generalize hD : D0 ++ P0 = D1 at *
        have HD1 := Lib.hid hD
        clear hD hownc0 hle0 hPl0
        have d1 := HBX.out _ _ hg1 1 _ rfl
        rw [hi] at d1
        go_upto_region 7 with fail
        clear d1
        have hp2 := sigPut_le f.params
        have hp3 := sigPut_le f.results
        have hp4 := sigPut_le f.locs
        have hy := hg1.extR ((Ext.rf wb0).dr)
        have ho := own_ext HO1 ((Ext.rf wb0).dr)
        have hz := Nat.le_trans hb2 hy.size
        clear HO1 hg1
        refine wp_region_ext (fun W => ∃ u, Grow W2 W v u) (by kernel_rfl) ⟨_, hy⟩ (fun hS => ?_)
        refine take_op 0 (v := ?_) rfl (by kernel_rfl) (by kernel_rfl) (by kernel_rfl) (Or.inl ⟨by rfl, ?_⟩) (by assumption) ?_
        rotate_left 1
        · (intro W hS; go_simp; try with_reducible rfl)
        (try simp only [Act.put, List.setIfInBounds_toArray, List.set_cons_zero, List.set_cons_succ])
        refine take_op 1 (v := ?_) rfl (by kernel_rfl) (by kernel_rfl) (by kernel_rfl) (Or.inl ⟨by rfl, ?_⟩) (by assumption) ?_
        rotate_left 1
        · (intro W hS; go_simp; try with_reducible rfl)
        (try simp only [Act.put, List.setIfInBounds_toArray, List.set_cons_zero, List.set_cons_succ])
        refine take_op 2 (v := ?_) rfl (by kernel_rfl) (by kernel_rfl) (by kernel_rfl) (Or.inl ⟨by rfl, ?_⟩) (by assumption) ?_
        rotate_left 1
        · (intro W hS; obtain ⟨uS, hgS⟩ := hS; have d3 := HBX.out _ _ hgS 3 _ rfl; have d4 := HBX.out _ _ hgS 4 _ rfl; have d5 := HBX.out _ _ hgS 5 _ rfl; go_simp; try with_reducible rfl)
        (try simp only [Act.put, List.setIfInBounds_toArray, List.set_cons_zero, List.set_cons_succ])
        refine take_op 4 (v := ?_) rfl (by kernel_rfl) (by kernel_rfl) (by kernel_rfl) (Or.inl ⟨by rfl, ?_⟩) (by assumption) ?_
        rotate_left 1
        · (intro W hS; go_simp; try with_reducible rfl)
        (try simp only [Act.put, List.setIfInBounds_toArray, List.set_cons_zero, List.set_cons_succ])
        refine take_op 5 (v := ?_) rfl (by kernel_rfl) (by kernel_rfl) (by kernel_rfl) (Or.inl ⟨by rfl, ?_⟩) (by assumption) ?_
        rotate_left 1
        · (intro W hS; obtain ⟨uS, hgS⟩ := hS; have d3 := HBX.out _ _ hgS 3 _ rfl; have d4 := HBX.out _ _ hgS 4 _ rfl; have d5 := HBX.out _ _ hgS 5 _ rfl; go_simp; try with_reducible rfl)
        (try simp only [Act.put, List.setIfInBounds_toArray, List.set_cons_zero, List.set_cons_succ])
        refine take_op 7 (v := ?_) rfl (by kernel_rfl) (by kernel_rfl) (by kernel_rfl) (Or.inl ⟨by rfl, ?_⟩) (by assumption) ?_
        rotate_left 1
        · (intro W hS; go_simp; try with_reducible rfl)
        (try simp only [Act.put, List.setIfInBounds_toArray, List.set_cons_zero, List.set_cons_succ])
        refine take_op 8 (v := ?_) rfl (by kernel_rfl) (by kernel_rfl) (by kernel_rfl) (Or.inl ⟨by rfl, ?_⟩) (by assumption) ?_
        rotate_left 1
        · (intro W hS; obtain ⟨uS, hgS⟩ := hS; have d3 := HBX.out _ _ hgS 3 _ rfl; have d4 := HBX.out _ _ hgS 4 _ rfl; have d5 := HBX.out _ _ hgS 5 _ rfl; go_simp; try with_reducible rfl)
        (try simp only [Act.put, List.setIfInBounds_toArray, List.set_cons_zero, List.set_cons_succ])
        refine do_op 3 rfl (by kernel_rfl) (fun K hK => ?_)
        go_simp; (with_reducible refine (sig_Put base _ _ _ A.o2 A.c2 f.params _ ho hz (by omega) (HFI2.out _ _ hy).h2 (by omega) HV2.out HF2.out).mono ?_); rintro e wA3 ⟨vA3, rfl, hoA, hgA⟩
        refine hK.out _ _ ⟨_, hy.tr hgA⟩ (fun hS => ?_)
        clear hK K
        (try simp only [Act.put, List.setIfInBounds_toArray, List.set_cons_zero, List.set_cons_succ])
        replace hy := hy.tr hgA; replace ho := hoA; replace hz := Nat.le_trans hb2 hy.size; clear hoA hgA
        refine do_op 6 rfl (by kernel_rfl) (fun K hK => ?_)
        go_simp; (with_reducible refine (sig_Put base _ _ _ A.o3 A.c3 f.results _ ho hz (by omega) (HFI2.out _ _ hy).h3 (by omega) HV3.out HF3.out).mono ?_); rintro e wA6 ⟨vA6, rfl, hoA, hgA⟩
        refine hK.out _ _ ⟨_, hy.tr hgA⟩ (fun hS => ?_)
        clear hK K
        (try simp only [Act.put, List.setIfInBounds_toArray, List.set_cons_zero, List.set_cons_succ])
        replace hy := hy.tr hgA; replace ho := hoA; replace hz := Nat.le_trans hb2 hy.size; clear hoA hgA
        refine do_op 9 rfl (by kernel_rfl) (fun K hK => ?_)
        go_simp; (with_reducible refine (sig_Put base _ _ _ A.o4 A.c4 f.locs _ ho hz (by omega) (HFI2.out _ _ hy).h4 (by omega) HV4.out HF4.out).mono ?_); rintro e wb1 ⟨vb1, rfl, hoA, hgA⟩
        refine hK.out _ _ ⟨_, hy.tr hgA⟩ (fun hS => ?_)
        clear hK K
        (try simp only [Act.put, List.setIfInBounds_toArray, List.set_cons_zero, List.set_cons_succ])
        replace hy := hy.tr hgA; replace ho := hoA; replace hz := Nat.le_trans hb2 hy.size; clear hoA hgA
        refine take_op 10 (v := ?_) rfl (by kernel_rfl) (by kernel_rfl) (by kernel_rfl) (Or.inl ⟨by rfl, ?_⟩) (by assumption) ?_
        rotate_left 1
        · (intro W hS; go_simp; try with_reducible rfl)
        (try simp only [Act.put, List.setIfInBounds_toArray, List.set_cons_zero, List.set_cons_succ])
        refine wpAnyH_done (by kernel_rfl) ?_ _
        refine NoPanic.normal ?_
        skip
        have hoX : wb1.ownsRow base 5 1 vb1 (k0 + D1.length + (sigPut f.params ++ sigPut f.results ++ sigPut f.locs).length) (xs ++ D1.map byteC ++ (sigPut f.params ++ sigPut f.results ++ sigPut f.locs).map byteC) := by rw [List.length_append, List.length_append, List.map_append, List.map_append]; simpa only [Nat.add_assoc, List.append_assoc, List.length_append, List.map_append] using ho
        have hPl1 : (sigPut f.params ++ sigPut f.results ++ sigPut f.locs).length ≤ 298 := by rw [List.length_append, List.length_append]; omega
        have hg2 := hy
        generalize hP : sigPut f.params ++ sigPut f.results ++ sigPut f.locs = P1 at *
        have HP1 := Lib.hid hP
        clear hP ho hy hz hp2 hp3 hp4
        have HO2 : wb1.ownsRow base 5 1 vb1 (k0 + (D1 ++ P1).length) (xs ++ (D1 ++ P1).map byteC) := by rw [List.length_append, List.map_append, ← List.append_assoc, ← Nat.add_assoc]; exact hoX
        have hle2 : (D1 ++ P1).length ≤ 321 := by rw [List.length_append]; omega
        generalize hD : D1 ++ P1 = D2 at *
        have HD2 := Lib.hid hD
        clear hD hoX hle1 hPl1
        have d6 := HBX.out _ _ hg2 6 _ rfl
        go_wp2_with fail
        refine (uvar_Put base _ _ _ f.code.length _ HO2 (Nat.le_trans hb2 hg2.size) (by omega) (by omega)).mono ?_
        rintro e wb2 ⟨vb2, rfl, hoX, hgX⟩
        have hPl2 : (putB f.code.length).length ≤ 10 := putB_le _
        generalize hP : putB f.code.length = P2 at *
        have HP2 := Lib.hid hP
        have hg3 := hg2.tr hgX
        clear hP HO2 hg2 hgX d6
        have HO3 : wb2.ownsRow base 5 1 vb2 (k0 + (D2 ++ P2).length) (xs ++ (D2 ++ P2).map byteC) := by rw [List.length_append, List.map_append, ← List.append_assoc, ← Nat.add_assoc]; exact hoX
        have hle3 : (D2 ++ P2).length ≤ 331 := by rw [List.length_append]; omega
        generalize hD : D2 ++ P2 = D3 at *
        have HD3 := Lib.hid hD
        clear hD hoX hle2 hPl2
        have d6 := HBX.out _ _ hg3 6 _ rfl
        generalize hO : A.o5 = O5 at d6
        have HC5 : Hid (∀ W u, Grow W2 W v u → Cells W O5 (f.code.flatMap pairC)) := fun W u hg => hO ▸ (HFI2.out W u hg).h5
        clear hO
        go_wp2_with fail
        go_loopw [0, 50] (fun u i wr => ∃ k : Nat, k ≤ f.code.length ∧ i = .int .i64 k ∧ wr.ownsRow base 5 1 u (k0 + (D3 ++ (f.code.take k).flatMap putInstr).length) (xs ++ (D3 ++ (f.code.take k).flatMap putInstr).map byteC) ∧ Grow W2 wr v u)
          (fun _ i _ => f.code.length - (intOf i).toNat)
        case atStart => exact ⟨0, Nat.zero_le _, rfl, by simpa using HO3, hg3⟩
        case round =>
          clear HO3 hg3 d6
          obtain ⟨k, hk, rfl, hownk, hgk⟩ := hrel
          have hle : ((f.code.take k).flatMap putInstr).length ≤ k * 11 := by
            have := flat_le putInstr 11 putInstr_le (f.code.take k)
            rw [List.length_take] at this; have e : min k f.code.length = k := by omega
            rwa [e] at this
          by_cases hlt : k < f.code.length
          · obtain ⟨b, off, rfl, x1, x2⟩ := (HC5.out _ _ hgk).pair hlt
            have HS := Lib.hid (flat_snoc putInstr hlt)
            obtain ⟨hi1, hi2⟩ := (HFB.out.v5 _ (List.getElem_mem hlt)).2
            generalize f.code[k] = x at *
            have HD : Hid (D3 ++ (f.code.take (k + 1)).flatMap putInstr = (D3 ++ (f.code.take k).flatMap putInstr) ++ putInstr x) := by rw [Hid, HS.out, List.append_assoc]
            have hle2 : (D3 ++ (f.code.take k).flatMap putInstr).length ≤ 30000 := by rw [List.length_append]; omega
            clear HS
            generalize D3 ++ (f.code.take k).flatMap putInstr = Dk at *
            go_upto_region 12 with fail
            have hoK := hownk.alloc (.cells ([.int .i64 x.1, .int .i64 x.2] : List Value).toArray 49)
            obtain ⟨hxB, -, hcA⟩ := one_box wr [.int .i64 x.1, .int .i64 x.2] 49
            have hgK := hgk.extR hxB
            generalize wr.alloc (.cells ([.int .i64 x.1, .int .i64 x.2] : List Value).toArray 49) = WB at *
            have q0 : WB.cell? ⟨wr.heap.size, 0, none⟩ = some (.int .i64 x.1) := by have := hcA.cell _ _ rfl 0 _ rfl; rwa [Nat.zero_add] at this
            have q1 : WB.cell? ⟨wr.heap.size, 1, none⟩ = some (.int .i64 x.2) := by have := hcA.cell _ _ rfl 1 _ rfl; rwa [Nat.zero_add] at this
            clear hownk hgk hxB hcA x1 x2
            go_wp2_with fail
            refine (instr_Put base _ _ _ x _ hoK (Nat.le_trans hb2 hgK.size) (by omega) hi1 hi2).mono ?_
            rintro e wz ⟨uz, rfl, hoX, hgX⟩
            have HOk : Hid (wz.ownsRow base 5 1 uz (k0 + (Dk ++ putInstr x).length) (xs ++ (Dk ++ putInstr x).map byteC)) := by rw [Hid, List.length_append, List.map_append, ← List.append_assoc, ← Nat.add_assoc]; exact hoX
            have HGk := Lib.hid (hgK.tr hgX)
            clear hoX hgX hoK hgK q0 q1
            go_wp2_with fail
            go_roundw
            case rel => exact ⟨k + 1, by omega, by go_num, by rw [HD.out]; exact HOk.out, HGk.out⟩
            case measure => simp [intOf]; omega
          · obtain rfl : k = f.code.length := by omega
            rw [List.take_of_length_le (Nat.le_refl _)] at hownk hle
            have hPl3 : (f.code.flatMap putInstr).length ≤ 22000 := by omega
            generalize hP : f.code.flatMap putInstr = P3 at *
            have HP3 := Lib.hid hP
            clear hP hle
            go_upto_region 14 with fail
            have hle4 : (D3 ++ P3).length ≤ 22331 := by rw [List.length_append]; omega
            generalize hD : D3 ++ P3 = D4 at *
            have HD4 := Lib.hid hD
            have HO4 := hownk
            have hg4 := hgk
            clear hD hownk hgk hle3 hPl3
            have d7 := HBX.out _ _ hg4 7 _ rfl
            go_wp2_with fail
            refine (lines_PutG base _ _ _ A.o6 A.c6 f.lines _ HO4 (Nat.le_trans hb2 hg4.size) (by omega) ((HFI2.out _ _ hg4)).h6 (by omega) HFB.out.v6).mono ?_
            rintro e wb4 ⟨vb4, rfl, hoX, hgX⟩
            have hPl4 : (putRuns (runsOf f.lines)).length ≤ 40000 := by have := putRuns_le (runsOf f.lines); have := (cntOk f.lines).1; omega
            generalize hP : putRuns (runsOf f.lines) = P4 at *
            have HP4 := Lib.hid hP
            have hg5 := hg4.tr hgX
            clear hP HO4 hg4 hgX d7
            have HO5 : wb4.ownsRow base 5 1 vb4 (k0 + (D4 ++ P4).length) (xs ++ (D4 ++ P4).map byteC) := by rw [List.length_append, List.map_append, ← List.append_assoc, ← Nat.add_assoc]; exact hoX
            have hle5 : (D4 ++ P4).length ≤ 62331 := by rw [List.length_append]; omega
            generalize hD : D4 ++ P4 = D5 at *
            have HD5 := Lib.hid hD
            clear hD hoX hle4 hPl4
            have d0 := HBX.out _ _ hg5 0 _ rfl
            have d1 := HBX.out _ _ hg5 1 _ rfl
            have d2 := HBX.out _ _ hg5 2 _ rfl
            have d3 := HBX.out _ _ hg5 3 _ rfl
            have d4 := HBX.out _ _ hg5 4 _ rfl
            have d5 := HBX.out _ _ hg5 5 _ rfl
            have d6 := HBX.out _ _ hg5 6 _ rfl
            have d7 := HBX.out _ _ hg5 7 _ rfl
            have d8 := HBX.out _ _ hg5 8 _ rfl
            have d9 := HBX.out _ _ hg5 9 _ rfl
            have d10 := HBX.out _ _ hg5 10 _ rfl
            rw [hi] at d1
            go_wp2_with fail
            refine (HBR.out _).mono ?_
            rintro e wg ⟨rfl, hxg⟩
            have HOg := own_ext HO5 hxg
            have hgg := hg5.extR hxg
            clear HO5 hg5 hxg d0 d1 d2 d3 d4 d5 d6 d7 d8 d9 d10
            go_upto_region 16 with fail
            have hp7 : (putTree f.nodes).length ≤ 8410 := by have := putB_le f.nodes.length; have := flat_le putNode 70 putNode_le f.nodes; rw [putTree, List.length_append]; omega
            have hp8 : (putRuns (runsOf f.ats)).length ≤ 40000 := by have := putRuns_le (runsOf f.ats); have := (cntOk f.ats).1; omega
            have hp9 : (putMaps f.live).length ≤ 100000 := by have := putMaps_le f.live; omega
            have hy := hgg.extR ((Ext.rf wg).dr)
            have ho := own_ext HOg ((Ext.rf wg).dr)
            have hz := Nat.le_trans hb2 hy.size
            clear HOg hgg
            refine wp_region_ext (fun W => ∃ u, Grow W2 W v u) (by kernel_rfl) ⟨_, hy⟩ (fun hS => ?_)
            refine take_op 0 (v := ?_) rfl (by kernel_rfl) (by kernel_rfl) (by kernel_rfl) (Or.inl ⟨by rfl, ?_⟩) (by assumption) ?_
            rotate_left 1
            · (intro W hS; go_simp; try with_reducible rfl)
            (try simp only [Act.put, List.setIfInBounds_toArray, List.set_cons_zero, List.set_cons_succ])
            refine take_op 1 (v := ?_) rfl (by kernel_rfl) (by kernel_rfl) (by kernel_rfl) (Or.inl ⟨by rfl, ?_⟩) (by assumption) ?_
            rotate_left 1
            · (intro W hS; go_simp; try with_reducible rfl)
            (try simp only [Act.put, List.setIfInBounds_toArray, List.set_cons_zero, List.set_cons_succ])
            refine take_op 2 (v := ?_) rfl (by kernel_rfl) (by kernel_rfl) (by kernel_rfl) (Or.inl ⟨by rfl, ?_⟩) (by assumption) ?_
            rotate_left 1
            · (intro W hS; obtain ⟨uS, hgS⟩ := hS; have d8 := HBX.out _ _ hgS 8 _ rfl; have d9 := HBX.out _ _ hgS 9 _ rfl; have d10 := HBX.out _ _ hgS 10 _ rfl; go_simp; try with_reducible rfl)
            (try simp only [Act.put, List.setIfInBounds_toArray, List.set_cons_zero, List.set_cons_succ])
            refine take_op 4 (v := ?_) rfl (by kernel_rfl) (by kernel_rfl) (by kernel_rfl) (Or.inl ⟨by rfl, ?_⟩) (by assumption) ?_
            rotate_left 1
            · (intro W hS; go_simp; try with_reducible rfl)
            (try simp only [Act.put, List.setIfInBounds_toArray, List.set_cons_zero, List.set_cons_succ])
            refine take_op 5 (v := ?_) rfl (by kernel_rfl) (by kernel_rfl) (by kernel_rfl) (Or.inl ⟨by rfl, ?_⟩) (by assumption) ?_
            rotate_left 1
            · (intro W hS; obtain ⟨uS, hgS⟩ := hS; have d8 := HBX.out _ _ hgS 8 _ rfl; have d9 := HBX.out _ _ hgS 9 _ rfl; have d10 := HBX.out _ _ hgS 10 _ rfl; go_simp; try with_reducible rfl)
            (try simp only [Act.put, List.setIfInBounds_toArray, List.set_cons_zero, List.set_cons_succ])
            refine take_op 7 (v := ?_) rfl (by kernel_rfl) (by kernel_rfl) (by kernel_rfl) (Or.inl ⟨by rfl, ?_⟩) (by assumption) ?_
            rotate_left 1
            · (intro W hS; go_simp; try with_reducible rfl)
            (try simp only [Act.put, List.setIfInBounds_toArray, List.set_cons_zero, List.set_cons_succ])
            refine take_op 8 (v := ?_) rfl (by kernel_rfl) (by kernel_rfl) (by kernel_rfl) (Or.inl ⟨by rfl, ?_⟩) (by assumption) ?_
            rotate_left 1
            · (intro W hS; obtain ⟨uS, hgS⟩ := hS; have d8 := HBX.out _ _ hgS 8 _ rfl; have d9 := HBX.out _ _ hgS 9 _ rfl; have d10 := HBX.out _ _ hgS 10 _ rfl; go_simp; try with_reducible rfl)
            (try simp only [Act.put, List.setIfInBounds_toArray, List.set_cons_zero, List.set_cons_succ])
            refine do_op 3 rfl (by kernel_rfl) (fun K hK => ?_)
            go_simp; (with_reducible refine (tree_Put base _ _ _ A.o7 A.c7 f.nodes _ ho hz (by omega) (HFI2.out _ _ hy).h7 (by omega) HFB.out.v7 HF7.out).mono ?_); rintro e wA3 ⟨vA3, rfl, hoA, hgA⟩
            refine hK.out _ _ ⟨_, hy.tr hgA⟩ (fun hS => ?_)
            clear hK K
            (try simp only [Act.put, List.setIfInBounds_toArray, List.set_cons_zero, List.set_cons_succ])
            replace hy := hy.tr hgA; replace ho := hoA; replace hz := Nat.le_trans hb2 hy.size; clear hoA hgA
            refine do_op 6 rfl (by kernel_rfl) (fun K hK => ?_)
            go_simp; (with_reducible refine (runs_Put base _ _ _ A.o8 A.c8 f.ats _ ho hz (by omega) (HFI2.out _ _ hy).h8 (by omega) HV8.out).mono ?_); rintro e wA6 ⟨vA6, rfl, hoA, hgA⟩
            refine hK.out _ _ ⟨_, hy.tr hgA⟩ (fun hS => ?_)
            clear hK K
            (try simp only [Act.put, List.setIfInBounds_toArray, List.set_cons_zero, List.set_cons_succ])
            replace hy := hy.tr hgA; replace ho := hoA; replace hz := Nat.le_trans hb2 hy.size; clear hoA hgA
            refine do_op 9 rfl (by kernel_rfl) (fun K hK => ?_)
            go_simp; (with_reducible refine (maps_Put base _ _ _ A.o9 A.c9 f.live _ ho hz (by omega) (HFI2.out _ _ hy).h9 (by omega) HFB.out.v9).mono ?_); rintro e wA9 ⟨vA9, rfl, hoA, hgA⟩
            refine hK.out _ _ ⟨_, hy.tr hgA⟩ (fun hS => ?_)
            clear hK K
            (try simp only [Act.put, List.setIfInBounds_toArray, List.set_cons_zero, List.set_cons_succ])
            replace hy := hy.tr hgA; replace ho := hoA; replace hz := Nat.le_trans hb2 hy.size; clear hoA hgA
            refine take_op 10 (v := ?_) rfl (by kernel_rfl) (by kernel_rfl) (by kernel_rfl) (Or.inl ⟨by rfl, ?_⟩) (by assumption) ?_
            rotate_left 1
            · (intro W hS; go_simp; try with_reducible rfl)
            (try simp only [Act.put, List.setIfInBounds_toArray, List.set_cons_zero, List.set_cons_succ])
            refine wpAnyH_done (by kernel_rfl) ?_ _
            refine NoPanic.normal ?_
            skip
            have HOt : wA9.ownsRow base 5 1 vA9 (k0 + (D5 ++ (putTree f.nodes ++ putRuns (runsOf f.ats) ++ putMaps f.live)).length) (xs ++ (D5 ++ (putTree f.nodes ++ putRuns (runsOf f.ats) ++ putMaps f.live)).map byteC) := by simpa only [Nat.add_assoc, List.append_assoc, List.length_append, List.map_append] using ho
            have HB : Hid (putF' f = D5 ++ (putTree f.nodes ++ putRuns (runsOf f.ats) ++ putMaps f.live)) := by rw [Hid, HRB.out, ← HD5.out, ← HD4.out, ← HD3.out, ← HD2.out, ← HD1.out, ← HP0.out, ← HP1.out, ← HP2.out, ← HP3.out, ← HP4.out, ← HD0.out]; simp only [List.append_assoc, List.append_nil, List.nil_append]
            rw [← HB.out] at HOt
            have hgt := hy
            clear ho hy hz
            obtain ⟨ro, rc, hro⟩ := own_form HOt
            subst hro
            have HGT := Lib.hid (HG2.out.tr hgt)
            clear hgt
            go_wp2_with fail
            go_ret
            exact ⟨_, rfl, HOt, HGT.out⟩
end Go.Proofs.Ytofdkhilapmccaa
