/- dis.Tables: a function's tables as lines. -/
import Derived.Test.YtkdnbnkbnegckaaDoorTbc
import Derived.Test.YtkdnbnkbnegckaaDoorOri
import Derived.Deep.DeepCutAuto
namespace Go.Proofs.YtkdnbnkbnegckaaDoor
open Go.RowKit Go.Shelf
set_option maxRecDepth 20000
set_option linter.unusedVariables false
attribute [local go_sem] Oper.semAt_some
/-- What the rounds left to be deferred: nothing. -/
theorem leaves_marks {P : Program} {n : Nat} {fn : Func} {tmps : Array Value} {R : Ending → World → Prop} {B : Nat} : ∀ (Ds : List Nat) (W : World), Ds.Nodup → (∀ D ∈ Ds, B ≤ D ∧ W.heap[D]? = some (.deferred (some []))) → (∀ W', Below B W W' → LeavesInM Fence.wide n P fn tmps R [] .returning W') →
    LeavesInM Fence.wide n P fn tmps R (Ds.map fun D => { target := .collected D, args := #[] }) .returning W
  | [], W, _, _, h => h W (Below.refl _ _)
  | D :: Ds, W, hn, hD, h => by
    obtain ⟨hB, hD0⟩ := hD D (List.mem_cons_self ..)
    have hn' := List.nodup_cons.1 hn
    refine ⟨by simp, .inl ⟨D, _, rfl, run_takeDeferred hD0, ?_⟩⟩
    have hx : Below B W (W.putObj D (.deferred none)) := ⟨rfl, rfl, rfl, by simp [World.putObj], fun k hk => World.putObj_heap_other (by omega)⟩
    refine leaves_marks Ds _ hn'.2 (fun E hE => ?_) fun W' hW' => h W' (hx.trans hW')
    refine ⟨(hD E (List.mem_cons_of_mem _ hE)).1, ?_⟩
    exact (World.putObj_heap_other (fun e => hn'.1 (by rw [← e]; exact hE))).trans (hD E (List.mem_cons_of_mem _ hE)).2
def rowWords (dk da : List UInt8) (pre : List F256) : List (List UInt8) := dk :: da :: pre.map fun x => decB ((x.val : Nat) : Int)
def strOf (b : List UInt8) : Value := .string (strB b)
theorem stepIn_push {F : Fence} {fn : Nat} {P : Program} {w : World} {o : Oper} {a : Act} {K : Act → World → Prop} {Q : Exit → Act → World → Prop} (s x : Operand) (t : TypeId)
    (ho : o.op = .call { callee := .builtin .append, args := #[s, x], argTypes := #[t, t] })
    (base : Nat) (e te : TypeId) (z : Value) (size bytes : Nat) (ht : P.underlying t = some (.slice e)) (hi : (P.info? e).map (fun i => (i.zero, i.size, i.bytes)) = some (some z, size, bytes))
    (hzs : z.cells.size = size) (hsz : 0 < size)
    (v : Value) (n : Nat) (xs : List Value) (news : List Value) (hs : a.eval s = v) (hown : w.ownsRow base e size v n xs)
    (gx : Nat) (hx : a.eval x = .slice (some ⟨gx, 0, none⟩) 1 1) (hgx : gx = w.heap.size) (hl : news.length = size) (h1 : ∀ u ∈ news, u.oneCell' = true)
    (h63 : n + 1 ≤ maxLen) (hbytes : (n + 1) * bytes ≤ 140737488355328) (hbase : base ≤ w.heap.size)
    (h : ∀ v' w', w'.ownsRow base e size v' (n + 1) (xs ++ news) → Grow w w' v v' → K (a.put o.dst v') w') :
    Oper.wpIn F fn P o a (w.alloc (.cells news.toArray te)) K Q := by
  obtain ⟨v', w', hrun, r1, r2⟩ := run_grow (P := P) t o.type base e z size bytes ht hi hzs hsz v n xs (some ⟨gx, 0, none⟩) 1 1 news (hown.alloc _) (cells_new w news te gx hgx) (by simp [hl]) h1 h63 hbytes (by simp; omega)
  unfold Oper.wpIn
  refine ⟨?_, ?_⟩
  · simp [Oper.about, ho, resolve, Target.leads, Sem.run_pure]
  · rw [Oper.semAt_plain F _ _ (by rw [ho]; intro c hc'; cases hc')]
    simp [execOp, ho, resolve, invoke, builtin, hs, hx, hrun, Result.andThen]
    exact h v' w' r1 (r2.extL ((Ext.rf w).al _))
/-- Between two rounds: the row's words so far. -/
def RowI (wr : World) (g5 Bs : Nat) (dk da : List UInt8) (pre : List F256) (W : World) : Prop :=
  (∃ v, Boxed W g5 56 v ∧ W.ownsRow wr.heap.size 9 1 v (rowWords dk da pre).length ((rowWords dk da pre).map strOf) ∧ v.ownBlock ≠ some Bs) ∧ Below wr.heap.size wr W ∧ Bs < W.heap.size
theorem keeps_ext {W we : World} (h : Ext W we) : KeepsOthers W we := ⟨h.size, fun k o hk _ => (h.block (Array.getElem?_eq_some_iff.1 hk).1).trans hk⟩
theorem row_pushed {wr W we w1 : World} {g5 Bs : Nat} {dk da : List UInt8} {pre : List F256} {x : F256} {v v' : Value} (bO : Boxed W g5 56 v) (hr : W.ownsRow wr.heap.size 9 1 v (rowWords dk da pre).length ((rowWords dk da pre).map strOf)) (hG : v.ownBlock ≠ some Bs) (hB : Below wr.heap.size wr W)
    (h5 : wr.heap.size ≤ g5) (h5s : g5 < Bs) (hBs : Bs < W.heap.size) (hye : Ext W we) (hr2 : w1.ownsRow wr.heap.size 9 1 v' ((rowWords dk da pre).length + 1) ((rowWords dk da pre).map strOf ++ [strOf (decB ((x.val : Nat) : Int))])) (hg : Grow we w1 v v') (B : Nat) :
    KeepsFrom B W (w1.setCell ⟨g5, 0, none⟩ v') ∧ KeepBs wr.heap.size Bs W (w1.setCell ⟨g5, 0, none⟩ v') ∧ RowI wr g5 Bs dk da (pre ++ [x]) (w1.setCell ⟨g5, 0, none⟩ v') := by
  have hre := own_ext hr hye
  have bOe : Boxed we g5 56 v := Ext.blk hye bO
  have bO1 : Boxed w1 g5 56 v := bOe.kept hg.togrownBy (bOe.not_row (by decide) hre)
  have hsz := hB.size
  have hbe : Below wr.heap.size W we := hye.b.mono (by omega)
  have hb1 : Below wr.heap.size W w1 := below_grow hbe (by have := hye.size; omega) hre (Nat.le_refl _) hg
  have hb2 : Below wr.heap.size W (w1.setCell ⟨g5, 0, none⟩ v') := hb1.setCell (p := ⟨g5, 0, none⟩) h5 _
  have hwd : rowWords dk da (pre ++ [x]) = rowWords dk da pre ++ [decB ((x.val : Nat) : Int)] := by simp [rowWords]
  refine ⟨(((keeps_ext hye).trans (keeps_grow hre hg)).trans (KeepsOthers.setCell _ _ _)).from _, ⟨hb2, fun o ho => ?_⟩, ⟨⟨v', bO1.set _, ?_, ?_⟩, hB.trans hb2, Nat.lt_of_lt_of_le hBs hb2.size⟩⟩
  · have h1 := (hye.block hBs).trans ho
    have h2 := (hg.togrownBy.block Bs (Nat.lt_of_lt_of_le hBs hye.size) (fun e => hG e.symm)).trans h1
    exact setCell_blk (by simp; omega) h2
  · rw [hwd, List.length_append, List.map_append]
    exact hr2.kept (grownBy_setCell' w1 _ _) (.inr (bO1.not_row (by decide) hr2).symm)
  · intro e
    rcases hg.new with h | h
    · exact hG (by rw [← h]; exact e)
    · have h3 := h Bs e
      have := hye.size
      omega
theorem isWr_cells {B b : Nat} {l : List UInt8} {w : World} (h : IsWr B b l w) {g : Nat} (e : ownB b w = some g) : ∃ cs t, w.heap[g]? = some (.cells cs t (0, 0)) := by
  obtain ⟨p, hB, v, hbk, hown, hne⟩ : ∃ p, WrAt B b p l w := by
    rcases h with h | h
    · exact ⟨_, h⟩
    · exact ⟨_, h⟩
  have hc : w.cell? ⟨b, 1, none⟩ = some v := by rw [Lib.cell_of_heap hbk]; rfl
  rw [ownB, hc] at e
  rcases hown.2 with ⟨rfl, _⟩ | ⟨g2, cap, cur, rfl, _, hgb, _⟩
  · simp [Value.ownBlock] at e
  · obtain rfl : g2 = g := by simpa [Value.ownBlock] using e
    exact ⟨_, _, hgb⟩
theorem isWr_mark {B b : Nat} {l : List UInt8} {w : World} (h : IsWr B b l w) {D : Nat} (hD : w.heap[D]? = some (.deferred (some []))) : ownB b w ≠ some D := fun e => by
  obtain ⟨cs, t, hc⟩ := isWr_cells h e
  rw [hD] at hc
  cases hc
theorem join_words : ∀ (x : List UInt8) (l : List (List UInt8)), Lib.join (x :: l) [32] = x ++ l.flatMap fun y => 32 :: y
  | x, [] => by simp [Lib.join]
  | x, y :: l => by
    have h : Lib.join (x :: y :: l) [32] = x ++ [32] ++ Lib.join (y :: l) [32] := by simp [Lib.join]
    rw [h, join_words y l]
    simp
theorem line_row {dk da : List UInt8} {ys : List F256} {st : SetT} (h : ys.map (·.val) = slotsOf st 256) : Lib.join (rowWords dk da ys) [32] = dk ++ 32 :: (da ++ slT st) := by
  rw [rowWords, join_words, List.flatMap_cons, slT, ← h, List.flatMap_map, List.flatMap_map]
  simp [slB]
theorem K_alloc {K : Act → World → Prop} {a : Act} {X : World} {o : Obj} (h : ∀ wq, Ext X wq → wq.heap[X.heap.size]? = some o → K a wq) : K a (X.alloc o) := h _ ((Ext.rf X).al o) (alloc_new X o)
theorem K_allocD {K : Act → World → Prop} {a : Act} {X : World} {o : Obj} (h : ∀ wq, Ext X.drew wq → wq.heap[X.heap.size]? = some o → K a wq) : K a (X.alloc o).drew := h _ ((Ext.rf X.drew).al o) (alloc_new X.drew o)
theorem K_set {K : Act → World → Prop} {a : Act} {X : World} {g : Nat} {u v : Value} {t : TypeId} (hb : X.heap[g]? = some (.cells #[u] t (0, 0))) (h : ∀ wq, Below g X wq → wq.heap[g]? = some (.cells #[v] t (0, 0)) → (∀ k, k ≠ g → wq.heap[k]? = X.heap[k]?) → K a wq) : K a (X.setCell ⟨g, 0, none⟩ v) :=
  h _ ((Below.refl g X).setCell (p := ⟨g, 0, none⟩) (Nat.le_refl _) _) (by simp [World.setCell, Array.getElem?_modify, hb]) fun k hk => Below.heap_setCell _ _ _ _ fun e => hk (by simp [e])
theorem blk_lt {W : World} {g : Nat} {o : Obj} (h : W.heap[g]? = some o) : g < W.heap.size := (Array.getElem?_eq_some_iff.1 h).1
set_option maxHeartbeats 8000000 in
theorem dis_Tables_walk (f : Fn) (cs : List Value) (w : World) (hcs : RepCs w W0 (enc tF f) cs) (hf : OkB f) (hT : TabAt 0 Lib.deBruijn64tab w) (hw0 : 0 < w.heap.size) :
    Calls Tryd.prog 7 #[.agg cs.toArray] w fun e W' => e = .returned (.string ⟨⟨tabT f.2.2.2.2.2.2.1.length f.2.2.2.2.2.2.2.2.1 f.2.2.2.2.2.2.2.2.2.1 f.2.2.2.2.2.2.2.2.2.2⟩⟩) ∧ Ext w W' := by
  obtain ⟨a1, c1, a2, c2, a3, c3, a4, c4, a5, c5, a6, c6, a7, c7, a8, c8, a9, c9, hcse⟩ := fn_cells hcs
  subst hcse
  obtain ⟨nm, inn, ou, pa, re, lo, code, lines, no, at', lv⟩ := f
  have HB := Lib.hid fun W' h => c_bare (W := W') (rep_below hcs h)
  have HAr := Lib.hid (hcs.2 9 (.fz 1 (encL tI at')) (.slice a8 at'.length c8) rfl rfl)
  have HLr := Lib.hid (hcs.2 10 (.fz 4 (encL tS lv)) (.slice a9 lv.length c9) rfl rfl)
  have HNr := Lib.hid (hcs.2 8 (.fz 7 (encL tN no)) (.slice a7 no.length c7) rfl rfl)
  have HF := Lib.hid hf
  have HT := Lib.hid hT
  have HN : code.length ≤ 100000 := hf.1
  dsimp only at HB ⊢
  clear hcs hf hT
  refine (callsIn_wide (n := 9)).1 ?_
  refine callsIn_of_wp_marks Tryd.func7 rfl trivial ?_ rfl
  refine wpIn_wide.2 ?_
  simp only [Tryd.ntmps7, List.size_toArray, List.length_cons, List.length_nil, Nat.reduceAdd, Nat.reduceSub, Array.replicate_succ, Array.replicate_zero, List.push_toArray, List.append_toArray, List.nil_append, List.cons_append]
  go_wp2_with fail
  refine (HB.out _ ((Ext.rf w).al _)).mono ?_
  rintro e w1 ⟨rfl, hx1⟩
  have hp1 := Lib.hid ((hx1.block (by simp)).trans (alloc_new w _))
  have HX1 := Lib.hid (((Ext.rf w).al _).tr hx1)
  clear hx1 HB
  cases hb : bareQ no at' lv with
  | true =>
    go_wp2_with fail
    exact ⟨_, results_tmp rfl _ _ _, by rw [tabT, if_pos hb]; rfl, HX1.out⟩
  | false =>
    have k6 : ∀ o, (w1.alloc o).cell? ⟨w.heap.size, 6, none⟩ = _ := fun o => ((Ext.rf w1).al o).has (blk hp1.out 6 rfl)
    go_wp2_with fail
    have hbw : w.heap.size < w1.heap.size := (Array.getElem?_eq_some_iff.1 hp1.out).1
    have hA : Ext w1 (w1.alloc (.cells #[.pointer none, .slice none 0 0] 53)) := (Ext.rf w1).al _
    have k8 : Hid ((w1.alloc (.cells #[.pointer none, .slice none 0 0] 53)).cell? ⟨w.heap.size, 8, none⟩ = some (.slice a7 no.length c7)) := Lib.hid (hA.has (blk hp1.out 8 rfl))
    have k9 : Hid ((w1.alloc (.cells #[.pointer none, .slice none 0 0] 53)).cell? ⟨w.heap.size, 9, none⟩ = some (.slice a8 at'.length c8)) := Lib.hid (hA.has (blk hp1.out 9 rfl))
    have k10 : Hid ((w1.alloc (.cells #[.pointer none, .slice none 0 0] 53)).cell? ⟨w.heap.size, 10, none⟩ = some (.slice a9 lv.length c9)) := Lib.hid (hA.has (blk hp1.out 10 rfl))
    have HB0 : Hid ((w1.alloc (.cells #[.pointer none, .slice none 0 0] 53)).heap[w1.heap.size]? = some (.cells #[.pointer none, .slice none 0 0] 53 (0, 0))) := Lib.hid (alloc_new w1 _)
    have HX0 := Lib.hid (HX1.out.tr hA)
    have hs0 : (w1.alloc (.cells #[.pointer none, .slice none 0 0] 53)).heap.size = w1.heap.size + 1 := by simp
    clear k6 hA HX1 hp1
    generalize w1.alloc (.cells #[.pointer none, .slice none 0 0] 53) = w0 at *
    generalize w1.heap.size = bW at *
    refine wp_loop (fun a' wr => ∃ (k : Nat) (Ds : List Nat) (u4 u5 u6 u15 u16 u17 u18 u19 u20 u21 u22 u23 u24 u25 u26 u27 u28 u29 u30 u31 u32 u33 u34 u35 u36 u37 u38 u39 : Value), k ≤ code.length ∧ Hid (IsWr bW bW (rowsT at' lv k) wr) ∧ Hid (k = 0 → wr.heap[bW]? = some (.cells #[.pointer none, .slice none 0 0] 53 (0, 0))) ∧ Hid (Below bW w0 wr) ∧ Hid (Ds.Nodup ∧ ∀ D ∈ Ds, bW < D ∧ wr.heap[D]? = some (.deferred (some []))) ∧
      a' = { tmps := #[Value.agg #[.string ⟨⟨nm⟩⟩, .bool inn, .slice a1 ou.length c1, .slice a2 pa.length c2, .slice a3 re.length c3, .slice a4 lo.length c4, .slice a5 code.length c5, .slice a6 lines.length c6, .slice a7 no.length c7, .slice a8 at'.length c8, .slice a9 lv.length c9], .pointer (some ⟨w.heap.size, 0, none⟩), .string ⟨#[]⟩, .pointer (some ⟨bW, 0, none⟩), u4, u5, u6, Value.agg #[.string ⟨⟨nm⟩⟩, .bool inn, .slice a1 ou.length c1, .slice a2 pa.length c2, .slice a3 re.length c3, .slice a4 lo.length c4, .slice a5 code.length c5, .slice a6 lines.length c6, .slice a7 no.length c7, .slice a8 at'.length c8, .slice a9 lv.length c9], .bool false, .agg #[.pointer none, .slice none 0 0], .pointer (some ⟨bW, 0, none⟩), .pointer (some ⟨w.heap.size, 6, none⟩), .slice a5 code.length c5, .int .i64 code.length, .int .i64 k, u15, u16, u17, u18, u19, u20, u21, u22, u23, u24, u25, u26, u27, u28, u29, u30, u31, u32, u33, u34, u35, u36, u37, u38, u39, undef, undef, undef, undef, undef, undef, undef, undef], defers := Ds.map fun D => { target := .collected D, args := #[] } }) (fun a' _ => code.length - (intOf (a'.tmps.getD 14 undef)).toNat) ?_ ?_
    · exact ⟨0, [], _, _, _, _, _, _, _, _, _, _, _, _, _, _, _, _, _, _, _, _, _, _, _, _, _, _, _, _, Nat.zero_le _, Lib.hid (.inl ⟨Nat.le_refl _, .slice none 0 0, HB0.out, ⟨rfl, .inl ⟨rfl, rfl⟩⟩, by simp [Value.ownBlock]⟩), Lib.hid fun _ => HB0.out, Lib.hid (Below.refl _ _), Lib.hid ⟨List.nodup_nil, fun D h => by simp at h⟩, rfl⟩
    · rintro _ wr ⟨k, Ds, u4, u5, u6, u15, u16, u17, u18, u19, u20, u21, u22, u23, u24, u25, u26, u27, u28, u29, u30, u31, u32, u33, u34, u35, u36, u37, u38, u39, hk, HWr, HZr, HXr, HDr, rfl⟩
      by_cases hlt : k < code.length
      · have hltB : decide ((k : Int) < (code.length : Int)) = true := decide_eq_true (by omega)
        have hltB2 : decide (k < code.length) = true := decide_eq_true hlt
        have e9 : Hid (wr.cell? ⟨w.heap.size, 9, none⟩ = some (.slice a8 at'.length c8)) := Lib.hid ((HXr.out.cell (p := ⟨w.heap.size, 9, none⟩) hbw).trans k9.out)
        have e10 : Hid (wr.cell? ⟨w.heap.size, 10, none⟩ = some (.slice a9 lv.length c9)) := Lib.hid ((HXr.out.cell (p := ⟨w.heap.size, 10, none⟩) hbw).trans k10.out)
        have hA9 := atL_ok (i := k) HF.out.2.2.2.2.1
        have HDa : Hid (∀ W, Ext w W → Calls Tryd.prog 22 #[.slice a8 at'.length c8, .int .i64 (k : Int)] W fun e W' => e = .returned (.int .i64 (atL at' k)) ∧ Ext W W') := Lib.hid fun W h => c_At (rep_below1 HAr.out h)
        have HDk : Hid (∀ W, Calls Tryd.prog 21 #[.int .i64 (k : Int)] W fun e W' => e = .returned (.string (strB (decB (k : Int)))) ∧ Ext W W') := Lib.hid fun W => instr_Digits (k : Int) W (by omega) (by omega)
        have HDb : Hid (∀ W, Calls Tryd.prog 21 #[.int .i64 (atL at' k)] W fun e W' => e = .returned (.string (strB (decB (atL at' k)))) ∧ Ext W W') := Lib.hid fun W => instr_Digits (atL at' k) W hA9.1 hA9.2
        have HXw : Hid (Ext w wr) := Lib.hid (Below.trans HX0.out (HXr.out.mono (Nat.le_of_lt hbw)))
        have hdal := decB_len hA9.1 hA9.2
        have hdkl := decB_len (n := (k : Int)) (by omega) (by omega)
        generalize hda : decB (atL at' k) = da at *
        generalize hdk : decB (k : Int) = dk at *
        clear hA9
        go_wp2_with fail
        refine Code.wp_mono (Q := fun e a' wx => e = .normal ∧ ∃ (g5 gr : Nat) (v17 v18 v19 v20 v21 v22 v23 v24 : Value), Hid (Ext wr wx ∧ wr.heap.size ≤ g5 ∧ wr.heap.size ≤ gr ∧ g5 ≠ gr ∧ wx.heap[g5]? = some (.cells #[.slice (some ⟨gr, 0, none⟩) 2 2] 56 (0, 0)) ∧ wx.heap[gr]? = some (.cells #[.string (strB dk), .string (strB da)] 9 (0, 0))) ∧
          a' = { tmps := #[Value.agg #[.string ⟨⟨nm⟩⟩, .bool inn, .slice a1 ou.length c1, .slice a2 pa.length c2, .slice a3 re.length c3, .slice a4 lo.length c4, .slice a5 code.length c5, .slice a6 lines.length c6, .slice a7 no.length c7, .slice a8 at'.length c8, .slice a9 lv.length c9], .pointer (some ⟨w.heap.size, 0, none⟩), .string ⟨#[]⟩, .pointer (some ⟨bW, 0, none⟩), .int .i64 k, .pointer (some ⟨g5, 0, none⟩), u6, Value.agg #[.string ⟨⟨nm⟩⟩, .bool inn, .slice a1 ou.length c1, .slice a2 pa.length c2, .slice a3 re.length c3, .slice a4 lo.length c4, .slice a5 code.length c5, .slice a6 lines.length c6, .slice a7 no.length c7, .slice a8 at'.length c8, .slice a9 lv.length c9], .bool false, .agg #[.pointer none, .slice none 0 0], .pointer (some ⟨bW, 0, none⟩), .pointer (some ⟨w.heap.size, 6, none⟩), .slice a5 code.length c5, .int .i64 code.length, .int .i64 k, .bool true, .int .i64 k, v17, v18, v19, v20, v21, v22, v23, v24, u25, u26, u27, u28, u29, u30, u31, u32, u33, u34, u35, u36, u37, u38, u39, undef, undef, undef, undef, undef, undef, undef, undef], defers := Ds.map fun D => { target := .collected D, args := #[] } }) ?_ ?_
        · rintro _ _ wx ⟨rfl, g5, gr, v17, v18, v19, v20, v21, v22, v23, v24, H7, rfl⟩
          obtain ⟨hx7, hg5, hgr, hne, hb5, hbr⟩ := H7.out
          have e10x : wx.cell? ⟨w.heap.size, 10, none⟩ = some (.slice a9 lv.length c9) := hx7.has e10.out
          have HMa := Lib.hid (c_mapsAt (W := wx) (k := k) (rep_below1 HLr.out (HXw.out.tr hx7)) HF.out.2.2.2.2.2.1)
          have hS64 := Lib.hid (setOf_64 (setAt_ok HF.out.2.2.2.2.2.1 k))
          have HRow : Hid (rowsT at' lv (k + 1) = rowsT at' lv k ++ (dk ++ 32 :: (da ++ (slT (setOf (setAt lv k)) ++ [10])))) := Lib.hid (by rw [rowsT_succ, rowT, hdk, hda])
          generalize setOf (setAt lv k) = st at *
          clear H7
          go_wp2_with fail
          refine HMa.out.mono ?_
          rintro e wy ⟨rfl, hxy⟩
          have HXy := Lib.hid (hx7.tr hxy)
          have HB5 := Lib.hid ((hxy.block (Array.getElem?_eq_some_iff.1 hb5).1).trans hb5)
          have HBr := Lib.hid ((hxy.block (Array.getElem?_eq_some_iff.1 hbr).1).trans hbr)
          clear e10x HMa hb5 hbr hx7 hxy
          go_wp2_with fail
          refine (slots_All _ _).mono ?_
          rintro e wz ⟨rfl, rfl⟩
          go_wp2_with fail
          have hxz : Ext wy (wy.alloc (.cells (setC st).toArray 62)) := (Ext.rf wy).al _
          have hbz := alloc_new wy (.cells (setC st).toArray 62)
          have hsz : (wy.alloc (.cells (setC st).toArray 62)).heap.size = wy.heap.size + 1 := by simp
          have hX : Ext wr (wy.alloc (.cells (setC st).toArray 62)) := HXy.out.tr hxz
          have hb5 := (hxz.block (Array.getElem?_eq_some_iff.1 HB5.out).1).trans HB5.out
          have hbr := (hxz.block (Array.getElem?_eq_some_iff.1 HBr.out).1).trans HBr.out
          have hl5 := blk_lt HB5.out
          have hlr := blk_lt HBr.out
          have hsy := HXy.out.size
          have hTz := tabAt_below HT.out hw0 (HXw.out.tr hX)
          clear hxz HXy HB5 HBr
          generalize hwz : wy.alloc (.cells (setC st).toArray 62) = wz at *
          clear hwz
          have hrow : wz.ownsRow wr.heap.size 9 1 (.slice (some ⟨gr, 0, none⟩) 2 2) (rowWords dk da []).length ((rowWords dk da []).map strOf) :=
            ⟨by simp, .inr ⟨gr, 2, _, rfl, hgr, hbr, Nat.le_refl _, by unfold maxLen; omega, rfl, rfl⟩⟩
          refine (wpIn_wide (n := 9)).1 ?_
          refine wpIn_rangeFunc_ownG rfl (by decide) (gf := 45) (lb := #[.pointer (some ⟨wy.heap.size, 0, none⟩)]) rfl trivial (enters_of Tryd.func45 (by kernel_rfl) rfl)
            (all_stops 8 (by omega) wy.heap.size wr.heap.size st hS64.out wz (by omega) hbz (by omega) (Nat.lt_of_lt_of_le hw0 HXw.out.size) hTz) (fun h k => h.tr k) (KeepBs.putObj (w := wz) (by omega) (by omega)) (Below.refl _ _) (fun _ => rfl)
            (RowI wr g5 wy.heap.size dk da)
            (fun _ _ _ => False)
            (OwnFrom.and (Own.from (holdsRow_own wr.heap.size g5 56 9 1 (fun pre => (rowWords dk da pre).length) (fun pre => (rowWords dk da pre).map strOf) (fun _ v => v.ownBlock ≠ some wy.heap.size)) _) (OwnFrom.and (ownFrom_below (by omega) (by omega)) fun _ _ _ _ hs hg _ => Nat.lt_of_lt_of_le hs hg.size))
            (fun _ _ _ _ _ hs _ _ => hs)
            ⟨⟨_, hb5, hrow, by simp [Value.ownBlock]; omega⟩, hX, by omega⟩
            (fun (x : F256) => { tmps := #[Value.agg #[.string ⟨⟨nm⟩⟩, .bool inn, .slice a1 ou.length c1, .slice a2 pa.length c2, .slice a3 re.length c3, .slice a4 lo.length c4, .slice a5 code.length c5, .slice a6 lines.length c6, .slice a7 no.length c7, .slice a8 at'.length c8, .slice a9 lv.length c9], .pointer (some ⟨w.heap.size, 0, none⟩), .string ⟨#[]⟩, .pointer (some ⟨bW, 0, none⟩), .int .i64 k, .pointer (some ⟨g5, 0, none⟩), .int .i64 ((x.val : Nat) : Int), Value.agg #[.string ⟨⟨nm⟩⟩, .bool inn, .slice a1 ou.length c1, .slice a2 pa.length c2, .slice a3 re.length c3, .slice a4 lo.length c4, .slice a5 code.length c5, .slice a6 lines.length c6, .slice a7 no.length c7, .slice a8 at'.length c8, .slice a9 lv.length c9], .bool false, .agg #[.pointer none, .slice none 0 0], .pointer (some ⟨bW, 0, none⟩), .pointer (some ⟨w.heap.size, 6, none⟩), .slice a5 code.length c5, .int .i64 code.length, .int .i64 k, .bool true, .int .i64 k, v17, v18, v19, v20, v21, v22, v23, v24, .pointer (some ⟨w.heap.size, 10, none⟩), .slice a9 lv.length c9, .int .i64 k, .agg (setC st).toArray, .func (.func 45) #[] #[.pointer (some ⟨wy.heap.size, 0, none⟩)], .int .i64 ((x.val : Nat) : Int), u31, u32, u33, u34, u35, u36, u37, u38, u39, undef, undef, undef, undef, undef, undef, undef, undef], defers := [] }) ?assign ?body ?done ?stop
          case assign =>
            intro l x W K hK
            gi_wp2
            exact hK
          case body =>
            rintro l pre x W ⟨⟨v, bO, hr, hG⟩, hB, hBW⟩ hlt
            have cO := bO.cell
            have fO := bO.frozen
            have HDx := Lib.hid (fun W' => instr_Digits ((x.val : Nat) : Int) W' (by omega) (by have := x.isLt; omega))
            have hsW := hB.size
            have hwl : (rowWords dk da pre).length ≤ 300 := by simp [rowWords]; omega
            obtain ⟨ro, rc, rfl⟩ := own_form hr
            have hy : Ext W W.drew := (Ext.rf W).dr
            gi_wp2
            refine wpIn_draws (by kernel_rfl) ?_
            refine doIn_op2 0 1 rfl rfl rfl rfl (by kernel_rfl) (fun K hK => ?_) (fun K hK => ?_)
            · skip
              have cOx := hy.has cO; go_simp
              refine hK.out _ _ ?_
              clear hK K
              (try simp only [Act.put, List.setIfInBounds_toArray, List.set_cons_zero, List.set_cons_succ])
              refine doIn_op 1 rfl rfl (by kernel_rfl) (fun K hK => ?_)
              go_simp
              refine hK.out _ _ ?_
              clear hK K
              (try simp only [Act.put, List.setIfInBounds_toArray, List.set_cons_zero, List.set_cons_succ])
              refine doIn_op 2 rfl rfl (by kernel_rfl) (fun K hK => ?_)
              go_simp; refine ⟨trivial, ?_⟩; refine (CallsIn.inRound l (callsIn_wide.2 (HDx.out _))).mono ?_; rintro e we_3 ⟨rfl, hxe⟩; (try dsimp only); replace hy := hy.tr hxe; have hye := hy
              refine hK.out _ _ ?_
              clear hK K
              (try simp only [Act.put, List.setIfInBounds_toArray, List.set_cons_zero, List.set_cons_succ])
              refine doIn_op 3 rfl rfl (by kernel_rfl) (fun K hK => ?_)
              go_simp; replace hy := hy.al (.cells #[.string (strB (decB ((x.val : Nat) : Int)))] 9)
              refine hK.out _ _ ?_
              clear hK K
              (try simp only [Act.put, List.setIfInBounds_toArray, List.set_cons_zero, List.set_cons_succ])
              refine doIn_op 4 rfl rfl (by kernel_rfl) (fun K hK => ?_)
              have hrx := own_ext hr hye; refine stepIn_push (.tmp 31) (.tmp 34) 56 rfl wr.heap.size 9 9 (.string .empty) 1 16 Tryd.underlying56 (by kernel_rfl) rfl (by decide) _ _ _ [strOf (decB ((x.val : Nat) : Int))] rfl hrx _ rfl rfl rfl (by simp [strOf, Value.oneCell']) (by unfold maxLen; omega) (by omega) (by have := hye.size; omega) ?_; intro v1 w1 hr2 hg2; obtain ⟨g1, cap1, rfl⟩ := ownsRow_succ hr2
              refine hK.out _ _ ?_
              clear hK K
              (try simp only [Act.put, List.setIfInBounds_toArray, List.set_cons_zero, List.set_cons_succ])
              refine doIn_op 5 rfl rfl (by kernel_rfl) (fun K hK => ?_)
              have bOe : Boxed _ g5 56 _ := Ext.blk hye bO; have bO1 := bOe.kept hg2.togrownBy (bOe.not_row (by decide) hrx); have cO1 := bO1.cell; have fO1 := bO1.frozen; go_simp
              refine hK.out _ _ ?_
              clear hK K
              (try simp only [Act.put, List.setIfInBounds_toArray, List.set_cons_zero, List.set_cons_succ])
              refine wpAnyIn_done (by kernel_rfl) ?_ _
              exact row_pushed bO hr hG hB hg5 (by omega) hBW hye hr2 hg2 _
            · skip
              go_simp
              refine hK.out _ _ ?_
              clear hK K
              (try simp only [Act.put, List.setIfInBounds_toArray, List.set_cons_zero, List.set_cons_succ])
              refine doIn_op2 0 2 rfl rfl rfl rfl (by kernel_rfl) (fun K hK => ?_) (fun K hK => ?_)
              · skip
                have cOx := hy.has cO; go_simp
                refine hK.out _ _ ?_
                clear hK K
                (try simp only [Act.put, List.setIfInBounds_toArray, List.set_cons_zero, List.set_cons_succ])
                refine doIn_op 2 rfl rfl (by kernel_rfl) (fun K hK => ?_)
                go_simp; refine ⟨trivial, ?_⟩; refine (CallsIn.inRound l (callsIn_wide.2 (HDx.out _))).mono ?_; rintro e we_9 ⟨rfl, hxe⟩; (try dsimp only); replace hy := hy.tr hxe; have hye := hy
                refine hK.out _ _ ?_
                clear hK K
                (try simp only [Act.put, List.setIfInBounds_toArray, List.set_cons_zero, List.set_cons_succ])
                refine doIn_op 3 rfl rfl (by kernel_rfl) (fun K hK => ?_)
                go_simp; replace hy := hy.al (.cells #[.string (strB (decB ((x.val : Nat) : Int)))] 9)
                refine hK.out _ _ ?_
                clear hK K
                (try simp only [Act.put, List.setIfInBounds_toArray, List.set_cons_zero, List.set_cons_succ])
                refine doIn_op 4 rfl rfl (by kernel_rfl) (fun K hK => ?_)
                have hrx := own_ext hr hye; refine stepIn_push (.tmp 31) (.tmp 34) 56 rfl wr.heap.size 9 9 (.string .empty) 1 16 Tryd.underlying56 (by kernel_rfl) rfl (by decide) _ _ _ [strOf (decB ((x.val : Nat) : Int))] rfl hrx _ rfl rfl rfl (by simp [strOf, Value.oneCell']) (by unfold maxLen; omega) (by omega) (by have := hye.size; omega) ?_; intro v1 w1 hr2 hg2; obtain ⟨g1, cap1, rfl⟩ := ownsRow_succ hr2
                refine hK.out _ _ ?_
                clear hK K
                (try simp only [Act.put, List.setIfInBounds_toArray, List.set_cons_zero, List.set_cons_succ])
                refine doIn_op 5 rfl rfl (by kernel_rfl) (fun K hK => ?_)
                have bOe : Boxed _ g5 56 _ := Ext.blk hye bO; have bO1 := bOe.kept hg2.togrownBy (bOe.not_row (by decide) hrx); have cO1 := bO1.cell; have fO1 := bO1.frozen; go_simp
                refine hK.out _ _ ?_
                clear hK K
                (try simp only [Act.put, List.setIfInBounds_toArray, List.set_cons_zero, List.set_cons_succ])
                refine wpAnyIn_done (by kernel_rfl) ?_ _
                exact row_pushed bO hr hG hB hg5 (by omega) hBW hye hr2 hg2 _
              · skip
                go_simp; refine ⟨trivial, ?_⟩; refine (CallsIn.inRound l (callsIn_wide.2 (HDx.out _))).mono ?_; rintro e we_13 ⟨rfl, hxe⟩; (try dsimp only); replace hy := hy.tr hxe; have hye := hy
                refine hK.out _ _ ?_
                clear hK K
                (try simp only [Act.put, List.setIfInBounds_toArray, List.set_cons_zero, List.set_cons_succ])
                refine doIn_op2 0 3 rfl rfl rfl rfl (by kernel_rfl) (fun K hK => ?_) (fun K hK => ?_)
                · skip
                  have cOx := hy.has cO; go_simp
                  refine hK.out _ _ ?_
                  clear hK K
                  (try simp only [Act.put, List.setIfInBounds_toArray, List.set_cons_zero, List.set_cons_succ])
                  refine doIn_op 3 rfl rfl (by kernel_rfl) (fun K hK => ?_)
                  go_simp; replace hy := hy.al (.cells #[.string (strB (decB ((x.val : Nat) : Int)))] 9)
                  refine hK.out _ _ ?_
                  clear hK K
                  (try simp only [Act.put, List.setIfInBounds_toArray, List.set_cons_zero, List.set_cons_succ])
                  refine doIn_op 4 rfl rfl (by kernel_rfl) (fun K hK => ?_)
                  have hrx := own_ext hr hye; refine stepIn_push (.tmp 31) (.tmp 34) 56 rfl wr.heap.size 9 9 (.string .empty) 1 16 Tryd.underlying56 (by kernel_rfl) rfl (by decide) _ _ _ [strOf (decB ((x.val : Nat) : Int))] rfl hrx _ rfl rfl rfl (by simp [strOf, Value.oneCell']) (by unfold maxLen; omega) (by omega) (by have := hye.size; omega) ?_; intro v1 w1 hr2 hg2; obtain ⟨g1, cap1, rfl⟩ := ownsRow_succ hr2
                  refine hK.out _ _ ?_
                  clear hK K
                  (try simp only [Act.put, List.setIfInBounds_toArray, List.set_cons_zero, List.set_cons_succ])
                  refine doIn_op 5 rfl rfl (by kernel_rfl) (fun K hK => ?_)
                  have bOe : Boxed _ g5 56 _ := Ext.blk hye bO; have bO1 := bOe.kept hg2.togrownBy (bOe.not_row (by decide) hrx); have cO1 := bO1.cell; have fO1 := bO1.frozen; go_simp
                  refine hK.out _ _ ?_
                  clear hK K
                  (try simp only [Act.put, List.setIfInBounds_toArray, List.set_cons_zero, List.set_cons_succ])
                  refine wpAnyIn_done (by kernel_rfl) ?_ _
                  exact row_pushed bO hr hG hB hg5 (by omega) hBW hye hr2 hg2 _
                · skip
                  go_simp; replace hy := hy.al (.cells #[.string (strB (decB ((x.val : Nat) : Int)))] 9)
                  refine hK.out _ _ ?_
                  clear hK K
                  (try simp only [Act.put, List.setIfInBounds_toArray, List.set_cons_zero, List.set_cons_succ])
                  refine doIn_op 0 rfl rfl (by kernel_rfl) (fun K hK => ?_)
                  have cOx := hy.has cO; go_simp
                  refine hK.out _ _ ?_
                  clear hK K
                  (try simp only [Act.put, List.setIfInBounds_toArray, List.set_cons_zero, List.set_cons_succ])
                  refine doIn_op 4 rfl rfl (by kernel_rfl) (fun K hK => ?_)
                  have hrx := own_ext hr hye; refine stepIn_push (.tmp 31) (.tmp 34) 56 rfl wr.heap.size 9 9 (.string .empty) 1 16 Tryd.underlying56 (by kernel_rfl) rfl (by decide) _ _ _ [strOf (decB ((x.val : Nat) : Int))] rfl hrx _ rfl rfl rfl (by simp [strOf, Value.oneCell']) (by unfold maxLen; omega) (by omega) (by have := hye.size; omega) ?_; intro v1 w1 hr2 hg2; obtain ⟨g1, cap1, rfl⟩ := ownsRow_succ hr2
                  refine hK.out _ _ ?_
                  clear hK K
                  (try simp only [Act.put, List.setIfInBounds_toArray, List.set_cons_zero, List.set_cons_succ])
                  refine doIn_op 5 rfl rfl (by kernel_rfl) (fun K hK => ?_)
                  have bOe : Boxed _ g5 56 _ := Ext.blk hye bO; have bO1 := bOe.kept hg2.togrownBy (bOe.not_row (by decide) hrx); have cO1 := bO1.cell; have fO1 := bO1.frozen; go_simp
                  refine hK.out _ _ ?_
                  clear hK K
                  (try simp only [Act.put, List.setIfInBounds_toArray, List.set_cons_zero, List.set_cons_succ])
                  refine wpAnyIn_done (by kernel_rfl) ?_ _
                  exact row_pushed bO hr hG hB hg5 (by omega) hBW hye hr2 hg2 _
          case done =>
            rintro D ys W hD hys ⟨⟨v, bO, hr, hG⟩, hB, hBW⟩ hK
            have cO := bO.cell
            have hyl : ys.length ≤ 256 := by
              have := congrArg List.length hys
              rw [List.length_map] at this
              have := slotsOf_len st 256
              omega
            have hJ := line_row (dk := dk) (da := da) hys
            have hwl : (rowWords dk da ys).length ≤ 300 := by simp [rowWords]; omega
            obtain ⟨g, cap, rfl⟩ := own_some hr (by simp [rowWords])
            obtain ⟨ao', cap', e1, hn1, hn2, hC⟩ := Cells.own hr
            simp only [Value.slice.injEq, true_and] at e1
            obtain ⟨rfl, rfl⟩ := e1
            have hsW := hB.size
            have hrl := rowsT_len (at' := at') (live := lv) (n := k) HF.out.2.2.2.2.1 (by omega)
            have hsl := slT_len st
            have hjl : (Lib.join (rowWords dk da ys) [32]).length ≤ 9000 := by rw [hJ]; simp only [List.length_append, List.length_cons]; omega
            have hk8 : k * 8100 ≤ 100000 * 8100 := Nat.mul_le_mul_right _ (by omega)
            have HLn := Lib.hid (wr_line bW bW (rowsT at' lv k) g 0 (rowWords dk da ys).length cap (rowWords dk da ys) W (isWr_ext HWr.out hB) (fun j x hj => by
                have := hC.2 g 0 rfl j (.string x) (by rw [List.getElem?_map] at hj ⊢; cases hq : (rowWords dk da ys)[j]? with
                  | none => rw [hq] at hj; cases hj
                  | some y => rw [hq] at hj; cases hj; rfl)
                exact this) (hr.lt g rfl).2 (by simp) hn1 (by omega) (by omega) (by have := HXr.out.size; omega))
            rw [lineB, hJ] at HLn
            have HM : Hid (∀ E, E ∈ D :: Ds → bW < E ∧ W.heap[E]? = some (.deferred (some []))) := Lib.hid fun E hE => by
              rcases List.mem_cons.1 hE with rfl | hE
              · exact ⟨by have := HXr.out.size; omega, hK⟩
              · obtain ⟨h1, h2⟩ := HDr.out.2 E hE
                exact ⟨h1, (hB.block E (blk_lt h2)).trans h2⟩
            have HN2 : Hid ((D :: Ds).Nodup) := Lib.hid (List.nodup_cons.2 ⟨fun h => by have := blk_lt (HDr.out.2 D h).2; omega, HDr.out.1⟩)
            have HIs := Lib.hid (isWr_ext HWr.out hB)
            have HBW := Lib.hid (Below.trans HXr.out (hB.mono (show bW ≤ wr.heap.size by have := HXr.out.size; omega)))
            clear hys hJ hr hC hB hG bO hK hD hrl hsl hjl hk8 hsW hBW
            go_wp2_with fail
            refine HLn.out.mono ?_
            rintro e w3 ⟨rfl, ⟨hw3, hb3⟩, hk3⟩
            have HK3 := Lib.hid hk3
            have HW3 := Lib.hid hw3
            have HB3 := Lib.hid hb3
            clear hk3 hw3 hb3 cO
            go_wp2_with fail
            refine ⟨⟨k + 1, D :: Ds, _, _, _, _, _, _, _, _, _, _, _, _, _, _, _, _, _, _, _, _, _, _, _, _, _, _, _, _, hlt, Lib.hid (.inr ?_), Lib.hid fun h => by omega, Lib.hid (HBW.out.trans HB3.out), Lib.hid ⟨HN2.out, fun E hE => ?_⟩, rfl⟩, (by show code.length - ((k : Int) + 1).toNat < code.length - ((k : Int)).toNat; omega)⟩
            · rw [HRow.out]
              have := HW3.out
              simpa using this
            · obtain ⟨h1, h2⟩ := HM.out E hE
              exact ⟨h1, (HK3.out.blk E (blk_lt h2) (by omega) (isWr_mark HIs.out h2)).trans h2⟩
          case stop =>
            rintro D c pre W _ _ h _
            exact h.elim
        · have e9' := e9.out
          have hy : Ext wr wr.drew := (Ext.rf wr).dr
          have hdr : wr.drew.heap.size = wr.heap.size := rfl
          refine wp_region_ext (fun W => Ext wr W) (by kernel_rfl) hy (fun hS => ?_)
          refine take_op 0 (v := ?_) rfl (by kernel_rfl) (by kernel_rfl) (by kernel_rfl) (Or.inl ⟨by rfl, ?_⟩) (by assumption) ?_
          rotate_left 1
          · (intro W hS; go_simp; try with_reducible rfl)
          (try simp only [Act.put, List.setIfInBounds_toArray, List.set_cons_zero, List.set_cons_succ])
          refine take_op 2 (v := ?_) rfl (by kernel_rfl) (by kernel_rfl) (by kernel_rfl) (Or.inl ⟨by rfl, ?_⟩) (by assumption) ?_
          rotate_left 1
          · (intro W hS; go_simp; try with_reducible rfl)
          (try simp only [Act.put, List.setIfInBounds_toArray, List.set_cons_zero, List.set_cons_succ])
          refine take_op 3 (v := ?_) rfl (by kernel_rfl) (by kernel_rfl) (by kernel_rfl) (Or.inl ⟨by rfl, ?_⟩) (by assumption) ?_
          rotate_left 1
          · (intro W hS; have e9x := Ext.has hS e9.out; go_simp; try with_reducible rfl)
          (try simp only [Act.put, List.setIfInBounds_toArray, List.set_cons_zero, List.set_cons_succ])
          refine take_op 4 (v := ?_) rfl (by kernel_rfl) (by kernel_rfl) (by kernel_rfl) (Or.inl ⟨by rfl, ?_⟩) (by assumption) ?_
          rotate_left 1
          · (intro W hS; go_simp; try with_reducible rfl)
          (try simp only [Act.put, List.setIfInBounds_toArray, List.set_cons_zero, List.set_cons_succ])
          refine do_op2 1 8 rfl rfl (by kernel_rfl) (fun K hK => ?_) (fun K hK => ?_)
          · skip
            go_simp; (with_reducible refine (HDk.out _).mono ?_); rintro e wA_1 ⟨rfl, hxA⟩
            refine hK.out _ _ (hy.tr hxA) (fun hS => ?_)
            clear hK K
            (try simp only [Act.put, List.setIfInBounds_toArray, List.set_cons_zero, List.set_cons_succ])
            (try replace hbx := Ext.blk hxA hbx); (try replace hrw := Ext.blk hxA hrw); replace hy := hy.tr hxA
            refine do_op2 5 8 rfl rfl (by kernel_rfl) (fun K hK => ?_) (fun K hK => ?_)
            · skip
              go_simp; (with_reducible refine (HDa.out _ (HXw.out.tr hy)).mono ?_); rintro e wA_2 ⟨rfl, hxA⟩
              refine hK.out _ _ (hy.tr hxA) (fun hS => ?_)
              clear hK K
              (try simp only [Act.put, List.setIfInBounds_toArray, List.set_cons_zero, List.set_cons_succ])
              (try replace hbx := Ext.blk hxA hbx); (try replace hrw := Ext.blk hxA hrw); replace hy := hy.tr hxA
              refine do_op2 6 8 rfl rfl (by kernel_rfl) (fun K hK => ?_) (fun K hK => ?_)
              · skip
                go_simp; (with_reducible refine (HDb.out _).mono ?_); rintro e wA_3 ⟨rfl, hxA⟩
                refine hK.out _ _ (hy.tr hxA) (fun hS => ?_)
                clear hK K
                (try simp only [Act.put, List.setIfInBounds_toArray, List.set_cons_zero, List.set_cons_succ])
                (try replace hbx := Ext.blk hxA hbx); (try replace hrw := Ext.blk hxA hrw); replace hy := hy.tr hxA
                refine do_op2 7 8 rfl rfl (by kernel_rfl) (fun K hK => ?_) (fun K hK => ?_)
                · skip
                  go_simp; refine K_alloc ?_; intro wB_4 hxB hrw
                  refine hK.out _ _ (hy.tr hxB) (fun hS => ?_)
                  clear hK K
                  (try simp only [Act.put, List.setIfInBounds_toArray, List.set_cons_zero, List.set_cons_succ])
                  have h7 := hy.size; (try (have hne := blk_lt hbx; replace hbx := Ext.blk hxB hbx)); replace hy := hy.tr hxB
                  refine do_op 8 rfl (by kernel_rfl) (fun K hK => ?_)
                  go_simp; (first | refine K_alloc ?_ | refine K_allocD ?_); intro wC_5 hxC hbx
                  refine hK.out _ _ (hy.tr hxC) (fun hS => ?_)
                  clear hK K
                  (try simp only [Act.put, List.setIfInBounds_toArray, List.set_cons_zero, List.set_cons_succ])
                  have h8 := hy.size; (try (have hne := blk_lt hrw; replace hrw := Ext.blk hxC hrw)); replace hy := hy.tr hxC
                  refine do_op 9 rfl (by kernel_rfl) (fun K hK => ?_)
                  have hcx := blk hbx 0 rfl; have hfx := Lib.frozen_of_heap hbx 0; go_simp; refine K_set hbx ?_; intro wD_6 hxD hbD hnD
                  refine hK.out _ _ (Below.trans hy (hxD.mono h8)) (fun hS => ?_)
                  clear hK K
                  (try simp only [Act.put, List.setIfInBounds_toArray, List.set_cons_zero, List.set_cons_succ])
                  replace hy := Below.trans hy (hxD.mono h8)
                  refine wpAnyH_done (by kernel_rfl) ?_ _
                  refine NoPanic.normal ?_
                  exact ⟨rfl, _, _, _, _, _, _, _, _, _, _, Lib.hid ⟨hy, h8, h7, by omega, hbD, (hnD _ (by omega)).trans hrw⟩, rfl⟩
                · skip
                  go_simp; (first | refine K_alloc ?_ | refine K_allocD ?_); intro wC_7 hxC hbx
                  refine hK.out _ _ (hy.tr hxC) (fun hS => ?_)
                  clear hK K
                  (try simp only [Act.put, List.setIfInBounds_toArray, List.set_cons_zero, List.set_cons_succ])
                  have h8 := hy.size; (try (have hne := blk_lt hrw; replace hrw := Ext.blk hxC hrw)); replace hy := hy.tr hxC
                  refine do_op 7 rfl (by kernel_rfl) (fun K hK => ?_)
                  go_simp; refine K_alloc ?_; intro wB_8 hxB hrw
                  refine hK.out _ _ (hy.tr hxB) (fun hS => ?_)
                  clear hK K
                  (try simp only [Act.put, List.setIfInBounds_toArray, List.set_cons_zero, List.set_cons_succ])
                  have h7 := hy.size; (try (have hne := blk_lt hbx; replace hbx := Ext.blk hxB hbx)); replace hy := hy.tr hxB
                  refine do_op 9 rfl (by kernel_rfl) (fun K hK => ?_)
                  have hcx := blk hbx 0 rfl; have hfx := Lib.frozen_of_heap hbx 0; go_simp; refine K_set hbx ?_; intro wD_9 hxD hbD hnD
                  refine hK.out _ _ (Below.trans hy (hxD.mono h8)) (fun hS => ?_)
                  clear hK K
                  (try simp only [Act.put, List.setIfInBounds_toArray, List.set_cons_zero, List.set_cons_succ])
                  replace hy := Below.trans hy (hxD.mono h8)
                  refine wpAnyH_done (by kernel_rfl) ?_ _
                  refine NoPanic.normal ?_
                  exact ⟨rfl, _, _, _, _, _, _, _, _, _, _, Lib.hid ⟨hy, h8, h7, by omega, hbD, (hnD _ (by omega)).trans hrw⟩, rfl⟩
              · skip
                go_simp; (first | refine K_alloc ?_ | refine K_allocD ?_); intro wC_10 hxC hbx
                refine hK.out _ _ (hy.tr hxC) (fun hS => ?_)
                clear hK K
                (try simp only [Act.put, List.setIfInBounds_toArray, List.set_cons_zero, List.set_cons_succ])
                have h8 := hy.size; (try (have hne := blk_lt hrw; replace hrw := Ext.blk hxC hrw)); replace hy := hy.tr hxC
                refine do_op 6 rfl (by kernel_rfl) (fun K hK => ?_)
                go_simp; (with_reducible refine (HDb.out _).mono ?_); rintro e wA_11 ⟨rfl, hxA⟩
                refine hK.out _ _ (hy.tr hxA) (fun hS => ?_)
                clear hK K
                (try simp only [Act.put, List.setIfInBounds_toArray, List.set_cons_zero, List.set_cons_succ])
                (try replace hbx := Ext.blk hxA hbx); (try replace hrw := Ext.blk hxA hrw); replace hy := hy.tr hxA
                refine do_op 7 rfl (by kernel_rfl) (fun K hK => ?_)
                go_simp; refine K_alloc ?_; intro wB_12 hxB hrw
                refine hK.out _ _ (hy.tr hxB) (fun hS => ?_)
                clear hK K
                (try simp only [Act.put, List.setIfInBounds_toArray, List.set_cons_zero, List.set_cons_succ])
                have h7 := hy.size; (try (have hne := blk_lt hbx; replace hbx := Ext.blk hxB hbx)); replace hy := hy.tr hxB
                refine do_op 9 rfl (by kernel_rfl) (fun K hK => ?_)
                have hcx := blk hbx 0 rfl; have hfx := Lib.frozen_of_heap hbx 0; go_simp; refine K_set hbx ?_; intro wD_13 hxD hbD hnD
                refine hK.out _ _ (Below.trans hy (hxD.mono h8)) (fun hS => ?_)
                clear hK K
                (try simp only [Act.put, List.setIfInBounds_toArray, List.set_cons_zero, List.set_cons_succ])
                replace hy := Below.trans hy (hxD.mono h8)
                refine wpAnyH_done (by kernel_rfl) ?_ _
                refine NoPanic.normal ?_
                exact ⟨rfl, _, _, _, _, _, _, _, _, _, _, Lib.hid ⟨hy, h8, h7, by omega, hbD, (hnD _ (by omega)).trans hrw⟩, rfl⟩
            · skip
              go_simp; (first | refine K_alloc ?_ | refine K_allocD ?_); intro wC_14 hxC hbx
              refine hK.out _ _ (hy.tr hxC) (fun hS => ?_)
              clear hK K
              (try simp only [Act.put, List.setIfInBounds_toArray, List.set_cons_zero, List.set_cons_succ])
              have h8 := hy.size; (try (have hne := blk_lt hrw; replace hrw := Ext.blk hxC hrw)); replace hy := hy.tr hxC
              refine do_op 5 rfl (by kernel_rfl) (fun K hK => ?_)
              go_simp; (with_reducible refine (HDa.out _ (HXw.out.tr hy)).mono ?_); rintro e wA_15 ⟨rfl, hxA⟩
              refine hK.out _ _ (hy.tr hxA) (fun hS => ?_)
              clear hK K
              (try simp only [Act.put, List.setIfInBounds_toArray, List.set_cons_zero, List.set_cons_succ])
              (try replace hbx := Ext.blk hxA hbx); (try replace hrw := Ext.blk hxA hrw); replace hy := hy.tr hxA
              refine do_op 6 rfl (by kernel_rfl) (fun K hK => ?_)
              go_simp; (with_reducible refine (HDb.out _).mono ?_); rintro e wA_16 ⟨rfl, hxA⟩
              refine hK.out _ _ (hy.tr hxA) (fun hS => ?_)
              clear hK K
              (try simp only [Act.put, List.setIfInBounds_toArray, List.set_cons_zero, List.set_cons_succ])
              (try replace hbx := Ext.blk hxA hbx); (try replace hrw := Ext.blk hxA hrw); replace hy := hy.tr hxA
              refine do_op 7 rfl (by kernel_rfl) (fun K hK => ?_)
              go_simp; refine K_alloc ?_; intro wB_17 hxB hrw
              refine hK.out _ _ (hy.tr hxB) (fun hS => ?_)
              clear hK K
              (try simp only [Act.put, List.setIfInBounds_toArray, List.set_cons_zero, List.set_cons_succ])
              have h7 := hy.size; (try (have hne := blk_lt hbx; replace hbx := Ext.blk hxB hbx)); replace hy := hy.tr hxB
              refine do_op 9 rfl (by kernel_rfl) (fun K hK => ?_)
              have hcx := blk hbx 0 rfl; have hfx := Lib.frozen_of_heap hbx 0; go_simp; refine K_set hbx ?_; intro wD_18 hxD hbD hnD
              refine hK.out _ _ (Below.trans hy (hxD.mono h8)) (fun hS => ?_)
              clear hK K
              (try simp only [Act.put, List.setIfInBounds_toArray, List.set_cons_zero, List.set_cons_succ])
              replace hy := Below.trans hy (hxD.mono h8)
              refine wpAnyH_done (by kernel_rfl) ?_ _
              refine NoPanic.normal ?_
              exact ⟨rfl, _, _, _, _, _, _, _, _, _, _, Lib.hid ⟨hy, h8, h7, by omega, hbD, (hnD _ (by omega)).trans hrw⟩, rfl⟩
          · skip
            go_simp; (first | refine K_alloc ?_ | refine K_allocD ?_); intro wC_19 hxC hbx
            refine hK.out _ _ (hy.tr hxC) (fun hS => ?_)
            clear hK K
            (try simp only [Act.put, List.setIfInBounds_toArray, List.set_cons_zero, List.set_cons_succ])
            have h8 := hy.size; (try (have hne := blk_lt hrw; replace hrw := Ext.blk hxC hrw)); replace hy := hy.tr hxC
            refine do_op 1 rfl (by kernel_rfl) (fun K hK => ?_)
            go_simp; (with_reducible refine (HDk.out _).mono ?_); rintro e wA_20 ⟨rfl, hxA⟩
            refine hK.out _ _ (hy.tr hxA) (fun hS => ?_)
            clear hK K
            (try simp only [Act.put, List.setIfInBounds_toArray, List.set_cons_zero, List.set_cons_succ])
            (try replace hbx := Ext.blk hxA hbx); (try replace hrw := Ext.blk hxA hrw); replace hy := hy.tr hxA
            refine do_op 5 rfl (by kernel_rfl) (fun K hK => ?_)
            go_simp; (with_reducible refine (HDa.out _ (HXw.out.tr hy)).mono ?_); rintro e wA_21 ⟨rfl, hxA⟩
            refine hK.out _ _ (hy.tr hxA) (fun hS => ?_)
            clear hK K
            (try simp only [Act.put, List.setIfInBounds_toArray, List.set_cons_zero, List.set_cons_succ])
            (try replace hbx := Ext.blk hxA hbx); (try replace hrw := Ext.blk hxA hrw); replace hy := hy.tr hxA
            refine do_op 6 rfl (by kernel_rfl) (fun K hK => ?_)
            go_simp; (with_reducible refine (HDb.out _).mono ?_); rintro e wA_22 ⟨rfl, hxA⟩
            refine hK.out _ _ (hy.tr hxA) (fun hS => ?_)
            clear hK K
            (try simp only [Act.put, List.setIfInBounds_toArray, List.set_cons_zero, List.set_cons_succ])
            (try replace hbx := Ext.blk hxA hbx); (try replace hrw := Ext.blk hxA hrw); replace hy := hy.tr hxA
            refine do_op 7 rfl (by kernel_rfl) (fun K hK => ?_)
            go_simp; refine K_alloc ?_; intro wB_23 hxB hrw
            refine hK.out _ _ (hy.tr hxB) (fun hS => ?_)
            clear hK K
            (try simp only [Act.put, List.setIfInBounds_toArray, List.set_cons_zero, List.set_cons_succ])
            have h7 := hy.size; (try (have hne := blk_lt hbx; replace hbx := Ext.blk hxB hbx)); replace hy := hy.tr hxB
            refine do_op 9 rfl (by kernel_rfl) (fun K hK => ?_)
            have hcx := blk hbx 0 rfl; have hfx := Lib.frozen_of_heap hbx 0; go_simp; refine K_set hbx ?_; intro wD_24 hxD hbD hnD
            refine hK.out _ _ (Below.trans hy (hxD.mono h8)) (fun hS => ?_)
            clear hK K
            (try simp only [Act.put, List.setIfInBounds_toArray, List.set_cons_zero, List.set_cons_succ])
            replace hy := Below.trans hy (hxD.mono h8)
            refine wpAnyH_done (by kernel_rfl) ?_ _
            refine NoPanic.normal ?_
            exact ⟨rfl, _, _, _, _, _, _, _, _, _, _, Lib.hid ⟨hy, h8, h7, by omega, hbD, (hnD _ (by omega)).trans hrw⟩, rfl⟩
      · obtain rfl : k = code.length := by omega
        have hltB : decide ((code.length : Int) < (code.length : Int)) = false := decide_eq_false (by omega)
        have hltB2 : decide (code.length < code.length) = false := decide_eq_false (by omega)
        have e8 : Hid (wr.cell? ⟨w.heap.size, 8, none⟩ = some (.slice a7 no.length c7)) := Lib.hid ((HXr.out.cell (p := ⟨w.heap.size, 8, none⟩) hbw).trans k8.out)
        have HXw : Hid (Ext w wr) := Lib.hid (Below.trans HX0.out (HXr.out.mono (Nat.le_of_lt hbw)))
        have HTx : Hid (∀ W, Ext w W → Calls Tryd.prog 26 #[.slice a7 no.length c7] W fun e W' => e = .returned (.string ⟨⟨treeText (no.map nodeOf) no.length⟩⟩) ∧ Ext W W') := Lib.hid fun W hW => by
          have hr := rep_below1 HNr.out hW
          obtain ⟨ao, cap, he, hC⟩ := nodes_arg (W := W) (who := W0) (L := L0) (h := ⟨[], []⟩) (es := encL tN no) (l := no.map nodeOf) (vs := [.slice a7 no.length c7]) (nodesX_enc (l := no)) rfl fun i t v h1 h2 => by
            match i with
            | 0 =>
              cases h1
              cases h2
              exact ⟨_, rfl, hr⟩
            | i + 1 => simp at h1
          simp only [List.cons.injEq, and_true] at he
          rw [he]
          have := tree_Text ao cap (no.map nodeOf) W hC (by rw [List.length_map]; exact HF.out.2.1) HF.out.2.2.2.2.2.2.1
          rw [List.length_map] at this ⊢
          exact this
        have HSt : Hid (∀ W, Ext wr W → Calls Tryd.prog 27 #[.pointer (some ⟨bW, 0, none⟩)] W fun e W' => e = .returned (.string ⟨⟨rowsT at' lv code.length⟩⟩) ∧ Below bW W W' ∧ ∀ E : Nat, W.heap[E]? = some (.deferred (some [])) → W'.heap[E]? = some (.deferred (some []))) := Lib.hid fun W hW => by
          rcases Nat.eq_zero_or_pos code.length with h0 | h0
          · have hz := HZr.out h0
            rw [h0, show rowsT at' lv 0 = [] from rfl]
            refine (wr_String_nil bW bW _ W ((hW.block (blk_lt hz)).trans hz)).mono ?_
            rintro e W' ⟨rfl, h1, h2⟩
            exact ⟨rfl, h1, fun E hE => (h2 E).trans hE⟩
          · have hne : rowsT at' lv code.length ≠ [] := by
              obtain ⟨m, hm⟩ : ∃ m, code.length = m + 1 := ⟨code.length - 1, by omega⟩
              rw [hm, rowsT_succ, rowT]
              intro h
              have := congrArg List.length h
              simp at this
            have hi := isWr_ext HWr.out hW
            refine (wr_StringK bW bW _ W hi hne).mono ?_
            rintro e W' ⟨rfl, h1, h2⟩
            exact ⟨rfl, h1, fun E hE => (h2 E (isWr_mark hi hE)).trans hE⟩
        have hlen1 : (treeText (no.map nodeOf) no.length).length ≤ 30000000000 := by
          have h1 := treeText_len HF.out.2.2.2.2.2.2.1 (by rw [List.length_map]; exact HF.out.2.1) no.length (by rw [List.length_map]; exact Nat.le_refl _)
          dsimp only at h1
          have h2 : no.length * 300000 ≤ 100000 * 300000 := Nat.mul_le_mul_right _ HF.out.2.1
          omega
        have hlen2 : (rowsT at' lv code.length).length ≤ 1000000000 := by
          have h1 := rowsT_len (at' := at') (live := lv) (n := code.length) HF.out.2.2.2.2.1 (by omega)
          have h2 : code.length * 8100 ≤ 100000 * 8100 := Nat.mul_le_mul_right _ HN
          omega
        have HDs := Lib.hid HDr.out
        have HTab : Hid (tabT code.length no at' lv = treeText (no.map nodeOf) no.length ++ rowsT at' lv code.length) := Lib.hid (if_neg (by rw [hb]; decide))
        generalize treeText (no.map nodeOf) no.length = tt at *
        generalize rowsT at' lv code.length = rt at *
        have hcat : ¬ 9223372036854775807 < (⟨⟨tt⟩⟩ : ByteArray).size + (⟨⟨rt⟩⟩ : ByteArray).size := by show ¬ 9223372036854775807 < tt.length + rt.length; omega
        have hcat2 : ¬ 9223372036854775807 < tt.length + rt.length := by omega
        go_wp2_with fail
        have e8' := e8.out
        go_region_held3 (fun w' => w'.cell? ⟨w.heap.size, 8, none⟩ = some (.slice a7 no.length c7)) (first | assumption | (refine Ext.has (a := wr) ?_ e8.out; (repeat' (first | exact Ext.rf _ | refine Ext.al ?_ _ | refine Ext.dr ?_ | refine Ext.trh (by assumption) ?_)); done))
          (first | (go_at_call 26; refine (HTx.out _ (HXw.out.tr ?_)).mono ?_; (repeat' (first | exact Ext.rf _ | refine Ext.al ?_ _ | refine Ext.dr ?_ | refine Ext.trh (by assumption) ?_)); rintro e va ⟨rfl, hxa⟩; have Hva := Lib.hid hxa; clear hxa; have e8' : va.cell? ⟨w.heap.size, 8, none⟩ = _ := Ext.has (a := wr) (by (repeat' (first | exact Ext.rf _ | refine Ext.al ?_ _ | refine Ext.dr ?_ | refine Ext.trh (by assumption) ?_))) e8.out) | (go_at_call 27; refine (HSt.out _ ?_).mono ?_; (repeat' (first | exact Ext.rf _ | refine Ext.al ?_ _ | refine Ext.dr ?_ | refine Ext.trh (by assumption) ?_)); rintro e vb ⟨rfl, hxb, hmb⟩; have Hvb := Lib.hid hxb; have Hmb := Lib.hid hmb; have e8'' : vb.cell? ⟨w.heap.size, 8, none⟩ = _ := (hxb.cell (p := ⟨w.heap.size, 8, none⟩) hbw).trans e8'; clear hxb hmb))
        have HXa : Ext wr va := by (repeat' (first | exact Ext.rf _ | refine Ext.al ?_ _ | refine Ext.dr ?_ | refine Ext.trh (by assumption) ?_))
        have HFin : Hid (∀ W', Below w.heap.size vb W' → Ext w W') := Lib.hid fun W' h => (Below.trans (HXw.out.tr HXa) (Hvb.out.mono (Nat.le_of_lt hbw))).trans h
        have HMk : Hid (∀ D ∈ Ds, w.heap.size ≤ D ∧ vb.heap[D]? = some (.deferred (some []))) := Lib.hid fun D hD => by
          obtain ⟨h1, h2⟩ := HDs.out.2 D hD
          exact ⟨by omega, Hmb.out D ((HXa.block (blk_lt h2)).trans h2)⟩
        clear e8' e8'' HXa
        go_wp2_with fail
        refine leaves_marks (B := w.heap.size) Ds vb HDs.out.1 HMk.out fun W' hW' => ⟨_, results_tmp rfl _ _ _, ?_, HFin.out W' hW'⟩
        rw [HTab.out]
        show Ending.returned (.string (strB tt ++ strB rt)) = .returned (.string (strB (tt ++ rt)))
        rw [strB_app]
end Go.Proofs.YtkdnbnkbnegckaaDoor
