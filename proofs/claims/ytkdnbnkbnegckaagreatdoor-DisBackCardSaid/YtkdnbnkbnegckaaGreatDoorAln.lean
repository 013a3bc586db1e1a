/- strings.SplitSeq at a line feed. asm.lines: the iterator over a text's lines. asm.Line: the instruction and the line of a line of text. -/
import Derived.Test.YtkdnbnkbnegckaaGreatDoorSqx
import Derived.Test.YtkdnbnkbnegckaaGreatDoorAhd
import Derived.Test.YtkdnbnkbnegckaaGreatDoorShelf
import Derived.Test.YtkdnbnkbnegckaaGreatDoorInstrR
namespace Go.Proofs.YtkdnbnkbnegckaaGreatDoor
open Go.RowKit Go.Shelf
set_option maxRecDepth 100000
set_option linter.unusedVariables false
attribute [local go_sem] Oper.semAt_some
/-- The pieces between the line feeds. -/
def splitNl : List UInt8 → List (List UInt8)
  | [] => [[]]
  | c :: s => if c = 10 then [] :: splitNl s else match splitNl s with
    | [] => [[c]]
    | p :: ps => (c :: p) :: ps
theorem splitNl_ne : ∀ s, splitNl s ≠ []
  | [] => by simp [splitNl]
  | c :: s => by
    rw [splitNl]
    split
    · simp
    · split <;> simp
theorem nl_index : ∀ s : List UInt8, (Lib.indexByte s 10 = -1 ∧ splitNl s = [s]) ∨ ∃ k : Nat, Lib.indexByte s 10 = k ∧ k < s.length ∧ splitNl s = s.take k :: splitNl (s.drop (k + 1))
  | [] => .inl ⟨rfl, rfl⟩
  | c :: s => by
    by_cases h : c = 10
    · subst h
      exact .inr ⟨0, rfl, by simp, by simp [splitNl]⟩
    · have hb : (c == 10) = false := by simpa using h
      rcases nl_index s with ⟨h1, h2⟩ | ⟨k, h1, h2, h3⟩
      · exact .inl ⟨by rw [Lib.indexByte, hb, h1]; rfl, by rw [splitNl, if_neg h, h2]⟩
      · refine .inr ⟨k + 1, ?_, by simpa using h2, ?_⟩
        · rw [Lib.indexByte, hb, h1]
          have : ((k : Int) == -1) = false := by rw [beq_eq_false_iff_ne]; omega
          simp [this]
        · rw [splitNl, if_neg h, h3]
          simp
theorem splitNl_len (s : List UInt8) : (splitNl s).length ≤ s.length + 1 := by
  induction s with
  | nil => simp [splitNl]
  | cons c s ih =>
    rw [splitNl]
    split
    · simpa using ih
    · split <;> simp_all <;> omega
def boxLen (B : Nat) (w : World) : Nat := match w.cell? ⟨B, 0, none⟩ with
  | some (.string b) => b.size
  | _ => 0
theorem boxLen_is {B : Nat} {w : World} {b : ByteArray} {t : TypeId} {fz : Nat × Nat} (h : w.heap[B]? = some (.cells #[.string b] t fz)) : boxLen B w = b.size := by
  rw [boxLen, blk h 0 rfl]
  rfl
def X3 (Bs Bp Bv : Nat) : Nat → Prop := fun k => k = Bs ∨ k = Bp ∨ k = Bv
set_option maxHeartbeats 4000000 in
theorem split_in (n : Nat) (hn : 1 ≤ n) (Bs Bp Bv : Nat) (hps : Bp ≠ Bs) (hvs : Bv ≠ Bs) (s : List UInt8) (hl : s.length ≤ 4398046511104) (m : Nat) (W1 : World) (hm : m ≤ W1.heap.size)
    (hBs : W1.heap[Bs]? = some (.cells #[.string (strB s)] 9 (0, 0))) (hBp : W1.heap[Bp]? = some (.cells #[.string ⟨#[10]⟩] 9 (0, 0))) (hBv : W1.heap[Bv]? = some (.cells #[.int .i64 0] 3 (0, 0))) :
    SeqX Fence.wide n Tryz.prog 109 #[.pointer (some ⟨Bp, 0, none⟩), .pointer (some ⟨Bs, 0, none⟩), .pointer (some ⟨Bv, 0, none⟩)] (fun x : List UInt8 => #[.string (strB x)]) (X3 Bs Bp Bv) m (splitNl s) W1 := by
  intro lp J Jx hJ hJx hY h0
  have HJ := Lib.hid hJ
  have HY := Lib.hid hY
  have HM := Lib.hid hm
  clear hJ hY hJx hm
  refine callsIn_of_wp Tryz.func109 rfl trivial ?_ rfl
  simp only [Tryz.ntmps109, List.size_toArray, List.length_cons, List.length_nil, Nat.reduceAdd, Nat.reduceSub, Array.replicate_succ, Array.replicate_zero, List.push_toArray, List.append_toArray, List.nil_append, List.cons_append]
  have cp := blk hBp 0 rfl
  gi_wp2
  gi_loopw [7] (fun _ wr => ∃ (i : Nat) (r : List UInt8), Hid ((splitNl s).drop i = splitNl r) ∧ r.length ≤ s.length ∧ J i wr ∧ Hid (m ≤ wr.heap.size) ∧ Hid (wr.heap[Bs]? = some (.cells #[.string (strB r)] 9 (0, 0))) ∧ Hid (wr.heap[Bp]? = some (.cells #[.string ⟨#[10]⟩] 9 (0, 0))) ∧ Hid (wr.heap[Bv]? = some (.cells #[.int .i64 0] 3 (0, 0))))
    (fun _ wr => boxLen Bs wr)
  case atStart => exact ⟨0, s, Lib.hid (List.drop_zero), Nat.le_refl _, h0, HM, hBs, hBp, hBv⟩
  case round =>
    obtain ⟨i, r, HD, hrl, hJi, HMi, GS, GP, GV⟩ := hrel
    have cs := blk GS.out 0 rfl
    have cp := blk GP.out 0 rfl
    have cv := blk GV.out 0 rfl
    have HIX := Lib.hid (fun W => Tryz.strings_Index_one (strB r) 10 W)
    rw [strB_toL] at HIX
    have hsz : (strB r).size = r.length := strB_size r
    have HML := Lib.hid (boxLen_is GS.out)
    rcases nl_index r with ⟨h1, h2⟩ | ⟨k, h1, h2, h3⟩
    · rw [h1] at HIX
      have hix : (splitNl s).drop i = [r] := HD.out.trans h2
      have hi : i < (splitNl s).length := by
        rcases Nat.lt_or_ge i (splitNl s).length with h | h
        · exact h
        · rw [List.drop_eq_nil_of_le h] at hix; cases hix
      have hlast : (splitNl s).length = i + 1 := by have := congrArg List.length hix; simp at this; omega
      have hxi : (splitNl s)[i] = r := by
        rw [List.drop_eq_getElem_cons hi] at hix
        exact (List.cons.inj hix).1
      obtain ⟨fn, tmps, assign, body, hy, hR⟩ := HY.out i hi wr hJi HMi.out
      rw [hxi] at hy
      have HLS := Lib.hid hlast
      clear h1 h2 hix hi hlast hxi
      gi_wp2_with (refine ⟨trivial, ?_⟩; gi_at_call 111; refine (callsIn_wide.2 (HIX.out _)).mono ?_; rintro e w' ⟨rfl, rfl⟩)
      refine hR.mono ?_
      rintro e W3 (⟨rfl, hJ3, hk3⟩ | ⟨rfl, hJx3, -⟩)
      · gi_wp2
        go_end0
        exact ⟨⟨_, rfl⟩, .inl (by rw [HLS.out]; exact hJ3)⟩
      · gi_wp2
        go_end0
        exact ⟨⟨_, rfl⟩, .inr hJx3⟩
    · rw [h1] at HIX
      have hix : (splitNl s).drop i = r.take k :: splitNl (r.drop (k + 1)) := HD.out.trans h3
      have hi : i < (splitNl s).length := by
        rcases Nat.lt_or_ge i (splitNl s).length with h | h
        · exact h
        · rw [List.drop_eq_nil_of_le h] at hix; cases hix
      rw [List.drop_eq_getElem_cons hi] at hix
      have hxi : (splitNl s)[i] = r.take k := (List.cons.inj hix).1
      have HD2 := Lib.hid (List.cons.inj hix).2
      obtain ⟨fn, tmps, assign, body, hy, hR⟩ := HY.out i hi wr hJi HMi.out
      rw [hxi] at hy
      have hx1 := extract_mid r 0 k
      rw [List.drop_zero] at hx1
      have hx2 := extract_mid r (k + 1) r.length
      rw [List.take_length] at hx2
      have t1 : decide ((k : Int) < 0) = false := decide_eq_false (by omega)
      have b2 : k ≤ r.length := by omega
      have b3 : (0 : Int) ≤ (k : Int) := by omega
      have b4 : (k : Int) ≤ (r.length : Int) := by omega
      have b5 : (k : Int) + 1 ≤ (r.length : Int) := by omega
      have b6 : (0 : Int) ≤ (k : Int) + 1 := by omega
      have b7 : k + 1 ≤ r.length := by omega
      have HRL := Lib.hid hrl
      clear h1 h2 h3 hix hi hxi
      gi_wp2_with (refine ⟨trivial, ?_⟩; gi_at_call 111; refine (callsIn_wide.2 (HIX.out _)).mono ?_; rintro e w' ⟨rfl, rfl⟩)
      refine hR.mono ?_
      rintro e W3 (⟨rfl, hJ3, hk3⟩ | ⟨rfl, hJx3, -⟩)
      · have hmz := hk3.1
        have blt : ∀ {B : Nat} {o : Obj}, w'.heap[B]? = some o → B < w'.heap.size := fun h => (Array.getElem?_eq_some_iff.1 h).1
        have GS := Lib.hid ((hk3.2 Bs (.inl rfl) (blt GS.out)).trans GS.out)
        have GP := Lib.hid ((hk3.2 Bp (.inr (.inl rfl)) (blt GP.out)).trans GP.out)
        have GV := Lib.hid ((hk3.2 Bv (.inr (.inr rfl)) (blt GV.out)).trans GV.out)
        have HMi := Lib.hid (show m ≤ W3.heap.size from Nat.le_trans HMi.out hmz)
        have cs := blk GS.out 0 rfl
        have fs := frozen_blk GS.out 0
        have cp := blk GP.out 0 rfl
        clear blt hmz hk3
        gi_wp2
        have GS2 := set_blk GS.out 0 (.string (strB (r.drop (k + 1))))
        have hsz2 : (strB (r.drop (k + 1))).size = r.length - (k + 1) := by rw [strB_size, List.length_drop]
        go_roundw
        case rel => exact ⟨i + 1, r.drop (k + 1), HD2, by rw [List.length_drop]; have := HRL.out; omega, HJ.out _ _ _ hJ3 ((StepX.refl _ _).set (.inl rfl) _ _), Lib.hid (by have := HMi.out; simpa [World.setCell] using this), GS2, Lib.hid ((Below.heap_setCell _ _ _ _ hps).trans GP.out), Lib.hid ((Below.heap_setCell _ _ _ _ hvs).trans GV.out)⟩
        case measure => rw [boxLen_is GS2, HML.out, hsz2, hsz]; omega
      · gi_wp2
        refine bodyPost_ret (results_none rfl _ _ _) rfl ?_
        exact ⟨⟨_, rfl⟩, .inr hJx3⟩
end Go.Proofs.YtkdnbnkbnegckaaGreatDoor
namespace Go.Proofs.YtkdnbnkbnegckaaGreatDoor
open Go.RowKit Go.Shelf
set_option maxRecDepth 100000
set_option linter.unusedVariables false
attribute [local go_sem] Oper.semAt_some
theorem strings_splitSeq (s p : ByteArray) (k : Int) (w : World) :
    Calls Tryz.prog 89 #[.string s, .string p, .int .i64 k] w fun e w' => e = .returned (.func (.func 109) #[] #[.pointer (some ⟨w.heap.size + 1, 0, none⟩), .pointer (some ⟨w.heap.size, 0, none⟩), .pointer (some ⟨w.heap.size + 2, 0, none⟩)]) ∧ w' = ((w.alloc (.cells #[.string s] 9)).alloc (.cells #[.string p] 9)).alloc (.cells #[.int .i64 k] 3) := by
  go_enter Tryz.func89, Tryz.ntmps89
  go_wp2
  go_ret
  exact ⟨rfl, rfl⟩
theorem strings_SplitSeq (s p : ByteArray) (w : World) :
    Calls Tryz.prog 66 #[.string s, .string p] w fun e w' => e = .returned (.func (.func 109) #[] #[.pointer (some ⟨w.heap.size + 1, 0, none⟩), .pointer (some ⟨w.heap.size, 0, none⟩), .pointer (some ⟨w.heap.size + 2, 0, none⟩)]) ∧ w' = ((w.alloc (.cells #[.string s] 9)).alloc (.cells #[.string p] 9)).alloc (.cells #[.int .i64 0] 3) := by
  go_enter Tryz.func66, Tryz.ntmps66
  go_wp2_with (go_at_call 89; refine (strings_splitSeq _ _ _ _).mono ?_; rintro e w' ⟨rfl, rfl⟩)
  go_ret
  exact ⟨rfl, rfl⟩
theorem asm_lines (s : ByteArray) (w : World) :
    Calls Tryz.prog 41 #[.string s] w fun e w' => e = .returned (.func (.func 65) #[] #[.pointer (some ⟨w.heap.size, 0, none⟩)]) ∧ w' = w.alloc (.cells #[.string s] 9) := by
  go_enter Tryz.func41, Tryz.ntmps41
  go_wp2
  go_ret
  exact ⟨rfl, rfl⟩
theorem alloc5 {W W2 : World} {o1 o2 o3 o4 o5 : Obj} (h : ((((W.alloc o1).alloc o2).alloc o3).alloc o4).alloc o5 = W2) :
    W2.heap.size = W.heap.size + 5 ∧ W2.heap[W.heap.size]? = some o1 ∧ W2.heap[W.heap.size + 1]? = some o2 ∧ W2.heap[W.heap.size + 1 + 1]? = some o3 ∧ W2.heap[W.heap.size + 1 + 1 + 1]? = some o4 ∧ W2.heap[W.heap.size + 1 + 1 + 2]? = some o5 ∧ Ext W W2 := by
  subst h
  refine ⟨by simp, ?_, ?_, ?_, ?_, ?_, ((((((Ext.rf W).al o1).al o2).al o3).al o4).al o5)⟩
  · exact (((((Ext.rf _).al o2).al o3).al o4).al o5).blk (alloc_new W o1)
  · exact ((((Ext.rf _).al o3).al o4).al o5).blk (by have := alloc_new (W.alloc o1) o2; simpa using this)
  · exact (((Ext.rf _).al o4).al o5).blk (by have := alloc_new ((W.alloc o1).alloc o2) o3; simpa using this)
  · exact ((Ext.rf _).al o5).blk (by have := alloc_new (((W.alloc o1).alloc o2).alloc o3) o4; simpa using this)
  · have := alloc_new ((((W.alloc o1).alloc o2).alloc o3).alloc o4) o5
    simpa using this
theorem roundIn_any {n m : Nat} {P : Program} {l l' : Nat} {f : FuncId} {tmps : Array Value} {assign body : Code} {w : World} {R : Ending → World → Prop} (h : RoundIn Fence.wide n P l f tmps assign body w R) : RoundIn (Fence.wide.inRound l') m P l f tmps assign body w R :=
  ⟨trivial, fun c cs _ => h.2 c cs (room_wide _)⟩
/-- The blocks that the iterator lays, and turns. -/
def XL (lo : Nat) : Nat → Prop := fun k => lo ≤ k ∧ k < lo + 7
def numbered (s : List UInt8) : List (List UInt8 × Nat) := (splitNl s).zipIdx 1
theorem numbered_len (s : List UInt8) : (numbered s).length = (splitNl s).length := List.length_zipIdx
theorem numbered_at (s : List UInt8) (i : Nat) (h : i < (splitNl s).length) (h2 : i < (numbered s).length) : (numbered s)[i] = ((splitNl s)[i], 1 + i) := List.getElem_zipIdx _
set_option maxHeartbeats 4000000 in
theorem lines_in (n : Nat) (hn : 5 ≤ n) (Bt : Nat) (s : List UInt8) (hl : s.length ≤ 4398046511104) (W1 : World) (hBt : W1.heap[Bt]? = some (.cells #[.string (strB s)] 9 (0, 0))) :
    SeqX Fence.wide n Tryz.prog 65 #[.pointer (some ⟨Bt, 0, none⟩)] (fun x : List UInt8 × Nat => #[.int .i64 (x.2 : Nat), .string (strB x.1)]) (XL W1.heap.size) (W1.heap.size + 7) (numbered s) W1 := by
  intro lp J Jx hJ hJx hY h0
  have h1 : 1 ≤ n := by omega
  have HJ := Lib.hid hJ
  have HJx := Lib.hid hJx
  have HY := Lib.hid hY
  have ct := (((Ext.rf W1).al (.cells #[.func (.yield lp) #[] #[]] 111)).al (.cells #[.int .i64 1] 3)).has (blk hBt 0 rfl)
  have ct : ((W1.alloc (.cells #[.func (.yield lp) #[] #[]] 111)).alloc (.cells #[.int .i64 1] 3)).cell? ⟨Bt, 0, none⟩ = some (.string (strB s)) := ct
  clear hJ hY hJx
  refine callsIn_of_wp_marks Tryz.func65 rfl trivial ?_ rfl
  simp only [Tryz.ntmps65, List.size_toArray, List.length_cons, List.length_nil, Nat.reduceAdd, Nat.reduceSub, Array.replicate_succ, Array.replicate_zero, List.push_toArray, List.append_toArray, List.nil_append, List.cons_append]
  gi_wp2_with (refine ⟨trivial, ?_⟩; gi_at_call 66; refine (callsIn_wide.2 (strings_SplitSeq _ _ _)).mono ?_; rintro e w' ⟨rfl, rfl⟩)
  obtain ⟨W2, hW2⟩ : ∃ W2, ((((W1.alloc (.cells #[.func (.yield lp) #[] #[]] 111)).alloc (.cells #[.int .i64 1] 3)).alloc (.cells #[.string (strB s)] 9)).alloc (.cells #[.string ⟨#[10]⟩] 9)).alloc (.cells #[.int .i64 0] 3) = W2 := ⟨_, rfl⟩
  rw [hW2]
  obtain ⟨hS2, bY, bN, bS, bP, bV, hx2⟩ := alloc5 hW2
  clear hW2 ct
  refine wpIn_rangeFuncX rfl h1 (gf := 109) rfl trivial (enters_of Tryz.func109 (by kernel_rfl) rfl)
    (fun r => split_in (n - 1) (by omega) (W1.heap.size + 1 + 1) (W1.heap.size + 1 + 1 + 1) (W1.heap.size + 1 + 1 + 2) (by omega) (by omega) s hl 0 _ (Nat.zero_le _)
      ((((Ext.rf W2).al _).al _).blk bS) ((((Ext.rf W2).al _).al _).blk bP) ((((Ext.rf W2).al _).al _).blk bV))
    (by rw [hS2]; unfold X3; omega) (by rw [hS2]; unfold X3; omega) (fun _ => rfl)
    (fun i W => J i W ∧ Hid (W.heap[W1.heap.size]? = some (.cells #[.func (.yield lp) #[] #[]] 111)) ∧ Hid (W.heap[W1.heap.size + 1]? = some (.cells #[.int .i64 ((i + 1 : Nat) : Int)] 3)))
    (fun c W => Jx W ∧ c = .ret)
    ?hI ?hIx ?h0 ?a1 ?assign ?body ?done ?stop
  case hI =>
    rintro i A B ⟨h1, h2, h3⟩ hs
    have hlt := (Array.getElem?_eq_some_iff.1 h3.out).1
    have hnx : ∀ k, k < W1.heap.size + 1 + 1 → ¬withLoop (X3 (W1.heap.size + 1 + 1) (W1.heap.size + 1 + 1 + 1) (W1.heap.size + 1 + 1 + 2)) W2.heap.size k := fun k hk h => by
      rcases h with (h | h | h) | h | h <;> omega
    exact ⟨HJ.out _ _ _ h1 (hs.mono fun k _ hk => by
      unfold XL
      rcases hk with (h | h | h) | h | h <;> omega), (hs.block _ (by omega) (hnx _ (by omega))).trans h2.out, (hs.block _ hlt (hnx _ (by omega))).trans h3.out⟩
  case hIx =>
    rintro c A B ⟨h1, h2⟩ hs
    exact ⟨HJx.out _ _ h1 (hs.mono fun k _ hk => by
      unfold XL
      rcases hk with (h | h | h) | h | h <;> omega), h2⟩
  case h0 => exact ⟨HJ.out _ _ _ h0 (.ext hx2), bY, bN⟩
  case assign =>
    intro l x W K hK
    gi_wp2
    exact hK
  case body =>
    rintro i hi W hW2 ⟨hJi, gY, gN⟩ -
    have hi2 : i < (numbered s).length := by rw [numbered_len]; exact hi
    have hni := numbered_at s i hi hi2
    have h12 : 1 ≤ n - 1 - 1 := by omega
    obtain ⟨fn, tmps, assign, body, hy, hR⟩ := HY.out i hi2 W hJi (by omega)
    rw [hni] at hy
    dsimp only at hy
    rw [show ((1 + i : Nat) : Int) = (i : Int) + 1 by omega] at hy
    have cY := blk gY.out 0 rfl
    have cN : W.cell? ⟨W1.heap.size + 1, 0, none⟩ = some (.int .i64 ((i : Int) + 1)) := blk gN.out 0 (by rw [show ((i : Int) + 1) = ((i + 1 : Nat) : Int) by omega]; rfl)
    have HLT := Lib.hid (show i < s.length + 1 by have := splitNl_len s; omega)
    clear hni
    gi_wp2
    refine (roundIn_any hR).mono ?_
    rintro e W3 (⟨rfl, hJ3, hk3⟩ | ⟨rfl, hJx3, hk3⟩)
    · have hmz := hk3.1
      have hXY : (W1.heap.size + 7 ≤ W.heap.size) := by omega
      have gY3 := Lib.hid ((hk3.2 W1.heap.size ⟨Nat.le_refl _, by omega⟩ (by omega)).trans gY.out)
      have gN3 := Lib.hid ((hk3.2 (W1.heap.size + 1) ⟨by omega, by omega⟩ (by omega)).trans gN.out)
      have cN3 : W3.cell? ⟨W1.heap.size + 1, 0, none⟩ = some (.int .i64 ((i : Int) + 1)) := blk gN3.out 0 (by rw [show ((i : Int) + 1) = ((i + 1 : Nat) : Int) by omega]; rfl)
      have fN3 := frozen_blk gN3.out 0
      have HK := Lib.hid hk3
      have hls := HLT.out
      clear hk3 cN cY
      gi_wp2
      have hnb : ∀ k, withLoop (X3 (W1.heap.size + 1 + 1) (W1.heap.size + 1 + 1 + 1) (W1.heap.size + 1 + 1 + 2)) W2.heap.size k → XL W1.heap.size k ∧ k ≠ W1.heap.size + 1 := fun k hk => by
        unfold XL
        rcases hk with (h | h | h) | h | h <;> omega
      refine ⟨(HK.out.mono fun k _ hk => (hnb k hk).1).set (fun hk => (hnb _ hk).2 rfl) _ _, HJ.out _ _ _ hJ3 ((StepX.refl _ _).set ⟨by omega, by omega⟩ _ _), Lib.hid ((Below.heap_setCell _ _ _ _ (show W1.heap.size ≠ W1.heap.size + 1 by omega)).trans gY3.out), Lib.hid ?_⟩
      have := set_blk gN3.out 0 (.int .i64 (((i : Int) + 1) + 1))
      rw [show (((i + 1 + 1 : Nat) : Int)) = ((i : Int) + 1) + 1 by omega]
      exact this
    · have hnb : ∀ k, withLoop (X3 (W1.heap.size + 1 + 1) (W1.heap.size + 1 + 1 + 1) (W1.heap.size + 1 + 1 + 2)) W2.heap.size k → XL W1.heap.size k := fun k hk => by
        unfold XL
        rcases hk with (h | h | h) | h | h <;> omega
      have HK := Lib.hid (hk3.mono fun k _ hk => hnb k hk)
      clear hk3 hnb
      gi_wp2
      exact ⟨HK.out, hJx3, rfl⟩
  case done =>
    rintro W ⟨hJi, gY, gN⟩ hD
    gi_wp2
    refine ⟨by simp, .inl ⟨_, _, rfl, run_takeDeferred hD, ?_⟩⟩
    exact ⟨_, results_none rfl _ _ _, ⟨_, rfl⟩, .inl (by rw [numbered_len]; exact HJ.out _ _ _ hJi ((StepX.refl _ _).putObj ⟨by omega, by omega⟩ _))⟩
  case stop =>
    rintro c W ⟨hJxi, rfl⟩ hD
    gi_wp2
    refine ⟨by simp, .inl ⟨_, _, rfl, run_takeDeferred hD, ?_⟩⟩
    exact ⟨_, results_none rfl _ _ _, ⟨_, rfl⟩, .inr (HJx.out _ _ hJxi ((StepX.refl _ _).putObj ⟨by omega, by omega⟩ _))⟩
end Go.Proofs.YtkdnbnkbnegckaaGreatDoor
namespace Go.Proofs.YtkdnbnkbnegckaaGreatDoor
open Go.RowKit
set_option linter.unusedVariables false
theorem ret_cell_tmp2 {fn : Func} {p u q : Tmp} {ty : TypeId} (h : fn.results = #[.cell p ty, .tmp u, .tmp q]) {tmps : Array Value} {P : Program} {w : World} {A : Addr} {v : Value} (hp : tmps.getD p undef = .pointer (some A)) (hv : (loadVar ty A).run P w = .ok v w) :
    (results fn tmps).run P w = .ok (.tuple #[v, tmps.getD u undef, tmps.getD q undef]) w := by
  rw [Array.getD_eq_getD_getElem?] at hp
  simp [results, h, Sem.run_bind, Result.andThen, hp, asAddr, hv]
/-- What a line of text tells: an instruction, a line; or why it is none. -/
def lineI (s : List UInt8) : InstrT × (Int × Int) :=
  if (numN (s.take (sp s))).2 ≠ 0 ∨ (numN (s.take (sp s))).1 < 0 ∨ 65535 < (numN (s.take (sp s))).1 ∨ restS s = [] then ((0, 0), (0, 19))
  else if (readI (restS s)).2 ≠ 0 then ((0, 0), (0, (readI (restS s)).2)) else ((readI (restS s)).1, ((numN (s.take (sp s))).1, 0))
theorem lineI_eq (s : List UInt8) (N : Int × Int) (hN : N = numN (s.take (sp s))) (R : List UInt8) (hR : R = restS s) (I : InstrT × Int) (hI : I = readI (restS s)) :
    ((N.2 ≠ 0 ∨ N.1 < 0 ∨ 65535 < N.1 ∨ R = []) → lineI s = ((0, 0), (0, 19))) ∧ (¬(N.2 ≠ 0 ∨ N.1 < 0 ∨ 65535 < N.1 ∨ R = []) → I.2 ≠ 0 → lineI s = ((0, 0), (0, I.2))) ∧ (¬(N.2 ≠ 0 ∨ N.1 < 0 ∨ 65535 < N.1 ∨ R = []) → I.2 = 0 → lineI s = (I.1, (N.1, 0))) := by
  subst hN hR hI
  unfold lineI
  refine ⟨fun h => if_pos h, fun h h2 => ?_, fun h h2 => ?_⟩
  · rw [if_neg h, if_pos h2]
  · rw [if_neg h, if_neg (by simpa using h2)]
set_option maxHeartbeats 4000000 in
set_option maxRecDepth 20000 in
theorem asm_Line (s : List UInt8) (m : Int) (w : World) (hm : w.cell? ⟨0, 0, none⟩ = some (.int .i64 m)) (hl : s.length < 4294967281) :
    Calls Tryz.prog 6 #[.string (strB s)] w fun e w' => e = .returned (.tuple #[.agg #[.int .i64 (lineI s).1.1, .int .i64 (lineI s).1.2], .int .i64 (lineI s).2.1, .int .i64 (lineI s).2.2]) ∧ Ext w w' := by
  have HP := Lib.hid (fun w' hm' => Tryz.strings_Cut (strB s) ⟨#[32]⟩ m w' (by rw [strB_size]; exact hl) hm')
  rw [strB_toL, show (⟨#[32]⟩ : ByteArray).data.toList = [32] from rfl, cut32] at HP
  have HRL : Hid ((restS s).length ≤ s.length) := by unfold restS; rw [Hid]; split <;> simp
  have HQ := Lib.hid (lineI_eq s _ rfl _ rfl _ rfl)
  have HNUM := Lib.hid (fun W => instr_Number (s.take (sp s)) W (by rw [List.length_take]; omega))
  have HRD := Lib.hid (fun W (h : Ext w W) => instr_Read (restS s) m W (h.has hm) (by have := HRL.out; omega))
  have hm1 := fun o => ((Ext.rf w).al o).has hm
  generalize lineI s = V at *
  generalize numN (s.take (sp s)) = N at *
  generalize readI (restS s) = I at *
  generalize hR : restS s = R at *
  obtain ⟨nn, ne⟩ := N
  obtain ⟨⟨io, ia⟩, ie⟩ := I
  obtain ⟨q1, q2, q3⟩ := HQ.out
  dsimp only at HNUM HRD q1 q2 q3
  clear HQ
  go_enter Tryz.func6, Tryz.ntmps6
  go_wp2_with fail
  refine (HP.out _ (hm1 _)).mono ?_
  rintro e w1 ⟨rfl, nd, rfl⟩
  have D0 := Lib.hid (show ((w.alloc (.cells #[.int .i64 0, .int .i64 0] 25)).drewN nd).heap[w.heap.size]? = some (.cells #[.int .i64 0, .int .i64 0] 25 (0, 0)) from alloc_new w _)
  have HX1 := Lib.hid (((Ext.rf w).al (.cells #[.int .i64 0, .int .i64 0] 25)).drN nd)
  generalize (w.alloc (.cells #[.int .i64 0, .int .i64 0] 25)).drewN nd = w1 at *
  clear hm hm1 HP
  go_wp2_with fail
  refine (HNUM.out _).mono ?_
  rintro e w2 ⟨rfl, hx2⟩
  have D0 := Lib.hid (hx2.blk D0.out)
  have HX2 := Lib.hid (HX1.out.tr hx2)
  have e0 := blk D0.out 0 rfl
  have e1 := blk D0.out 1 rfl
  have f0 := frozen_blk D0.out 0
  have f1 := frozen_blk D0.out 1
  clear hx2 HX1
  have bad : ∀ {P : Prop}, (V = ((0, 0), (0, 19)) → P) → (ne ≠ 0 ∨ nn < 0 ∨ 65535 < nn ∨ R = []) → P := fun h g => h (q1 g)
  by_cases h1 : ne = 0
  · have t1 : (ne != 0) = false := by simpa using h1
    by_cases h2 : nn < 0
    · have t2 : decide (nn < 0) = true := decide_eq_true h2
      have HV := Lib.hid (q1 (.inr (.inl h2)))
      clear q1 q2 q3 bad h1 h2 hR
      go_wp2_with fail
      exact bodyPost_ret (ret_cell_tmp2 rfl rfl (load_instr (set2 D0.out _ _))) rfl ⟨by rw [HV.out] <;> rfl, ext2 HX2.out (Nat.le_refl _) _ _⟩
    · have t2 : decide (nn < 0) = false := decide_eq_false h2
      by_cases h3 : 65535 < nn
      · have t3 : decide (65535 < nn) = true := decide_eq_true h3
        have HV := Lib.hid (q1 (.inr (.inr (.inl h3))))
        clear q1 q2 q3 bad h1 h2 h3 hR
        go_wp2_with fail
        exact bodyPost_ret (ret_cell_tmp2 rfl rfl (load_instr (set2 D0.out _ _))) rfl ⟨by rw [HV.out] <;> rfl, ext2 HX2.out (Nat.le_refl _) _ _⟩
      · have t3 : decide (65535 < nn) = false := decide_eq_false h3
        by_cases h4 : R = []
        · have t4 : R.isEmpty = true := by simp [h4]
          have HV := Lib.hid (q1 (.inr (.inr (.inr h4))))
          clear q1 q2 q3 bad h1 h2 h3 h4 hR
          go_wp2_with fail
          exact bodyPost_ret (ret_cell_tmp2 rfl rfl (load_instr (set2 D0.out _ _))) rfl ⟨by rw [HV.out] <;> rfl, ext2 HX2.out (Nat.le_refl _) _ _⟩
        · have t4 : R.isEmpty = false := by simpa using h4
          have hno : ¬(ne ≠ 0 ∨ nn < 0 ∨ 65535 < nn ∨ R = []) := by
            rintro (h | h | h | h)
            · exact h h1
            · exact h2 h
            · exact h3 h
            · exact h4 h
          have HRD2 := Lib.hid (HRD.out w2 HX2.out)
          have Q2 := Lib.hid (q2 hno)
          have Q3 := Lib.hid (q3 hno)
          clear q1 q2 q3 bad h1 h2 h3 h4 hno hR HRD e0 e1 f0 f1
          go_wp2_with fail
          refine HRD2.out.mono ?_
          rintro e w3 ⟨rfl, hx3⟩
          have D3 := Lib.hid (hx3.blk D0.out)
          have HX3 := Lib.hid (HX2.out.tr hx3)
          clear hx3 HRD2
          have E3 := fun o => Ext.blk ((Ext.rf w3).al o) D3.out
          have a0 := fun o => blk (E3 o) 0 rfl
          have a1 := fun o => blk (E3 o) 1 rfl
          have g0 := fun o => frozen_blk (E3 o) 0
          have g1 := fun o => frozen_blk (E3 o) 1
          have HE3 := Lib.hid E3
          clear E3
          by_cases h5 : ie = 0
          · have t5 : (ie != 0) = false := by simpa using h5
            have HV := Lib.hid (Q3.out h5)
            clear Q2 Q3 h5
            go_wp2_with fail
            exact bodyPost_ret (ret_cell_tmp2 rfl rfl (load_instr (set2 (HE3.out _) _ _))) rfl ⟨by rw [HV.out] <;> rfl, ext2 (HX3.out.al _) (Nat.le_refl _) _ _⟩
          · have t5 : (ie != 0) = true := by simpa using h5
            have HV := Lib.hid (Q2.out h5)
            clear Q2 Q3 h5
            go_wp2_with fail
            exact bodyPost_ret (ret_cell_tmp2 rfl rfl (load_instr (set2 (HE3.out _) _ _))) rfl ⟨by rw [HV.out] <;> rfl, ext2 (HX3.out.al _) (Nat.le_refl _) _ _⟩
  · have t1 : (ne != 0) = true := by simpa using h1
    have HV := Lib.hid (q1 (.inl h1))
    clear q1 q2 q3 bad h1 hR
    go_wp2_with fail
    exact bodyPost_ret (ret_cell_tmp2 rfl rfl (load_instr (set2 D0.out _ _))) rfl ⟨by rw [HV.out] <;> rfl, ext2 HX2.out (Nat.le_refl _) _ _⟩
end Go.Proofs.YtkdnbnkbnegckaaGreatDoor
