/- DisBack, the plain law: the lines of a program's text are read as the program. -/
import Derived.Test.YtkdnbnkbnegckaaGreatDoorAhd
import Derived.Test.YtkdnbnkbnegckaaGreatDoorSpA
import Derived.Test.YtkdnbnkbnegckaaGreatDoorArr
namespace Go.Proofs.YtkdnbnkbnegckaaGreatDoor
open Go.RowKit
set_option maxRecDepth 20000
set_option linter.unusedVariables false
/-! Lines -/
theorem splitNl_cut : ∀ (l rest : List UInt8), (∀ b ∈ l, b ≠ 10) → splitNl (l ++ 10 :: rest) = l :: splitNl rest
  | [], rest, _ => by simp [splitNl]
  | b :: l, rest, h => by
    have hb : b ≠ 10 := h b (by simp)
    have ih := splitNl_cut l rest fun c hc => h c (by simp [hc])
    rw [List.cons_append, splitNl, if_neg hb, ih]
theorem splitNl_one : ∀ (l : List UInt8), (∀ b ∈ l, b ≠ 10) → splitNl l = [l]
  | [], _ => by simp [splitNl]
  | b :: l, h => by
    have hb : b ≠ 10 := h b (by simp)
    have ih := splitNl_one l fun c hc => h c (by simp [hc])
    rw [splitNl, if_neg hb, ih]
def joinNl (ls : List (List UInt8)) : List UInt8 := ls.flatMap fun l => l ++ [10]
theorem joinNl_app (a b : List (List UInt8)) : joinNl (a ++ b) = joinNl a ++ joinNl b := List.flatMap_append
theorem splitNl_join : ∀ (ls : List (List UInt8)) (l : List UInt8), (∀ x ∈ ls, ∀ b ∈ x, b ≠ 10) → (∀ b ∈ l, b ≠ 10) → splitNl (joinNl ls ++ l) = ls ++ [l]
  | [], l, _, h => by simpa [joinNl] using splitNl_one l h
  | x :: ls, l, h, h2 => by
    have ih := splitNl_join ls l (fun y hy => h y (by simp [hy])) h2
    have e : joinNl (x :: ls) ++ l = x ++ 10 :: (joinNl ls ++ l) := by simp [joinNl]
    rw [e, splitNl_cut x _ (h x (by simp)), ih]
    rfl
theorem trim_last (t : List UInt8) : trimNl (t ++ [10]) = t := by
  have h : Lib.hasSuffix (t ++ [10]) [10] = true := by
    rw [← Lib.hasSuffix_of_drop]
    simp
  unfold trimNl Lib.trimSuffix
  rw [if_pos h]
  simp
theorem split_trim (ls : List (List UInt8)) (h : ∀ x ∈ ls, ∀ b ∈ x, b ≠ 10) (hne : ls ≠ []) : splitNl (trimNl (joinNl ls)) = ls := by
  obtain ⟨l0, x, rfl⟩ : ∃ l0 x, ls = l0 ++ [x] := ⟨ls.dropLast, ls.getLast hne, (List.dropLast_concat_getLast hne).symm⟩
  have e : joinNl (l0 ++ [x]) = (joinNl l0 ++ x) ++ [10] := by rw [joinNl_app]; simp [joinNl]
  rw [e, trim_last, splitNl_join l0 x (fun y hy => h y (by simp [hy])) (h x (by simp))]
/-! Words -/
theorem words_go : ∀ (a : List UInt8) (ws : List (List UInt8)) (cur : List UInt8), (∀ b ∈ a, b ≠ 32) → a.foldl stepW (ws ++ [cur]) = ws ++ [cur ++ a]
  | [], ws, cur, _ => by simp
  | b :: a, ws, cur, h => by
    have hb : b ≠ 32 := h b (by simp)
    have e : stepW (ws ++ [cur]) b = ws ++ [cur ++ [b]] := by unfold stepW; rw [if_neg hb]; simp
    rw [List.foldl_cons, e, words_go a ws (cur ++ [b]) fun c hc => h c (by simp [hc])]
    simp
def joinSp : List UInt8 → List (List UInt8) → List UInt8
  | a, [] => a
  | a, b :: l => a ++ 32 :: joinSp b l
theorem words_join : ∀ (l : List (List UInt8)) (a : List UInt8) (ws : List (List UInt8)), (∀ b ∈ a, b ≠ 32) → (∀ x ∈ l, ∀ b ∈ x, b ≠ 32) → (joinSp a l).foldl stepW (ws ++ [[]]) = ws ++ a :: l
  | [], a, ws, h, _ => by rw [joinSp, words_go a ws [] h]; simp
  | c :: l, a, ws, h, h2 => by
    have e : stepW (ws ++ [[] ++ a]) 32 = (ws ++ [a]) ++ [[]] := by unfold stepW; rw [if_pos rfl]; simp
    rw [joinSp, List.foldl_append, words_go a ws [] h, List.foldl_cons, e, words_join l c (ws ++ [a]) (h2 c (by simp)) fun x hx => h2 x (by simp [hx])]
    simp
theorem wordsF_join {a : List UInt8} {l : List (List UInt8)} (h : ∀ b ∈ a, b ≠ 32) (h2 : ∀ x ∈ l, ∀ b ∈ x, b ≠ 32) : wordsF (joinSp a l) = a :: l := words_join l a [] h h2
/-! What a line is made of -/
def NoB (l : List UInt8) : Prop := ∀ b ∈ l, b ≠ 32 ∧ b ≠ 10
theorem noB_text (l : List Int) : NoB (textB l) := by
  intro b hb
  unfold textB at hb
  split at hb
  · obtain rfl := List.mem_singleton.1 hb
    decide
  · obtain ⟨a, -, rfl⟩ := List.mem_map.1 hb
    rcases letterI_cases a with ⟨-, e⟩ | ⟨-, e⟩ | ⟨-, e⟩ <;> rw [e] <;> decide
theorem other_noB {b : UInt8} (h : otherB b = true) : b ≠ 32 ∧ b ≠ 10 := by
  constructor
  · rintro rfl
    revert h
    decide +kernel
  · rintro rfl
    revert h
    decide +kernel
theorem mayB_all {l : List UInt8} (h : mayB l = true) : 1 ≤ l.length ∧ l.length ≤ 12 ∧ firstB (l.headD 0) = true ∧ l.all otherB = true := by
  cases l with
  | nil => cases h
  | cons x l =>
    simp only [mayB, Bool.and_eq_true, decide_eq_true_eq] at h
    exact ⟨by simp, by simp; omega, h.1.2, h.2⟩
theorem noB_name {l : List UInt8} (h : mayB l = true) : NoB l := fun b hb => other_noB (List.all_eq_true.1 (mayB_all h).2.2.2 b hb)
theorem mayName_is {l : List UInt8} (h : mayB l = true) : mayName (strB l) = true := by
  obtain ⟨h1, h2, h3, h4⟩ := mayB_all h
  have e : (strB l).data.toList = l := rfl
  have o : ∀ b : UInt8, otherB b = true → othU b = true := fun b hb => by
    unfold otherB firstB at hb
    unfold othU othC lowC
    simp only [Bool.or_eq_true] at hb
    simp only [Bool.or_eq_true, Bool.and_eq_true, decide_eq_true_eq, beq_iff_eq]
    rcases hb with (hb | hb) | hb
    · exact .inl (.inl (of_decide_eq_true hb))
    · exact .inl (.inr (of_decide_eq_true hb))
    · exact .inr (of_decide_eq_true hb)
  have f : lowC ((l.headD 0).toNat : Int) = true := by
    unfold firstB at h3
    unfold lowC
    simp only [Bool.and_eq_true, decide_eq_true_eq]
    exact of_decide_eq_true h3
  unfold mayName
  rw [e, strB_size]
  simp only [Bool.and_eq_true, decide_eq_true_eq]
  exact ⟨⟨⟨h1, h2⟩, f⟩, List.all_eq_true.2 fun b hb => o b (List.all_eq_true.1 h4 b hb)⟩
theorem isDig_noB {b : UInt8} (h : isDig b = true) : (b ≠ 32 ∧ b ≠ 10) ∧ b ≠ 101 := by
  refine ⟨⟨?_, ?_⟩, ?_⟩ <;> (rintro rfl; revert h; decide)
theorem noB_dec (n : Int) : NoB (decB n) := by
  have hd : NoB (digN n.natAbs) := fun b hb => (isDig_noB (List.all_eq_true.1 (digN_dig _ _ (Nat.le_refl _)) b hb)).1
  unfold decB
  split
  · intro b hb
    rcases List.mem_cons.1 hb with rfl | hb
    · decide
    · exact hd b hb
  · exact hd
theorem dec_head (n : Int) (h : 0 ≤ n) : ∃ b t, decB n = b :: t ∧ b ≠ 101 := by
  have e := decB_nn (n := n) (by omega)
  have hne := digN_ne n.natAbs
  have hd := List.all_eq_true.1 (digN_dig n.natAbs n.natAbs (Nat.le_refl _))
  rw [e]
  cases hq : digN n.natAbs with
  | nil => exact absurd hq hne
  | cons b t => exact ⟨b, t, rfl, (isDig_noB (hd b (by rw [hq]; simp))).2⟩
theorem name_no10 : ∀ k < 35, ∀ b ∈ nameAt k, b ≠ 10 := by decide +kernel
theorem opName_no10 (op : Int) : ∀ b ∈ opNameL op, b ≠ 10 := by
  unfold opNameL
  split
  · rename_i h
    simp only [isOp, Bool.and_eq_true, decide_eq_true_eq] at h
    exact name_no10 _ (by omega)
  · intro b hb
    cases hb
theorem text_no10 (p : Int × Int) : ∀ b ∈ textI p, b ≠ 10 := by
  unfold textI
  split
  · split
    · exact opName_no10 _
    · intro b hb
      rcases List.mem_append.1 hb with hb | hb
      · exact opName_no10 _ b hb
      · rcases List.mem_cons.1 hb with rfl | hb
        · decide
        · exact (noB_dec _ b hb).2
  · intro b hb
    cases hb
theorem name_ne : ∀ k < 35, nameAt k ≠ [] := by decide +kernel
theorem rightN_is {p : Int × Int} (h : rightN p.1 p.2 = true) : rightInstr p = true := by
  obtain ⟨n, a⟩ := p
  dsimp only at h
  unfold rightN at h
  simp only [decide_eq_true_eq] at h
  obtain ⟨h0, h1, h2⟩ := h
  have hk : ∀ n : Int, 0 ≤ n → n < 35 → operandI n = kindN n := by
    intro n h0 h1
    obtain ⟨k, rfl⟩ := Int.eq_ofNat_of_zero_le h0
    have : ∀ k < 35, operandI ((k : Nat) : Int) = kindN (k : Int) := by decide +kernel
    exact this k (by omega)
  have hm : mostI (kindN n) = mostN (kindN n) := rfl
  unfold rightInstr isOp mayOperand
  simp only [hk n h0 h1, hm, Bool.and_eq_true, Bool.or_eq_true, decide_eq_true_eq, beq_iff_eq]
  exact ⟨⟨h0, h1⟩, h2⟩
theorem text_ne {p : Int × Int} (h : rightInstr p = true) : textI p ≠ [] := by
  have his := right_is h
  have hb : isOp p.1 = true := his
  simp only [isOp, Bool.and_eq_true, decide_eq_true_eq] at his
  have hn : opNameL p.1 ≠ [] := by unfold opNameL; rw [if_pos hb]; exact name_ne _ (by omega)
  unfold textI
  rw [if_pos h]
  split
  · exact hn
  · simp
/-! A line of an instruction -/
def lineT (n : Int) (p : Int × Int) : List UInt8 := decB n ++ 32 :: textI p
theorem lineI_back {n : Int} {p : Int × Int} (h0 : 0 ≤ n) (h1 : n ≤ 65535) (hp : rightInstr p = true) (hb : I64 p.2) : lineI (lineT n p) = (p, (n, 0)) := by
  have hs : sp (lineT n p) = (decB n).length := sp_cut (fun b hb => (noB_dec n b hb).1) _
  have hN : ((n, 0) : Int × Int) = numN ((lineT n p).take (sp (lineT n p))) := by
    rw [hs]
    unfold lineT
    rw [List.take_left', numN_dec ⟨by omega, by omega⟩]
    rfl
  have hR : textI p = restS (lineT n p) := by
    unfold restS
    rw [hs, if_pos (by unfold lineT; simp)]
    unfold lineT
    simp
  have hI : (p, (0 : Int)) = readI (restS (lineT n p)) := by rw [← hR, readI_text hp hb]
  refine (lineI_eq (lineT n p) _ hN _ hR _ hI).2.2 ?_ rfl
  rintro (h | h | h | h)
  · exact h rfl
  · dsimp only at h; omega
  · dsimp only at h; omega
  · exact text_ne hp h
theorem lineT_ne {n : Int} {p : Int × Int} (h0 : 0 ≤ n) : lineT n p ≠ [] ∧ lineT n p ≠ endW := by
  obtain ⟨b, t, e, hb⟩ := dec_head n h0
  unfold lineT
  rw [e]
  refine ⟨by simp, fun h => ?_⟩
  have := (List.cons.inj h).1
  exact hb this
theorem lineT_no10 (n : Int) (p : Int × Int) : ∀ b ∈ lineT n p, b ≠ 10 := by
  intro b hb
  rcases List.mem_append.1 hb with hb | hb
  · exact (noB_dec n b hb).2
  · rcases List.mem_cons.1 hb with rfl | hb
    · decide
    · exact text_no10 p b hb
/-! A head -/
theorem headT_join (name : List UInt8) (inner : Bool) (outer params results locals : List Int) : headT name inner outer params results locals = joinSp funcW ([name, textB params, textB results, textB locals] ++ (if inner = true then [textB outer] else [])) := by
  unfold headT funcW
  cases inner <;> simp [joinSp]
theorem readS_text {l : List Int} (h : l.all typeBQ = true) : readS (textB l) = some l := textB_inj_none l (fun x hx => by
  have := List.all_eq_true.1 h x hx
  simpa [typeBQ] using this) _ rfl
theorem readL_text {l : List Int} (h : l.all typeBQ = true) : readL (textB l) = l := by rw [readL, readS_text h]; rfl
theorem readE_text0 {l : List Int} (h : l.all typeBQ = true) : readE (textB l) = 0 := by rw [readE, readS_text h]; rfl
theorem head_back {name : List UInt8} {inner : Bool} {outer params results locals : List Int} (hn : mayB name = true) (ht : typesBQ inner outer params results locals = true) :
    headE (headT name inner outer params results locals) = 0 ∧ headF (headT name inner outer params results locals) = (name, (inner, (outer, (params, (results, (locals, ([], ([], ([], ([], [])))))))))) := by
  simp only [typesBQ, sigBQ, Bool.and_eq_true, Bool.or_eq_true, decide_eq_true_eq] at ht
  obtain ⟨⟨⟨⟨⟨-, hp⟩, ⟨-, hr⟩⟩, ⟨-, hl⟩⟩, ⟨-, ho⟩⟩, hin⟩ := ht
  have hw : wordsF (headT name inner outer params results locals) = funcW :: ([name, textB params, textB results, textB locals] ++ (if inner = true then [textB outer] else [])) := by
    rw [headT_join]
    refine wordsF_join (by decide) fun x hx b hb => ?_
    have : NoB x := by
      rcases List.mem_append.1 hx with hx | hx
      · simp only [List.mem_cons, List.not_mem_nil, or_false] at hx
        rcases hx with rfl | rfl | rfl | rfl
        · exact noB_name hn
        · exact noB_text _
        · exact noB_text _
        · exact noB_text _
      · split at hx
        · obtain rfl := List.mem_singleton.1 hx
          exact noB_text _
        · cases hx
    exact (this b hb).1
  have hm := mayName_is hn
  have hE : headE (headT name inner outer params results locals) = 0 := by
    unfold headE
    rw [hw]
    cases inner with
    | true =>
      have b0 : badH (funcW :: ([name, textB params, textB results, textB locals] ++ (if true = true then [textB outer] else []))) = false := by simp [badH, wordAt]
      rw [if_neg (by rw [b0]; decide), if_neg (by show ¬mayName (strB name) = false; rw [hm]; decide)]
      simp [errT, readE_text0 hp, readE_text0 hr, readE_text0 hl, readE_text0 ho]
    | false =>
      have b0 : badH (funcW :: ([name, textB params, textB results, textB locals] ++ (if false = true then [textB outer] else []))) = false := by simp [badH, wordAt]
      rw [if_neg (by rw [b0]; decide), if_neg (by show ¬mayName (strB name) = false; rw [hm]; decide)]
      simp [errT, readE_text0 hp, readE_text0 hr, readE_text0 hl]
  refine ⟨hE, ?_⟩
  unfold headF
  rw [if_pos hE, hw]
  cases inner with
  | true => simp [wordAt, readL_text hp, readL_text hr, readL_text hl, readL_text ho]
  | false =>
    have : outer = [] := by simpa using hin
    subst this
    simp [wordAt, readL_text hp, readL_text hr, readL_text hl]
theorem headT_ne (name : List UInt8) (inner : Bool) (outer params results locals : List Int) : headT name inner outer params results locals ≠ [] := by simp [headT]
theorem headT_no10 {name : List UInt8} {inner : Bool} {outer params results locals : List Int} (hn : mayB name = true) : ∀ b ∈ headT name inner outer params results locals, b ≠ 10 := by
  have h1 : ∀ b ∈ name, b ≠ 10 := fun b hb => (noB_name hn b hb).2
  have h2 : ∀ l : List Int, ∀ b ∈ textB l, b ≠ 10 := fun l b hb => (noB_text l b hb).2
  have h3 : ∀ b ∈ funcW, b ≠ 10 := by decide
  intro b hb
  rw [headT_join] at hb
  cases inner
  all_goals
    simp only [joinSp, List.cons_append, List.nil_append, if_true, if_false, Bool.false_eq_true, List.mem_append, List.mem_cons, List.append_nil] at hb
    rcases hb with hb | rfl | hb | rfl | hb | rfl | hb | rfl | hb
  all_goals first
    | decide
    | exact h3 b hb
    | exact h1 b hb
    | exact h2 _ b hb
    | (rcases hb with hb | rfl | hb
       · exact h2 _ b hb
       · decide
       · exact h2 _ b hb)
/-! A function, a program -/
def okRun : RSt → List (List UInt8) → Option RSt
  | st, [] => some st
  | st, x :: l => if (readStep st x).2 = 0 then okRun (readStep st x).1 l else none
theorem okRun_app : ∀ (a b : List (List UInt8)) (st st' : RSt), okRun st a = some st' → okRun st (a ++ b) = okRun st' b
  | [], b, st, st', h => by cases h; rfl
  | x :: a, b, st, st', h => by
    rw [okRun] at h
    split at h
    · rename_i h0
      rw [List.cons_append, okRun, if_pos h0]
      exact okRun_app a b _ _ h
    · cases h
theorem okRun_out (ls : List (List UInt8)) (st' : RSt) (h : okRun ([], none) ls = some st') : (∀ j, j < ls.length → errAt ls j = 0) ∧ stAt ls ls.length = st' := by
  have key : ∀ (k : Nat), k ≤ ls.length → (∀ j, j < k → errAt ls j = 0) ∧ okRun (stAt ls k) (ls.drop k) = some st' := by
    intro k
    induction k with
    | zero => exact fun _ => ⟨fun j hj => absurd hj (Nat.not_lt_zero _), h⟩
    | succ k ih =>
      intro hk
      obtain ⟨h1, h2⟩ := ih (by omega)
      rw [List.drop_eq_getElem_cons (show k < ls.length by omega), okRun] at h2
      split at h2
      · rename_i h0
        refine ⟨fun j hj => ?_, by rw [stAt_succ (show k < ls.length by omega)]; exact h2⟩
        by_cases hjk : j = k
        · subst hjk; rw [errAt_is (show j < ls.length by omega)]; exact h0
        · exact h1 j (by omega)
      · cases h2
  obtain ⟨h1, h2⟩ := key ls.length (Nat.le_refl _)
  rw [List.drop_length, okRun] at h2
  exact ⟨h1, Option.some.inj h2⟩
def rowL (lines : List Int) (p : (Int × Int) × Nat) : List UInt8 := lineT (atL lines p.2) p.1
def linesF (f : Fn) : List (List UInt8) := headT f.1 f.2.1 f.2.2.1 f.2.2.2.1 f.2.2.2.2.1 f.2.2.2.2.2.1 :: (f.2.2.2.2.2.2.1.zipIdx.map (rowL f.2.2.2.2.2.2.2.1) ++ [endW])
theorem funcT_lines (f : Fn) : funcT f = joinNl (linesF f) := by
  have h : ∀ (lines : List Int) (l : List ((Int × Int) × Nat)), l.flatMap (instT lines) = joinNl (l.map (rowL lines)) := by
    intro lines l
    induction l with
    | nil => rfl
    | cons p l ih =>
      rw [List.flatMap_cons, ih]
      simp [joinNl, rowL, lineT, instT]
  unfold funcT codeT linesF
  rw [h]
  simp [joinNl, endW]
theorem textT_lines (fs : List Fn) : textT fs = joinNl (fs.flatMap linesF) := by
  induction fs with
  | nil => rfl
  | cons f fs ih =>
    have e : textT (f :: fs) = funcT f ++ textT fs := rfl
    rw [e, ih, funcT_lines, List.flatMap_cons, joinNl_app]
/-- A function that comes back. -/
def Back (f : Fn) : Prop := CanV f ∧ f.2.2.2.2.2.2.2.2 = ([], ([], [])) ∧ ∀ p ∈ f.2.2.2.2.2.2.1, I64 p.2
theorem run_rows {lines : List Int} : ∀ (code : List (Int × Int)) (k : Nat) (fs : List Fn) (g : Fn), (∀ p ∈ code, rightInstr p = true ∧ I64 p.2) → (∀ i, 0 ≤ atL lines i ∧ atL lines i ≤ 65535) →
    okRun (fs, some g) ((code.zipIdx k).map (rowL lines)) = some (fs, some (g.1, (g.2.1, (g.2.2.1, (g.2.2.2.1, (g.2.2.2.2.1, (g.2.2.2.2.2.1, (g.2.2.2.2.2.2.1 ++ code, (g.2.2.2.2.2.2.2.1 ++ (code.zipIdx k).map (fun p => atL lines p.2), g.2.2.2.2.2.2.2.2)))))))))
  | [], k, fs, g, _, _ => by simp [okRun]
  | p :: code, k, fs, g, h, hl => by
    obtain ⟨h1, h2⟩ := h p (by simp)
    obtain ⟨l1, l2⟩ := hl k
    obtain ⟨n1, n2⟩ := lineT_ne (p := p) l1
    have hI := lineI_back l1 l2 h1 h2
    have hs : readStep (fs, some g) (lineT (atL lines k) p) = ((fs, some (addLine g p (atL lines k))), 0) := by
      unfold readStep
      rw [if_neg n1]
      dsimp only
      rw [if_neg n2, hI, if_pos rfl]
    have e : rowL lines (p, k) = lineT (atL lines k) p := rfl
    rw [List.zipIdx_cons, List.map_cons, okRun, e, hs, if_pos rfl]
    dsimp only
    rw [run_rows code (k + 1) fs (addLine g p (atL lines k)) (fun q hq => h q (by simp [hq])) hl]
    simp [addLine]
theorem zipIdx_at (lines : List Int) {α : Type} (code : List α) (h : lines.length = code.length) : code.zipIdx.map (fun p => atL lines p.2) = lines := by
  refine List.ext_getElem (by simp [h]) fun i h1 h2 => ?_
  simp [atL, h2]
theorem run_func {f : Fn} (h : Back f) (fs : List Fn) : okRun (fs, none) (linesF f) = some (fs ++ [f], none) := by
  obtain ⟨hc, hb, hi⟩ := h
  obtain ⟨name, inner, outer, params, results, locals, code, lines, tl⟩ := f
  dsimp only at hb hi
  subst hb
  obtain ⟨c1, c2, c3, c4, c5, c6, c7, c8, c9⟩ := hc
  dsimp only at c1 c2 c3 c4 c5 c6 c7 c8 c9
  obtain ⟨e1, e2⟩ := head_back c1 c2
  have hne := headT_ne name inner outer params results locals
  have hs : readStep (fs, none) (headT name inner outer params results locals) = ((fs, some (name, (inner, (outer, (params, (results, (locals, ([], ([], ([], ([], []))))))))))), 0) := by
    unfold readStep
    rw [if_neg hne]
    dsimp only
    rw [if_pos e1, e2]
  have hl : ∀ i, 0 ≤ atL lines i ∧ atL lines i ≤ 65535 := by
    intro i
    unfold atL
    cases hq : lines[i]? with
    | none => exact ⟨by decide, by decide⟩
    | some v =>
      simp only [linesB, Bool.and_eq_true, decide_eq_true_eq] at c8
      have := List.all_eq_true.1 c8.2 v (List.mem_of_getElem? hq)
      simpa [lineBQ] using this
  have hr : ∀ p ∈ code, rightInstr p = true ∧ I64 p.2 := fun p hp => ⟨rightN_is (List.all_eq_true.1 c6 p hp), hi p hp⟩
  have hrun := run_rows (lines := lines) code 0 fs (name, (inner, (outer, (params, (results, (locals, ([], ([], ([], ([], [])))))))))) hr hl
  dsimp only [List.nil_append] at hrun
  rw [zipIdx_at lines code c7] at hrun
  unfold linesF
  rw [okRun, hs, if_pos rfl]
  dsimp only
  rw [okRun_app _ _ _ _ hrun]
  have hen : readStep (fs, some (name, (inner, (outer, (params, (results, (locals, (code, (lines, ([], ([], [])))))))))) ) endW = ((fs ++ [(name, (inner, (outer, (params, (results, (locals, (code, (lines, ([], ([], [])))))))))) ], none), 0) := by
    unfold readStep
    rw [if_neg (by decide)]
    dsimp only
    rw [if_pos rfl]
  rw [okRun, hen, if_pos rfl]
  rfl
theorem run_prog : ∀ (l fs : List Fn), (∀ f ∈ l, Back f) → okRun (fs, none) (l.flatMap linesF) = some (fs ++ l, none)
  | [], fs, _ => by simp [okRun]
  | f :: l, fs, h => by
    rw [List.flatMap_cons, okRun_app _ _ _ _ (run_func (h f (by simp)) fs), run_prog l (fs ++ [f]) fun g hg => h g (by simp [hg])]
    simp
theorem lines_no10 {f : Fn} (h : Back f) : ∀ x ∈ linesF f, ∀ b ∈ x, b ≠ 10 := by
  intro x hx
  rcases List.mem_cons.1 hx with rfl | hx
  · exact headT_no10 h.1.1
  · rcases List.mem_append.1 hx with hx | hx
    · obtain ⟨p, -, rfl⟩ := List.mem_map.1 hx
      exact lineT_no10 _ _
    · obtain rfl := List.mem_singleton.1 hx
      decide
theorem text_back {fs : List Fn} (h : ∀ f ∈ fs, Back f) (hne : fs ≠ []) : (∀ j, j < (splitNl (trimNl (textT fs))).length → errAt (splitNl (trimNl (textT fs))) j = 0) ∧ stAt (splitNl (trimNl (textT fs))) (splitNl (trimNl (textT fs))).length = (fs, none) := by
  have e : splitNl (trimNl (textT fs)) = fs.flatMap linesF := by
    rw [textT_lines]
    refine split_trim _ (fun x hx => ?_) ?_
    · obtain ⟨f, hf, hx⟩ := List.mem_flatMap.1 hx
      exact lines_no10 (h f hf) x hx
    · cases fs with
      | nil => exact absurd rfl hne
      | cons f fs => simp [linesF]
  rw [e]
  exact okRun_out _ _ (by simpa using run_prog fs [] h)
/-- How long it is. -/
theorem text_short {fs : List Fn} (h : ∀ f ∈ fs, Back f) (hs : ∀ f ∈ fs, f.2.2.2.2.2.2.1.length ≤ 150) (hn : fs.length ≤ 40) : (textT fs).length ≤ 1000000 := by
  have h1 : (textT fs).length ≤ fs.length * 20000 := flatMap_le fun f hf => by
    obtain ⟨hc, hb, hi⟩ := h f hf
    have hlen := CanF.len hc
    have a1 := headT_le (name := f.1) (inner := f.2.1) (outer := f.2.2.1) (params := f.2.2.2.1) (results := f.2.2.2.2.1) (locals := f.2.2.2.2.2.1)
    have a2 := codeT_le (lines := f.2.2.2.2.2.2.2.1) (code := f.2.2.2.2.2.2.1) (fun v hv => by
      have c8 := hc.2.2.2.2.2.2.2.1
      simp only [linesB, Bool.and_eq_true, decide_eq_true_eq] at c8
      have := List.all_eq_true.1 c8.2 v hv
      simp only [lineBQ, decide_eq_true_eq] at this
      exact ⟨by omega, by omega⟩) hi
    have a3 := hs f hf
    simp only [funcT, List.length_append, List.length_cons, List.length_nil]
    omega
  omega
end Go.Proofs.YtkdnbnkbnegckaaGreatDoor
