/- Numbers and instructions are read from their texts again. The words of a line: asm.words; the reference's cut. The reference's cut: the words of a line. asm.Head: a function's head. -/
import Derived.Test.YtkdnbnkbnegckaaGreatDoorInstrR
import Derived.Test.YtkdnbnkbnegckaaGreatDoorDaS
import Derived.Test.YtkdnbnkbnegckaaGreatDoorPur
import Derived.Test.YtkdnbnkbnegckaaGreatDoorSigW
import Derived.Test.YtkdnbnkbnegckaaGreatDoorInstrX
import Derived.Deep.DeepCutAuto
namespace Go.Proofs.YtkdnbnkbnegckaaGreatDoor
open Go.RowKit
set_option maxRecDepth 20000
set_option linter.unusedVariables false
theorem right_is {i : InstrT} (h : rightInstr i = true) : isOp i.1 = true := by
  unfold rightInstr at h; rw [Bool.and_eq_true] at h; exact h.1
theorem right_none {i : InstrT} (h : rightInstr i = true) (h0 : operandI i.1 = 0) : i.2 = 0 := by
  unfold rightInstr at h
  rw [Bool.and_eq_true, h0] at h
  have h2 := h.2
  simp [mayOperand, mostI] at h2
  omega
theorem wrap64_mul (x y : Int) : wrap64 (10 * wrap64 x + y) = wrap64 (10 * x + y) := by unfold wrap64; omega
theorem digN_dig : ∀ (f m : Nat), m ≤ f → (digN m).all isDig = true := by
  intro f
  induction f with
  | zero => intro m h; obtain rfl : m = 0 := by omega
            rw [digN_lt (by decide)]; decide
  | succ f ih =>
    intro m h
    have hd : ∀ d, d < 10 → isDig (dig8 d) = true := fun d hd => by
      unfold isDig; rw [dig8_nat hd, decide_eq_true (by omega), decide_eq_true (by omega)]; rfl
    by_cases hm : m < 10
    · rw [digN_lt hm]; simp [hd m hm]
    · rw [digN_ge (by omega), List.all_append, ih (m / 10) (by omega), digN_lt (show m % 10 < 10 by omega)]
      simp [hd (m % 10) (by omega)]
theorem digN_val (sg : Int) : ∀ (f m : Nat), m ≤ f → digW sg (digN m) 0 = wrap64 (sg * (m : Int)) := by
  intro f
  have hd : ∀ d : Nat, d < 10 → ((dig8 d).toNat : Int) - 48 = d := fun d hd => by rw [dig8_nat hd]; omega
  induction f with
  | zero =>
    intro m h
    obtain rfl : m = 0 := by omega
    rw [digN_lt (by decide)]
    show wrap64 (10 * 0 + sg * (((dig8 0).toNat : Int) - 48)) = _
    rw [hd 0 (by decide)]; simp
  | succ f ih =>
    intro m h
    by_cases hm : m < 10
    · rw [digN_lt hm]
      show wrap64 (10 * 0 + sg * (((dig8 m).toNat : Int) - 48)) = _
      rw [hd m hm]; simp
    · rw [digN_ge (by omega), digN_lt (show m % 10 < 10 by omega), digW_snoc, ih (m / 10) (by omega), hd (m % 10) (by omega), wrap64_mul]
      congr 1
      have e : (m : Int) = 10 * ((m / 10 : Nat) : Int) + ((m % 10 : Nat) : Int) := by omega
      rw [e, Int.mul_add, Int.mul_left_comm]
theorem digN_ne (m : Nat) : digN m ≠ [] := by unfold digN; simp [revDig_ne]
theorem negN_dig {l : List UInt8} (h : l.all isDig = true) : negN l = false := by
  cases l with
  | nil => rfl
  | cons b t =>
    have hb : isDig b = true := by simp at h; exact h.1
    rw [← Bool.not_eq_true, negN_iff]
    simp only [List.head?_cons, Option.some.injEq]
    rintro rfl
    exact absurd hb (by decide)
theorem wrap64_id {n : Int} (h : I64 n) : wrap64 n = n := by obtain ⟨h1, h2⟩ := h; unfold wrap64; omega
theorem numN_dec {n : Int} (h : I64 n) : numN (decB n) = (n, 0) := by
  have hl := decB_len h.1 h.2
  by_cases h0 : n < 0
  · have e := decB_neg h0
    have hn : negN (decB n) = true := by rw [e]; rfl
    have hr : restN (decB n) = digN n.natAbs := by unfold restN; rw [if_pos hn, e]; rfl
    have hs : sgN (decB n) = -1 := by unfold sgN; rw [if_pos hn]
    have hv : digW (sgN (decB n)) (restN (decB n)) 0 = n := by
      rw [hr, hs, digN_val _ _ _ (Nat.le_refl _), show (-1 : Int) * (n.natAbs : Int) = n by omega, wrap64_id h]
    rw [numN_ok ⟨by rw [hr]; exact digN_ne _, by rw [hr]; exact digN_dig _ _ (Nat.le_refl _), hl, by rw [hv]⟩, hv]
  · have e := decB_nn h0
    have hn : negN (decB n) = false := by rw [e]; exact negN_dig (digN_dig _ _ (Nat.le_refl _))
    have hr : restN (decB n) = digN n.natAbs := by unfold restN; rw [if_neg (by rw [hn]; decide), e]
    have hs : sgN (decB n) = 1 := by unfold sgN; rw [if_neg (by rw [hn]; decide)]
    have hv : digW (sgN (decB n)) (restN (decB n)) 0 = n := by
      rw [hr, hs, digN_val _ _ _ (Nat.le_refl _), show (1 : Int) * (n.natAbs : Int) = n by omega, wrap64_id h]
    rw [numN_ok ⟨by rw [hr]; exact digN_ne _, by rw [hr]; exact digN_dig _ _ (Nat.le_refl _), hl, by rw [hv]⟩, hv]

theorem name_blank : ∀ k < 35, ∀ b ∈ nameAt k, b ≠ 32 := by decide +kernel
theorem name_find : ∀ k < 35, findI (nameAt k) = ((k : Int), true) := by decide +kernel
theorem sp_all {s : List UInt8} (h : ∀ b ∈ s, b ≠ 32) : sp s = s.length := by
  induction s with
  | nil => rfl
  | cons b t ih =>
    have hb : b ≠ 32 := h b (by simp)
    simp only [sp, hb, if_false, List.length_cons]
    rw [ih (fun c hc => h c (by simp [hc]))]
theorem sp_cut {s : List UInt8} (h : ∀ b ∈ s, b ≠ 32) (t : List UInt8) : sp (s ++ 32 :: t) = s.length := by
  induction s with
  | nil => simp [sp]
  | cons b s ih =>
    have hb : b ≠ 32 := h b (by simp)
    simp only [List.cons_append, sp, hb, if_false, List.length_cons]
    rw [ih (fun c hc => h c (by simp [hc]))]
theorem readI_text {i : InstrT} (h : rightInstr i = true) (hb : I64 i.2) : readI (textI i) = (i, 0) := by
  have his := right_is h
  have his2 := his
  simp only [isOp, Bool.and_eq_true, decide_eq_true_eq] at his2
  obtain ⟨k, hk⟩ := Int.eq_ofNat_of_zero_le his2.1
  have hk35 : k < 35 := by omega
  have hnm : opNameL i.1 = nameAt k := by unfold opNameL; rw [if_pos his, hk]; rfl
  by_cases h0 : operandI i.1 = 0
  · have e := textI_bare h h0
    rw [hnm] at e
    have hs : sp (textI i) = (textI i).length := by rw [e]; exact sp_all (name_blank k hk35)
    have hf : ((k : Int), true) = findI ((textI i).take (sp (textI i))) := by rw [hs, List.take_length, e, name_find k hk35]
    have q := (readI_eq (textI i) _ hf _ rfl).2.2.1 rfl (by rw [← hk]; exact h0) (by rw [hs]; omega)
    rw [q]
    have h3 := right_none h h0
    obtain ⟨a, b⟩ := i
    simp only at hk h3 ⊢
    rw [hk, h3]
  · have e := textI_has h h0
    rw [hnm] at e
    have hs : sp (textI i) = (nameAt k).length := by rw [e]; exact sp_cut (name_blank k hk35) _
    have hl : (nameAt k).length < (textI i).length := by rw [e]; simp
    have hf : ((k : Int), true) = findI ((textI i).take (sp (textI i))) := by rw [hs, e, List.take_left', name_find k hk35]; rfl
    have hr : restS (textI i) = decB i.2 := by
      unfold restS
      rw [if_pos (by rw [hs]; exact hl), hs, e]
      simp
    have q := (readI_eq (textI i) _ hf (i.2, 0) (by rw [hr, numN_dec hb])).2.2.2.2.2.1 rfl (by rw [← hk]; exact h0) (by rw [hs]; exact hl) rfl (by rw [← hk]; exact h)
    rw [q, ← hk]
end Go.Proofs.YtkdnbnkbnegckaaGreatDoor
namespace Go.Proofs.YtkdnbnkbnegckaaGreatDoor
open Go.RowKit
set_option maxRecDepth 20000
set_option linter.unusedVariables false
def stepW (ws : List (List UInt8)) (c : UInt8) : List (List UInt8) := if c = 32 then ws ++ [[]] else ws.dropLast ++ [ws.getLast?.getD [] ++ [c]]
/-- A line's pieces between its blanks. -/
def wordsF (s : List UInt8) : List (List UInt8) := s.foldl stepW [[]]
theorem stepW_len (ws : List (List UInt8)) (c : UInt8) (h : ws ≠ []) : stepW ws c ≠ [] ∧ (stepW ws c).length ≤ ws.length + 1 := by
  unfold stepW
  have := List.length_pos_iff.2 h
  split
  · simp
  · simp only [List.length_append, List.length_dropLast, List.length_cons, List.length_nil, ne_eq, List.append_eq_nil_iff]
    refine ⟨by simp, by omega⟩
theorem wordsF_take {s : List UInt8} {k : Nat} (h : k < s.length) : wordsF (s.take (k + 1)) = stepW (wordsF (s.take k)) s[k] := by
  rw [wordsF, List.take_succ_eq_append_getElem h, List.foldl_append]
  rfl
theorem wordsF_ne (s : List UInt8) (k : Nat) : wordsF (s.take k) ≠ [] ∧ (wordsF (s.take k)).length ≤ k + 1 := by
  induction k with
  | zero => simp [wordsF]
  | succ k ih =>
    by_cases h : k < s.length
    · rw [wordsF_take h]
      have := stepW_len (wordsF (s.take k)) s[k] ih.1
      exact ⟨this.1, by omega⟩
    · rw [List.take_of_length_le (by omega)] at ih ⊢
      exact ⟨ih.1, by omega⟩
@[simp] theorem vset_enc {τ : Ty} {l : List (Data τ)} {i : Nat} {x : Data τ} : vset (encL τ l) i (enc τ x) = encL τ (l.set i x) := by simp only [vset, encL, mapE, List.map_set]
theorem wordsF_elem {s : List UInt8} (k : Nat) : ∀ w ∈ wordsF (s.take k), w.length ≤ k := by
  induction k with
  | zero => simp [wordsF]
  | succ k ih =>
    by_cases h : k < s.length
    · rw [wordsF_take h, stepW]
      intro w hw
      split at hw
      · rcases List.mem_append.1 hw with h2 | h2
        · have := ih w h2; omega
        · obtain rfl := List.mem_singleton.1 h2; simp
      · rcases List.mem_append.1 hw with h2 | h2
        · have := ih w ((List.dropLast_sublist _).mem h2); omega
        · obtain rfl := List.mem_singleton.1 h2
          cases hg : (wordsF (s.take k)).getLast? with
          | none => simp
          | some l =>
            have := ih l (List.mem_of_getLast? hg)
            simp
            omega
    · rw [List.take_of_length_le (by omega)] at ih ⊢
      intro w hw
      have := ih w hw
      omega
theorem set_last {α : Type} (ws : List α) (y : α) (h : ws ≠ []) : ws.set (ws.length - 1) y = ws.dropLast ++ [y] := by
  obtain ⟨i, l, rfl⟩ : ∃ i l, ws = i ++ [l] := ⟨ws.dropLast, ws.getLast h, (List.dropLast_concat_getLast h).symm⟩
  simp
theorem u8_32 {x : UInt8} : (u8I x = 32) ↔ x = 32 := by
  constructor
  · intro h
    exact UInt8.toNat_inj.1 (by have : (x.toNat : Int) = 32 := h; show x.toNat = 32; omega)
  · rintro rfl
    rfl
theorem sp_words {s : List UInt8} (hs : s.length ≤ 1000000) : S_asm_words s = some (wordsF s, ()) := by
  refine u_asm_words (N := s.length + 1) ?_
  simp [M_asm_words]
  refine iter_to (fun d => s.length - d.2.1.toNat) (fun d => ∃ k : Nat, d = (wordsF (s.take k), ((k : Int), ())) ∧ k ≤ s.length) ?_ _ _ ⟨0, by simp [wordsF], Nat.zero_le _⟩ (by simp)
  rintro _ again ⟨k, rfl, hk⟩ ih
  obtain ⟨hne, hle⟩ := wordsF_ne s k
  have hpos := List.length_pos_iff.2 hne
  by_cases h : k < s.length
  · have hw : wrp .i64 ((k : Int) + 1) = (k : Int) + 1 := wi64 (by omega) (by omega)
    have hw2 : wrp .i64 (((wordsF (s.take k)).length : Int) - 1) = ((wordsF (s.take k)).length : Int) - 1 := wi64 (by omega) (by omega)
    have hw3 : wrp .i32 (u8I s[k]) = u8I s[k] := by have h1 := @u8_lt s[k]; have h2 := @u8_ge s[k]; rw [wrp, IntKind.wrap_i32]; omega
    have hw4 : wrp .i32 (u8I 32) = 32 := by decide
    have hel := wordsF_elem (s := s) k
    have h2 := ih (wordsF (s.take (k + 1)), ((k : Int) + 1, ())) ⟨k + 1, rfl, h⟩ (by simp; omega)
    rw [wordsF_take h] at h2
    generalize wordsF (s.take k) = ws at *
    have hto : ((ws.length : Int) - 1).toNat = ws.length - 1 := by omega
    by_cases hc : s[k] = 32
    · have hr := room_t (a := ws.length) (b := 1) (c := 16) (by omega) (by omega)
      rw [stepW, if_pos hc] at h2
      simp [h, bnd_get h, hw, hw3, hw4, u8_32, hc, hr, h2]
    · rw [stepW, if_neg hc] at h2
      have hl : ws.length - 1 < ws.length := by omega
      have hg : ws.getLast? = some ws[ws.length - 1] := by rw [List.getLast?_eq_getElem?, List.getElem?_eq_getElem hl]
      rw [hg] at h2
      have h9 := hel ws[ws.length - 1] (List.getElem_mem hl)
      have h8 := set_last ws (ws[ws.length - 1] ++ [s[k]]) hne
      simp [h, bnd_get h, hw, hw2, hw3, u8_32, hc, hto, bnd_get hl, vset_enc, h8]
      refine ⟨by omega, by omega, by omega, by omega, by omega, ?_⟩
      simpa using h2
  · obtain rfl : k = s.length := by omega
    simp
end Go.Proofs.YtkdnbnkbnegckaaGreatDoor
namespace Go.Proofs.YtkdnbnkbnegckaaGreatDoor
open Go.RowKit
set_option maxRecDepth 20000
set_option linter.unusedVariables false
def strOf (b : List UInt8) : Value := .string (strB b)
theorem extract_mid (s : List UInt8) (a b : Nat) : (strB s).extract a b = strB ((s.take b).drop a) := by
  have h : ((strB s).extract a b).data = ((s.take b).drop a).toArray := by
    rw [ByteArray.data_extract]
    apply Array.ext'
    simp [strB, List.extract_eq_take_drop, List.drop_take]
  cases hx : (strB s).extract a b with
  | mk d => rw [hx] at h; subst h; rfl
end Go.Proofs.YtkdnbnkbnegckaaGreatDoor
namespace Go.Proofs.YtkdnbnkbnegckaaGreatDoor
open Go.RowKit
set_option maxRecDepth 20000
set_option linter.unusedVariables false
/-- A list of types, as a value. -/
def SlT (B : Nat) (W : World) (x : List Int) (v : Value) : Prop := ∃ ao cap, v = .slice ao x.length cap ∧ Cells W ao (x.map (.int .i64)) ∧ x.length ≤ cap ∧ Fresh B ao
theorem SlT.nil (B : Nat) (W : World) : SlT B W [] (.slice none 0 0) := ⟨none, 0, rfl, Cells.nil _ _, Nat.le_refl _, fun _ e => by cases e⟩
theorem SlT.ext {B : Nat} {W W' : World} {x : List Int} {v : Value} (h : SlT B W x v) (hx : Ext W W') : SlT B W' x v := by
  obtain ⟨ao, cap, h1, h2, h3⟩ := h
  exact ⟨ao, cap, h1, h2.ext hx, h3⟩
theorem flat_intsA : ∀ (x : List Int), (encL tI x).flatten = x.map fun n => C.v (.int .i64 n)
  | [] => rfl
  | n :: x => by
    rw [← encL_cons]
    show C.v (.int .i64 n) :: (encL tI x).flatten = _
    rw [flat_intsA x]
    rfl
theorem flat_strs : ∀ (x : List (List UInt8)), (encL .str x).flatten = x.map fun b => C.v (.string ⟨⟨b⟩⟩)
  | [] => rfl
  | n :: x => by
    rw [← encL_cons]
    show C.v (.string ⟨⟨n⟩⟩) :: (encL .str x).flatten = _
    rw [flat_strs x]
    rfl
theorem repCs_ints {W : World} (x : List Int) : RepCs W W0 (encL tI x).flatten (x.map (.int .i64)) := by
  rw [flat_intsA]
  refine ⟨by rw [List.length_map, List.length_map], fun i c v hc hv => ?_⟩
  rw [List.getElem?_map] at hc hv
  cases hq : x[i]? with
  | none => rw [hq] at hc; cases hc
  | some n => rw [hq] at hc hv; cases hc; cases hv; exact .v _ rfl
theorem repCs_nil0 {W : World} : RepCs W W0 [] [] := ⟨rfl, fun i c u h1 _ => by simp at h1⟩
theorem SlT.rep {B : Nat} {W : World} {x : List Int} {v : Value} (h : SlT B W x v) : RepC W W0 (.fz 1 (encL tI x)) v := by
  obtain ⟨ao, cap, rfl, h2, h3, -⟩ := h
  have := repC_in (W := W) (sz := 1) (cap := cap) (es := encL tI x) (ao := ao) (us := x.map (.int .i64)) (by decide) (fun e he => by obtain ⟨n, -, rfl⟩ := List.mem_map.1 he; rfl) (by rw [encL_len]; exact h3) h2 (repCs_ints x)
  rwa [encL_len] at this
/-! What a head tells -/
def funcW : List UInt8 := [102, 117, 110, 99]
def wordAt (ws : List (List UInt8)) (i : Nat) : List UInt8 := ws[i]?.getD []
def badH (ws : List (List UInt8)) : Bool := decide (wordAt ws 0 ≠ funcW ∨ (ws.length ≠ 5 ∧ ws.length ≠ 6))
def errT (ws : List (List UInt8)) : Int := (((ws.drop 2).map readE).find? (fun e => e != 0)).getD 0
def headE (s : List UInt8) : Int := if badH (wordsF s) = true then 19 else if mayName (strB (wordAt (wordsF s) 1)) = false then 7 else errT (wordsF s)
def zeroFn : Fn := ([], (false, ([], ([], ([], ([], ([], ([], ([], ([], []))))))))))
def headF (s : List UInt8) : Fn := if headE s = 0 then (wordAt (wordsF s) 1, (decide ((wordsF s).length = 6), ((if (wordsF s).length = 6 then readL (wordAt (wordsF s) 5) else []), (readL (wordAt (wordsF s) 2), (readL (wordAt (wordsF s) 3), (readL (wordAt (wordsF s) 4), ([], ([], ([], ([], [])))))))))) else zeroFn
/-- A head, as cells. -/
def HeadR (B : Nat) (W : World) (F : Fn) (cs : List Value) : Prop := ∃ v2 v3 v4 v5, cs = [.string (strB F.1), .bool F.2.1, v2, v3, v4, v5, .slice none 0 0, .slice none 0 0, .slice none 0 0, .slice none 0 0, .slice none 0 0] ∧ SlT B W F.2.2.1 v2 ∧ SlT B W F.2.2.2.1 v3 ∧ SlT B W F.2.2.2.2.1 v4 ∧ SlT B W F.2.2.2.2.2.1 v5
theorem zero_head {B : Nat} {W : World} : HeadR B W zeroFn [.string ⟨#[]⟩, .bool false, .slice none 0 0, .slice none 0 0, .slice none 0 0, .slice none 0 0, .slice none 0 0, .slice none 0 0, .slice none 0 0, .slice none 0 0, .slice none 0 0] := ⟨_, _, _, _, rfl, SlT.nil _ _, SlT.nil _ _, SlT.nil _ _, SlT.nil _ _⟩
theorem fn_head {B : Nat} {W : World} {nm : List UInt8} {inn : Bool} {ou pa re lo : List Int} {v2 v3 v4 v5 : Value} (h2 : SlT B W ou v2) (h3 : SlT B W pa v3) (h4 : SlT B W re v4) (h5 : SlT B W lo v5) :
    HeadR B W (nm, (inn, (ou, (pa, (re, (lo, ([], ([], ([], ([], [])))))))))) [.string (strB nm), .bool inn, v2, v3, v4, v5, .slice none 0 0, .slice none 0 0, .slice none 0 0, .slice none 0 0, .slice none 0 0] := ⟨v2, v3, v4, v5, rfl, h2, h3, h4, h5⟩
theorem headF_bare (s : List UInt8) : (headF s).2.2.2.2.2.2 = ([], ([], ([], ([], [])))) := by unfold headF zeroFn; split <;> rfl
theorem HeadR.rep {B : Nat} {W : World} {F : Fn} {cs : List Value} (h : HeadR B W F cs) (hb : F.2.2.2.2.2.2 = ([], ([], ([], ([], []))))) : RepCs W W0 (enc tF F) cs := by
  obtain ⟨v2, v3, v4, v5, rfl, h2, h3, h4, h5⟩ := h
  obtain ⟨nm, inn, ou, pa, re, lo, tl⟩ := F
  dsimp only at hb h2 h3 h4 h5
  subst hb
  have n : ∀ {sz : Nat}, RepC W W0 (.fz sz []) (.slice none 0 0) := .fz _ 0 [] none [] (by simp) (by simp) (by simp) (by simp) (by simp) rfl (by simp)
  have cons : ∀ {c : C} {u : Value} {cs : List C} {us : List Value}, RepC W W0 c u → RepCs W W0 cs us → RepCs W W0 (c :: cs) (u :: us) := fun h hs => ⟨by simp [hs.1], fun i x v h1 h2 => by
    cases i with
    | zero => cases h1; cases h2; exact h
    | succ i => exact hs.2 i x v h1 h2⟩
  exact cons (.v _ rfl) (cons (.v _ rfl) (cons h2.rep (cons h3.rep (cons h4.rep (cons h5.rep (cons n (cons n (cons n (cons n (cons n repCs_nil0))))))))))
/-- What both heads hand back. -/
def RetHead (s : List UInt8) (w : World) (e : Ending) (w' : World) : Prop := ∃ cs, e = .returned (.tuple #[.agg cs.toArray, .int .i64 (headE s)]) ∧ HeadR w.heap.size w' (headF s) cs ∧ Ext w w'
/-! The words, as a row -/
theorem words_of {W : World} {ws : List (List UInt8)} {v : Value} (hr : RepC W W0 (.fz 1 (encL .str ws)) v) : ∃ ao cap, v = .slice ao ws.length cap ∧ Cells W ao (ws.map strOf) ∧ ws.length ≤ cap := by
  obtain ⟨es, he⟩ : ∃ es, es = encL .str ws := ⟨_, rfl⟩
  have hel : es.length = ws.length := by rw [he, encL_len]
  rw [← he] at hr
  cases hr with
  | fz _ cap _ ao us hu hc ha hw hrg hl hrep =>
    have hfl := flatten_len es hu
    have hul : us.length = ws.length := by rw [← hl, hfl]; omega
    have hus : us = ws.map strOf := by
      refine List.ext_getElem (by rw [hul, List.length_map]) fun j h1 h2 => ?_
      have hj : j < ws.length := by omega
      have hft : es.flatten[j]? = some (.v (.string ⟨⟨ws[j]⟩⟩)) := by rw [he, flat_strs, List.getElem?_map, List.getElem?_eq_getElem hj]; rfl
      have h3 := hrep j _ us[j] hft (List.getElem?_eq_getElem h1)
      rw [List.getElem_map]
      generalize us[j] = u at *
      cases h3
      rfl
    refine ⟨ao, cap, by rw [hel], ⟨fun hne => ha fun h0 => hne ?_, fun b off e j u hj => hrg b off e j u (by rw [hus]; exact hj)⟩, by rw [← hel]; exact hc⟩
    rw [List.eq_nil_of_length_eq_zero (show ws.length = 0 by rw [← hel, h0]; rfl)]
    rfl
theorem c_words {W : World} {s : List UInt8} (hs : s.length ≤ 1000000) : Calls Tryz.prog 23 #[.string (strB s)] W fun e W' => ∃ ao cap, e = .returned (.slice ao (wordsF s).length cap) ∧ Cells W' ao ((wordsF s).map strOf) ∧ (wordsF s).length ≤ cap ∧ Ext W W' := by
  have hw : callW Tryz.prog annX plansX 23 [⟨.one, [.c (.v (.string ⟨⟨s⟩⟩))]⟩] ⟨[], []⟩ = some (⟨.one, [.c (.fz 1 (encL .str (wordsF s)))]⟩, ⟨[], []⟩) := k_asm_words (s, ()) _ (sp_words hs) _ (by kernel_rfl)
  refine (pure_one hw (vs := [.string (strB s)]) rfl fun i t u h1 h2 => ?_).mono fun e W' ⟨u, he, hu, hx⟩ => ?_
  · match i with
    | 0 =>
      cases h1
      cases h2
      exact ⟨_, rfl, .v _ rfl⟩
    | i + 1 => simp at h1
  · obtain ⟨ao, cap, rfl, hC, hcap⟩ := words_of hu
    exact ⟨ao, cap, he, hC, hcap, hx⟩
end Go.Proofs.YtkdnbnkbnegckaaGreatDoor
