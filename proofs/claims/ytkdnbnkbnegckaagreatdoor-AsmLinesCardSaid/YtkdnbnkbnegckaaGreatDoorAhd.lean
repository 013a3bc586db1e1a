/- The reference's cut: the words of a line. asm.Head: a function's head. -/
import Derived.Test.YtkdnbnkbnegckaaGreatDoorRetC
import Derived.Test.YtkdnbnkbnegckaaGreatDoorInstrR
import Derived.Test.YtkdnbnkbnegckaaGreatDoorSigW
import Derived.Test.YtkdnbnkbnegckaaGreatDoorNames
import Derived.Deep.DeepCutAuto
namespace Go.Proofs.YtkdnbnkbnegckaaGreatDoor
open Go.RowKit
set_option maxRecDepth 20000
set_option linter.unusedVariables false
def strOf (b : List UInt8) : Value := .string (strB b)
theorem extract_mid (s : List UInt8) (a b : Nat) : (strB s).extract a b = strB ((s.take b).drop a) := by
  have h : ((strB s).extract a b).data = ((s.take b).drop a).toArray := by
    rw [ByteArray.data_extract]
    apply Array.ext'
    simp [strB, List.extract_eq_take_drop, List.drop_take]
  cases hx : (strB s).extract a b with
  | mk d => rw [hx] at h; subst h; rfl
def CutR (s : List UInt8) (k fr : Nat) (out : List (List UInt8)) : Prop := (k ≤ s.length ∧ fr ≤ k ∧ wordsF (s.take k) = out ++ [(s.take k).drop fr]) ∨ (k = s.length + 1 ∧ out = wordsF s)
theorem cutR_end {s : List UInt8} {fr : Nat} {out : List (List UInt8)} (h : CutR s s.length fr out) : fr ≤ s.length ∧ CutR s (s.length + 1) (s.length + 1) (out ++ [(s.take s.length).drop fr]) := by
  rcases h with ⟨_, h1, h2⟩ | ⟨h, _⟩
  · refine ⟨h1, .inr ⟨rfl, ?_⟩⟩
    rw [← h2, List.take_length]
  · omega
theorem cutR_hit {s : List UInt8} {k fr : Nat} {out : List (List UInt8)} (hk : k < s.length) (hc : s[k] = 32) (h : CutR s k fr out) : fr ≤ k ∧ CutR s (k + 1) (k + 1) (out ++ [(s.take k).drop fr]) := by
  rcases h with ⟨_, h1, h2⟩ | ⟨h, _⟩
  · refine ⟨h1, .inl ⟨hk, Nat.le_refl _, ?_⟩⟩
    rw [wordsF_take hk, h2, stepW, if_pos hc, show (s.take (k + 1)).drop (k + 1) = [] from List.drop_eq_nil_of_le (by simp; omega)]
  · omega
theorem cutR_miss {s : List UInt8} {k fr : Nat} {out : List (List UInt8)} (hk : k < s.length) (hc : s[k] ≠ 32) (h : CutR s k fr out) : CutR s (k + 1) fr out := by
  rcases h with ⟨_, h1, h2⟩ | ⟨h, _⟩
  · refine .inl ⟨hk, by omega, ?_⟩
    rw [wordsF_take hk, h2, stepW, if_neg hc, List.take_succ_eq_append_getElem hk, List.drop_append_of_le_length (by simp; omega)]
    simp
  · omega
set_option maxHeartbeats 4000000 in
theorem asmref_cut (s : List UInt8) (w : World) (hl : s.length ≤ 1000000) :
    Calls Tryz.prog 26 #[.string (strB s)] w fun e w' => ∃ v, e = .returned v ∧ w'.ownsRow w.heap.size 9 1 v (wordsF s).length ((wordsF s).map strOf) ∧ Ext w w' := by
  have HSZ : Hid ((strB s).size = s.length) := strB_size s
  go_enter Tryz.func26, Tryz.ntmps26
  go_wp2_with fail
  go_loopw [3, 4, 5] (fun v f i wr => ∃ (k fr : Nat) (out : List (List UInt8)), i = .int .i64 k ∧ f = .int .i64 fr ∧ Hid (CutR s k fr out) ∧ Hid (out.length ≤ k) ∧ k ≤ s.length + 1 ∧ wr.ownsRow w.heap.size 9 1 v out.length (out.map strOf) ∧ Ext w wr)
    (fun _ _ i _ => s.length + 1 - (intOf i).toNat)
  case atStart => exact ⟨0, 0, [], rfl, rfl, Lib.hid (.inl ⟨Nat.zero_le _, Nat.le_refl _, by simp [wordsF]⟩), Lib.hid (Nat.le_refl _), by omega, World.ownsRow_nil _ _ _ _, Ext.rf w⟩
  case round =>
    obtain ⟨k, fr, out, rfl, rfl, HR, HL, hk, hown, hext⟩ := hrel
    have hle := HL.out
    obtain ⟨ro, rc, rfl⟩ := own_form hown
    have z1 : (0 : Int) ≤ (k : Int) := by omega
    by_cases hlt : k ≤ s.length
    · have t1 : decide ((k : Int) ≤ (strB s).size) = true := decide_eq_true (by rw [HSZ.out]; omega)
      by_cases he : k = s.length
      · subst he
        obtain ⟨hfr, hR⟩ := cutR_end HR.out
        have t2 : ((s.length : Int) == (strB s).size) = true := by rw [HSZ.out]; simp
        have hx := extract_mid s fr s.length
        rw [List.take_length] at hx hR
        have b1 : fr ≤ s.length := hfr
        have b2 : s.length ≤ (strB s).size := by rw [HSZ.out]; exact Nat.le_refl _
        have b3 : (0 : Int) ≤ (fr : Int) := by omega
        have b4 : (fr : Int) ≤ (s.length : Int) := by omega
        have b5 : (s.length : Int) ≤ (strB s).size := by omega
        have HR2 := Lib.hid hR
        clear hR HR
        go_wp2_with (at_builtin; (refine wpList_push rfl (.tmp 22) (.tmp 27) 56 rfl w.heap.size 9 9 (.string .empty) 1 16 Tryz.underlying56 (by kernel_rfl) rfl (by decide) _ out.length _ [strOf (s.drop fr)] rfl hown _ rfl rfl rfl (by simp [strOf, Value.oneCell']) (by unfold maxLen; omega) (by omega) hext.size ?_; intro v' w3 hown3 hgr'; have hgr := Lib.hid hgr'; clear hgr'))
        go_roundw
        case rel => exact ⟨s.length + 1, s.length + 1, out ++ [s.drop fr], by go_num, by go_num, HR2, Lib.hid (by simp; omega), Nat.le_refl _, by simpa using hown3, hext.push hown (Nat.le_refl _) hgr.out⟩
        case measure => simp [intOf]
      · have hk2 : k < s.length := by omega
        have t2 : ((k : Int) == (strB s).size) = false := by rw [HSZ.out, beq_eq_false_iff_ne]; omega
        have hz : k < (strB s).size := by rw [HSZ.out]; exact hk2
        have hz2 : (k : Int) < (strB s).size := by rw [HSZ.out]; omega
        by_cases hc : s[k] = 32
        · have t3 : ((((strB s)[k]'hz).toNat : Int) == 32) = true := by
            have : (strB s)[k]'hz = 32 := hc
            rw [this]; rfl
          obtain ⟨hfr, hR⟩ := cutR_hit hk2 hc HR.out
          have hx := extract_mid s fr k
          have b2 : k ≤ (strB s).size := Nat.le_of_lt hz
          have b3 : (0 : Int) ≤ (fr : Int) := by omega
          have b4 : (fr : Int) ≤ (k : Int) := by omega
          have b5 : (k : Int) ≤ (strB s).size := by omega
          have HR2 := Lib.hid hR
          clear hR HR hc
          go_wp2_with (at_builtin; (refine wpList_push rfl (.tmp 22) (.tmp 27) 56 rfl w.heap.size 9 9 (.string .empty) 1 16 Tryz.underlying56 (by kernel_rfl) rfl (by decide) _ out.length _ [strOf ((s.take k).drop fr)] rfl hown _ rfl rfl rfl (by simp [strOf, Value.oneCell']) (by unfold maxLen; omega) (by omega) hext.size ?_; intro v' w3 hown3 hgr'; have hgr := Lib.hid hgr'; clear hgr'))
          go_roundw
          case rel => exact ⟨k + 1, k + 1, out ++ [(s.take k).drop fr], by go_num, by go_num, HR2, Lib.hid (by simp; omega), by omega, by simpa using hown3, hext.push hown (Nat.le_refl _) hgr.out⟩
          case measure => simp [intOf]; omega
        · have t3 : ((((strB s)[k]'hz).toNat : Int) == 32) = false := by
            rw [beq_eq_false_iff_ne]; intro e
            exact hc (UInt8.toNat_inj.1 (Int.ofNat_inj.1 e))
          have HR2 := Lib.hid (cutR_miss hk2 hc HR.out)
          clear HR hc
          go_wp2_with fail
          go_roundw
          case rel => exact ⟨k + 1, fr, out, by go_num, rfl, HR2, Lib.hid (by omega), by omega, hown, hext⟩
          case measure => simp [intOf]; omega
    · have t1 : decide ((k : Int) ≤ (strB s).size) = false := decide_eq_false (by rw [HSZ.out]; omega)
      have ho : out = wordsF s := by
        rcases HR.out with ⟨h, _⟩ | ⟨_, h⟩
        · exact absurd h hlt
        · exact h
      subst ho
      go_wp2_with fail
      go_ret
      exact ⟨_, rfl, hown, hext⟩
end Go.Proofs.YtkdnbnkbnegckaaGreatDoor
namespace Go.Proofs.YtkdnbnkbnegckaaGreatDoor
open Go.RowKit
set_option maxRecDepth 20000
set_option linter.unusedVariables false
/-- A list of types, as a value. -/
def SlT (B : Nat) (W : World) (x : List Int) (v : Value) : Prop := ∃ ao cap, v = .slice ao x.length cap ∧ Cells W ao (x.map (.int .i64)) ∧ x.length ≤ cap ∧ Fresh B ao
theorem SlT.nil (B : Nat) (W : World) : SlT B W [] (.slice none 0 0) := ⟨none, 0, rfl, Cells.nil _ _, Nat.le_refl _, fun _ e => by cases e⟩
theorem SlT.ext {B : Nat} {W W' : World} {x : List Int} {v : Value} (h : SlT B W x v) (hx : Ext W W') : SlT B W' x v := by
  obtain ⟨ao, cap, h1, h2, h3⟩ := h
  exact ⟨ao, cap, h1, h2.ext hx, h3⟩
theorem flat_intsA : ∀ (x : List Int), (encL tI x).flatten = x.map fun n => C.v (.int .i64 n)
  | [] => rfl
  | n :: x => by
    rw [← encL_cons]
    show C.v (.int .i64 n) :: (encL tI x).flatten = _
    rw [flat_intsA x]
    rfl
theorem flat_strs : ∀ (x : List (List UInt8)), (encL .str x).flatten = x.map fun b => C.v (.string ⟨⟨b⟩⟩)
  | [] => rfl
  | n :: x => by
    rw [← encL_cons]
    show C.v (.string ⟨⟨n⟩⟩) :: (encL .str x).flatten = _
    rw [flat_strs x]
    rfl
theorem repCs_ints {W : World} (x : List Int) : RepCs W W0 (encL tI x).flatten (x.map (.int .i64)) := by
  rw [flat_intsA]
  refine ⟨by rw [List.length_map, List.length_map], fun i c v hc hv => ?_⟩
  rw [List.getElem?_map] at hc hv
  cases hq : x[i]? with
  | none => rw [hq] at hc; cases hc
  | some n => rw [hq] at hc hv; cases hc; cases hv; exact .v _ rfl
theorem repCs_nil0 {W : World} : RepCs W W0 [] [] := ⟨rfl, fun i c u h1 _ => by simp at h1⟩
theorem SlT.rep {B : Nat} {W : World} {x : List Int} {v : Value} (h : SlT B W x v) : RepC W W0 (.fz 1 (encL tI x)) v := by
  obtain ⟨ao, cap, rfl, h2, h3, -⟩ := h
  have := repC_in (W := W) (sz := 1) (cap := cap) (es := encL tI x) (ao := ao) (us := x.map (.int .i64)) (by decide) (fun e he => by obtain ⟨n, -, rfl⟩ := List.mem_map.1 he; rfl) (by rw [encL_len]; exact h3) h2 (repCs_ints x)
  rwa [encL_len] at this
/-! What a head tells -/
def funcW : List UInt8 := [102, 117, 110, 99]
def wordAt (ws : List (List UInt8)) (i : Nat) : List UInt8 := ws[i]?.getD []
def badH (ws : List (List UInt8)) : Bool := decide (wordAt ws 0 ≠ funcW ∨ (ws.length ≠ 5 ∧ ws.length ≠ 6))
def errT (ws : List (List UInt8)) : Int := (((ws.drop 2).map readE).find? (fun e => e != 0)).getD 0
def headE (s : List UInt8) : Int := if badH (wordsF s) = true then 19 else if mayName (strB (wordAt (wordsF s) 1)) = false then 7 else errT (wordsF s)
def zeroFn : Fn := ([], (false, ([], ([], ([], ([], ([], ([], ([], ([], []))))))))))
def headF (s : List UInt8) : Fn := if headE s = 0 then (wordAt (wordsF s) 1, (decide ((wordsF s).length = 6), ((if (wordsF s).length = 6 then readL (wordAt (wordsF s) 5) else []), (readL (wordAt (wordsF s) 2), (readL (wordAt (wordsF s) 3), (readL (wordAt (wordsF s) 4), ([], ([], ([], ([], [])))))))))) else zeroFn
/-- A head, as cells. -/
def HeadR (B : Nat) (W : World) (F : Fn) (cs : List Value) : Prop := ∃ v2 v3 v4 v5, cs = [.string (strB F.1), .bool F.2.1, v2, v3, v4, v5, .slice none 0 0, .slice none 0 0, .slice none 0 0, .slice none 0 0, .slice none 0 0] ∧ SlT B W F.2.2.1 v2 ∧ SlT B W F.2.2.2.1 v3 ∧ SlT B W F.2.2.2.2.1 v4 ∧ SlT B W F.2.2.2.2.2.1 v5
theorem zero_head {B : Nat} {W : World} : HeadR B W zeroFn [.string ⟨#[]⟩, .bool false, .slice none 0 0, .slice none 0 0, .slice none 0 0, .slice none 0 0, .slice none 0 0, .slice none 0 0, .slice none 0 0, .slice none 0 0, .slice none 0 0] := ⟨_, _, _, _, rfl, SlT.nil _ _, SlT.nil _ _, SlT.nil _ _, SlT.nil _ _⟩
theorem fn_head {B : Nat} {W : World} {nm : List UInt8} {inn : Bool} {ou pa re lo : List Int} {v2 v3 v4 v5 : Value} (h2 : SlT B W ou v2) (h3 : SlT B W pa v3) (h4 : SlT B W re v4) (h5 : SlT B W lo v5) :
    HeadR B W (nm, (inn, (ou, (pa, (re, (lo, ([], ([], ([], ([], [])))))))))) [.string (strB nm), .bool inn, v2, v3, v4, v5, .slice none 0 0, .slice none 0 0, .slice none 0 0, .slice none 0 0, .slice none 0 0] := ⟨v2, v3, v4, v5, rfl, h2, h3, h4, h5⟩
theorem headF_bare (s : List UInt8) : (headF s).2.2.2.2.2.2 = ([], ([], ([], ([], [])))) := by unfold headF zeroFn; split <;> rfl
theorem HeadR.rep {B : Nat} {W : World} {F : Fn} {cs : List Value} (h : HeadR B W F cs) (hb : F.2.2.2.2.2.2 = ([], ([], ([], ([], []))))) : RepCs W W0 (enc tF F) cs := by
  obtain ⟨v2, v3, v4, v5, rfl, h2, h3, h4, h5⟩ := h
  obtain ⟨nm, inn, ou, pa, re, lo, tl⟩ := F
  dsimp only at hb h2 h3 h4 h5
  subst hb
  have n : ∀ {sz : Nat}, RepC W W0 (.fz sz []) (.slice none 0 0) := .fz _ 0 [] none [] (by simp) (by simp) (by simp) (by simp) (by simp) rfl (by simp)
  have cons : ∀ {c : C} {u : Value} {cs : List C} {us : List Value}, RepC W W0 c u → RepCs W W0 cs us → RepCs W W0 (c :: cs) (u :: us) := fun h hs => ⟨by simp [hs.1], fun i x v h1 h2 => by
    cases i with
    | zero => cases h1; cases h2; exact h
    | succ i => exact hs.2 i x v h1 h2⟩
  exact cons (.v _ rfl) (cons (.v _ rfl) (cons h2.rep (cons h3.rep (cons h4.rep (cons h5.rep (cons n (cons n (cons n (cons n (cons n repCs_nil0))))))))))
/-- What both heads hand back. -/
def RetHead (s : List UInt8) (w : World) (e : Ending) (w' : World) : Prop := ∃ cs, e = .returned (.tuple #[.agg cs.toArray, .int .i64 (headE s)]) ∧ HeadR w.heap.size w' (headF s) cs ∧ Ext w w'
/-! The words, as a row -/
theorem words_of {W : World} {ws : List (List UInt8)} {v : Value} (hr : RepC W W0 (.fz 1 (encL .str ws)) v) : ∃ ao cap, v = .slice ao ws.length cap ∧ Cells W ao (ws.map strOf) ∧ ws.length ≤ cap := by
  obtain ⟨es, he⟩ : ∃ es, es = encL .str ws := ⟨_, rfl⟩
  have hel : es.length = ws.length := by rw [he, encL_len]
  rw [← he] at hr
  cases hr with
  | fz _ cap _ ao us hu hc ha hw hrg hl hrep =>
    have hfl := flatten_len es hu
    have hul : us.length = ws.length := by rw [← hl, hfl]; omega
    have hus : us = ws.map strOf := by
      refine List.ext_getElem (by rw [hul, List.length_map]) fun j h1 h2 => ?_
      have hj : j < ws.length := by omega
      have hft : es.flatten[j]? = some (.v (.string ⟨⟨ws[j]⟩⟩)) := by rw [he, flat_strs, List.getElem?_map, List.getElem?_eq_getElem hj]; rfl
      have h3 := hrep j _ us[j] hft (List.getElem?_eq_getElem h1)
      rw [List.getElem_map]
      generalize us[j] = u at *
      cases h3
      rfl
    refine ⟨ao, cap, by rw [hel], ⟨fun hne => ha fun h0 => hne ?_, fun b off e j u hj => hrg b off e j u (by rw [hus]; exact hj)⟩, by rw [← hel]; exact hc⟩
    rw [List.eq_nil_of_length_eq_zero (show ws.length = 0 by rw [← hel, h0]; rfl)]
    rfl
theorem c_words {W : World} {s : List UInt8} (hs : s.length ≤ 1000000) : Calls Tryz.prog 23 #[.string (strB s)] W fun e W' => ∃ ao cap, e = .returned (.slice ao (wordsF s).length cap) ∧ Cells W' ao ((wordsF s).map strOf) ∧ (wordsF s).length ≤ cap ∧ Ext W W' := by
  have hw : callW Tryz.prog annX plansX 23 [⟨.one, [.c (.v (.string ⟨⟨s⟩⟩))]⟩] ⟨[], []⟩ = some (⟨.one, [.c (.fz 1 (encL .str (wordsF s)))]⟩, ⟨[], []⟩) := k_asm_words (s, ()) _ (sp_words hs) _ (by kernel_rfl)
  refine (pure_one hw (vs := [.string (strB s)]) rfl fun i t u h1 h2 => ?_).mono fun e W' ⟨u, he, hu, hx⟩ => ?_
  · match i with
    | 0 =>
      cases h1
      cases h2
      exact ⟨_, rfl, .v _ rfl⟩
    | i + 1 => simp at h1
  · obtain ⟨ao, cap, rfl, hC, hcap⟩ := words_of hu
    exact ⟨ao, cap, he, hC, hcap, hx⟩
end Go.Proofs.YtkdnbnkbnegckaaGreatDoor
