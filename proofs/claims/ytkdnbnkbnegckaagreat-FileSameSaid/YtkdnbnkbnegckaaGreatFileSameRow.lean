/- Programs: whether they are the same, whether they are small. The second annotation: what was walked by hand over what is lifted, as operations. What functions come to: templates, and contracts. Functions, lifted: what the program comes to by them. All lifted functions. How a function that came in is opened, as the second machine's data. The law FileSame: what it comes to. FileSame: every input, by the walk of the law. -/
import Derived.Test.YtkdnbnkbnegckaaGreatSpH
import Derived.Test.YtkdnbnkbnegckaaGreatLiv
import Derived.Test.YtkdnbnkbnegckaaGreatDec
import Derived.ProofKit
import Derived.OpenShut
import Derived.ShutString
import Derived.SizedLaws
import Derived.Deep.Slices
namespace Go.Proofs.YtkdnbnkbnegckaaGreat
open Go.RowKit
set_option maxRecDepth 20000
theorem sp_fileSame {l m : List Fn} (hl : ∀ f ∈ l, LenV f) (hn : l.length ≤ 1000000) : S_file_Same l m = some (eqD l m, ()) := by
  refine u_file_Same (N := l.length + 1) ?_
  by_cases hlen : l.length = m.length
  case neg => simp [M_file_Same, len_ne hlen, show ¬(l.length : Int) = m.length by omega]
  simp [M_file_Same, show (l.length : Int) = m.length by omega]
  refine iter_to (fun d => l.length - d.2.2.1.toNat) (fun d => ∃ k : Nat, d = (l, m, (k : Int), ()) ∧ k ≤ l.length ∧ eqD l m = eqD (l.drop k) (m.drop k)) ?_ _ _ ⟨0, by simp, Nat.zero_le _, rfl⟩ (by simp)
  rintro _ again ⟨k, rfl, hk, hr⟩ ih
  by_cases h : k < l.length
  · have h2 : k < m.length := by omega
    have hw : wrp .i64 ((k : Int) + 1) = (k : Int) + 1 := wi64 (by omega) (by omega)
    obtain ⟨g1, ⟨p1, p2, p3, p4, p5, p6, p7, p8, p9⟩, g3⟩ := hl l[k] (List.getElem_mem h)
    have hS := sp_Dfnc (name := l[k].1) (inner := l[k].2.1) (name2 := m[k].1) (inner2 := m[k].2.1) (outer2 := m[k].2.2.1) (params2 := m[k].2.2.2.1) (results2 := m[k].2.2.2.2.1) (locals2 := m[k].2.2.2.2.2.1) (code2 := m[k].2.2.2.2.2.2.1) (lines2 := m[k].2.2.2.2.2.2.2.1) (nodes2 := m[k].2.2.2.2.2.2.2.2.1) (at2 := m[k].2.2.2.2.2.2.2.2.2.1) (live2 := m[k].2.2.2.2.2.2.2.2.2.2) p1 p2 p3 p4 p5 p6 p7 p8 p9
    rw [List.drop_eq_getElem_cons h, List.drop_eq_getElem_cons h2, eqD_cons] at hr
    have hS : S_fnc_Same l[k].1 l[k].2.1 l[k].2.2.1 l[k].2.2.2.1 l[k].2.2.2.2.1 l[k].2.2.2.2.2.1 l[k].2.2.2.2.2.2.1 l[k].2.2.2.2.2.2.2.1 l[k].2.2.2.2.2.2.2.2.1 l[k].2.2.2.2.2.2.2.2.2.1 l[k].2.2.2.2.2.2.2.2.2.2 m[k].1 m[k].2.1 m[k].2.2.1 m[k].2.2.2.1 m[k].2.2.2.2.1 m[k].2.2.2.2.2.1 m[k].2.2.2.2.2.2.1 m[k].2.2.2.2.2.2.2.1 m[k].2.2.2.2.2.2.2.2.1 m[k].2.2.2.2.2.2.2.2.2.1 m[k].2.2.2.2.2.2.2.2.2.2 = some (eqD l[k] m[k], ()) := hS
    simp [h, h2, bnd_get h, bnd_get h2, hw, hS]
    cases he : eqD l[k] m[k] with
    | true =>
      rw [he] at hr
      have := ih (l, m, (k : Int) + 1, ()) ⟨k + 1, rfl, h, by simpa using hr⟩ (by simp; omega)
      simpa [← hlen] using this
    | false =>
      rw [he] at hr
      simp [hr]
  · have : k = l.length := by omega
    subst this
    rw [hr, List.drop_eq_nil_of_le (Nat.le_refl _), List.drop_eq_nil_of_le (show m.length ≤ l.length by omega)]
    simp [hlen]
theorem sp_ref16Same {l m : List Fn} (hl : ∀ f ∈ l, LenV f) (hn : l.length ≤ 1000000) : S_ref16_Same l m = some (eqD l m, ()) := by
  refine u_ref16_Same (N := l.length + 1) ?_
  by_cases hlen : l.length = m.length
  case neg => simp [M_ref16_Same, len_ne hlen, show ¬(l.length : Int) = m.length by omega]
  simp [M_ref16_Same, show (l.length : Int) = m.length by omega]
  refine iter_to (fun d => l.length - d.1.toNat) (fun d => ∃ k : Nat, d = ((k : Int), ()) ∧ k ≤ l.length ∧ eqD l m = eqD (l.drop k) (m.drop k)) ?_ _ _ ⟨0, by simp, Nat.zero_le _, rfl⟩ (by simp)
  rintro _ again ⟨k, rfl, hk, hr⟩ ih
  by_cases h : k < l.length
  · have h2 : k < m.length := by omega
    have hw : wrp .i64 ((k : Int) + 1) = (k : Int) + 1 := wi64 (by omega) (by omega)
    obtain ⟨g1, ⟨p1, p2, p3, p4, p5, p6, p7, p8, p9⟩, g3⟩ := hl l[k] (List.getElem_mem h)
    have hS : S_ref15_Same l[k].1 l[k].2.1 l[k].2.2.1 l[k].2.2.2.1 l[k].2.2.2.2.1 l[k].2.2.2.2.2.1 l[k].2.2.2.2.2.2.1 l[k].2.2.2.2.2.2.2.1 l[k].2.2.2.2.2.2.2.2.1 l[k].2.2.2.2.2.2.2.2.2.1 l[k].2.2.2.2.2.2.2.2.2.2 m[k].1 m[k].2.1 m[k].2.2.1 m[k].2.2.2.1 m[k].2.2.2.2.1 m[k].2.2.2.2.2.1 m[k].2.2.2.2.2.2.1 m[k].2.2.2.2.2.2.2.1 m[k].2.2.2.2.2.2.2.2.1 m[k].2.2.2.2.2.2.2.2.2.1 m[k].2.2.2.2.2.2.2.2.2.2 = some (eqD l[k] m[k], ()) :=
      sp_Dref15 (name := l[k].1) (inner := l[k].2.1) (name2 := m[k].1) (inner2 := m[k].2.1) (outer2 := m[k].2.2.1) (params2 := m[k].2.2.2.1) (results2 := m[k].2.2.2.2.1) (locals2 := m[k].2.2.2.2.2.1) (code2 := m[k].2.2.2.2.2.2.1) (lines2 := m[k].2.2.2.2.2.2.2.1) (nodes2 := m[k].2.2.2.2.2.2.2.2.1) (at2 := m[k].2.2.2.2.2.2.2.2.2.1) (live2 := m[k].2.2.2.2.2.2.2.2.2.2) p1 p2 p3 p4 p5 p6 p7 p8 p9
    rw [List.drop_eq_getElem_cons h, List.drop_eq_getElem_cons h2, eqD_cons] at hr
    simp [h, h2, bnd_get h, bnd_get h2, hw, hS]
    cases he : eqD l[k] m[k] with
    | true =>
      rw [he] at hr
      have := ih ((k : Int) + 1, ()) ⟨k + 1, rfl, h, by simpa using hr⟩ (by simp; omega)
      simpa [← hlen] using this
    | false =>
      rw [he] at hr
      simp [hr]
  · have : k = l.length := by omega
    subst this
    rw [hr, List.drop_eq_nil_of_le (Nat.le_refl _), List.drop_eq_nil_of_le (show m.length ≤ l.length by omega)]
    simp [hlen]
/-! Small programs -/
def smallV (f : Fn) : Bool := smallB f.2.2.1 f.2.2.2.1 f.2.2.2.2.1 f.2.2.2.2.2.1 f.2.2.2.2.2.2.2.1 f.2.2.2.2.2.2.2.2.2.1 f.2.2.2.2.2.2.1 f.2.2.2.2.2.2.2.2.1 f.2.2.2.2.2.2.2.2.2.2
def smallsB (fs : List Fn) : Bool := decide (fs.length ≤ 50) && fs.all smallV
def BoundV (f : Fn) : Prop := f.2.2.1.length ≤ 140737488351232 ∧ f.2.2.2.1.length ≤ 140737488351232 ∧ f.2.2.2.2.1.length ≤ 140737488351232 ∧ f.2.2.2.2.2.1.length ≤ 140737488351232
theorem sp_Small16 {fs : List Fn} (hl : ∀ f ∈ fs, BoundV f) : S_law16_Small fs = some (smallsB fs, ()) := by
  refine u_law16_Small (N := 52) ?_
  simp [M_law16_Small]
  refine iter_join (fun d => fs.length + 51 - d.1.toNat - fs.length) (fun d => ∃ k : Nat, d = ((k : Int), ()) ∧ k ≤ fs.length ∧ k ≤ 50 ∧ (fs.take k).all smallV = true) ?_ _ _ ⟨0, rfl, Nat.zero_le _, by omega, by simp⟩ (by simp)
  rintro _ again ⟨k, rfl, hk, hk2, hr⟩ ih
  by_cases h : k < fs.length
  · by_cases h5 : k < 50
    · have hw : wrp .i64 ((k : Int) + 1) = (k : Int) + 1 := wi64 (by omega) (by omega)
      obtain ⟨p1, p2, p3, p4⟩ := hl fs[k] (List.getElem_mem h)
      have hS : S_law15_Small fs[k].1 fs[k].2.1 fs[k].2.2.1 fs[k].2.2.2.1 fs[k].2.2.2.2.1 fs[k].2.2.2.2.2.1 fs[k].2.2.2.2.2.2.1 fs[k].2.2.2.2.2.2.2.1 fs[k].2.2.2.2.2.2.2.2.1 fs[k].2.2.2.2.2.2.2.2.2.1 fs[k].2.2.2.2.2.2.2.2.2.2 = some (smallV fs[k], ()) := sp_Small p1 p2 p3 p4
      have h50 : (k : Int) < 50 := by omega
      simp [h, h50, bnd_get h, hw, hS]
      cases he : smallV fs[k] with
      | true => exact ih ((k : Int) + 1, ()) ⟨k + 1, rfl, h, h5, by rw [List.take_succ_eq_append_getElem h, List.all_append, hr]; simp [he]⟩ (by simp; omega)
      | false =>
        have : smallsB fs = false := by
          have : fs.all smallV = false := by
            cases hq : fs.all smallV with
            | false => rfl
            | true => rw [List.all_eq_true] at hq; rw [hq _ (List.getElem_mem h)] at he; cases he
          rw [smallsB, this]; simp
        simp [this]
    · have h50 : ¬(k : Int) < 50 := by omega
      have hb : ¬fs.length ≤ 50 := by omega
      have hb2 : ¬(fs.length : Int) ≤ 50 := by omega
      simp [h, h50, smallsB, hb, hb2]
  · have : k = fs.length := by omega
    subst this
    rw [List.take_length] at hr
    simp [smallsB, hr]
    omega
theorem smallsB_len {fs : List Fn} (h : smallsB fs = true) : fs.length ≤ 50 ∧ ∀ f ∈ fs, (f.1.length ≤ 140737488351232 → LenV f) := by
  simp only [smallsB, Bool.and_eq_true, decide_eq_true_eq, List.all_eq_true] at h
  refine ⟨h.1, fun f hf hn => ?_⟩
  obtain ⟨h1, h2⟩ := small_len (h.2 f hf)
  exact ⟨by unfold Len; omega, h1, by omega⟩
end Go.Proofs.YtkdnbnkbnegckaaGreat
namespace Go.Proofs.YtkdnbnkbnegckaaGreat
open Go.RowKit
set_option maxRecDepth 100000
def lawsY : FuncId → Bool := fun f => f == 5 || f == 6 || f == 9 || f == 8 || f == 7
def livesX (a : List T) (h : Hp) : Option (T × Hp) :=
  match a with
  | [] => some (⟨.one, [.c (.v (.bool true))]⟩, h)
  | _ => none
noncomputable def baseY : CallFn := fun f a h => if f = 23 then livesX a h else if lawsY f = true then none else callW Tryz.prog annX plansX f a h
noncomputable def annY : Ann := { annX with base := baseY }
theorem lives_ok : KOk Tryz.prog fun f a h => if f = 23 then livesX a h else none := fun f a h res h' hc => by
  simp only at hc
  split at hc
  case isFalse => cases hc
  rename_i hf
  subst hf
  refine ⟨⟨_, Tryz.func23, by kernel_rfl, by kernel_rfl⟩, fun W who L vs H hl R => ?_⟩
  unfold livesX at hc
  split at hc
  · cases hc
    obtain rfl : vs = [] := by simpa using hl.symm
    refine (lives_walk W).mono fun e W' ⟨he, hx⟩ => ?_
    obtain ⟨H', S'⟩ := ext_frozen H hx
    exact ⟨_, _, L, he, ⟨_, rfl, .v _ rfl⟩, H', S'.any⟩
  · cases hc
theorem baseY_ok : KOk Tryz.prog annY.base := fun f a h res h' hc => by
  have hc : baseY f a h = some (res, h') := hc
  unfold baseY at hc
  split at hc
  · rename_i hf
    exact lives_ok f a h res h' (by simp only [if_pos hf]; exact hc)
  · split at hc
    · cases hc
    · exact callW_ok (A := annX) base_ok prog_ok f a h res h' hc
def bsY : FuncId → Bool := fun f => f == 23 || !lawsY f
theorem bs_okY : ∀ f a h, (annY.base f a h).isSome = true → bsY f = true := fun f a h hh => by
  have hh : (baseY f a h).isSome = true := hh
  unfold baseY at hh
  unfold bsY
  split at hh
  · rename_i hf
    simp [hf]
  · split at hh
    · cases hh
    · rename_i hl
      simp [hl]
theorem all0Y : ∀ c ∈ ([] : List Ctr), c.ok Tryz.prog annY plansX := fun _ h => by simp at h
theorem all1Y {c : Ctr} {cs : List Ctr} (h : c.ok Tryz.prog annY plansX) (hs : ∀ c ∈ cs, c.ok Tryz.prog annY plansX) : ∀ d ∈ c :: cs, d.ok Tryz.prog annY plansX := fun d hd => by
  rcases List.mem_cons.1 hd with rfl | hd
  · exact h
  · exact hs d hd
/-- What is lifted under the first annotation is so under the second. -/
theorem up {c : Ctr} (h : c.ok Tryz.prog annX plansX) (hf : (c.f == 23 || lawsY c.f) = false) (hw : ∀ d, wkL (annX.wk c.f) (unpack c.tin d).env = (unpack c.tin d).env) : c.ok Tryz.prog annY plansX := fun d q hs args0 ha => by
  have ha : wkL (annX.wk c.f) args0 = (unpack c.tin d).env := ha
  refine callW_base (A := annY) ?_
  show baseY c.f (wkL (annX.wk c.f) args0) _ = _
  rw [ha]
  simp only [Bool.or_eq_false_iff, beq_eq_false_iff_ne] at hf
  rw [baseY, if_neg hf.1, if_neg (by rw [hf.2]; decide)]
  exact h d q hs _ (hw d)
def i_law16_lives : Tpl := ⟨[], [], []⟩
def o_law16_lives : Tpl := ⟨[], [], [(.one, [.hole .bool])]⟩
def S_law16_lives : Option (Bool × Unit) := some (true, ())
def c_law16_lives : Ctr := ⟨23, i_law16_lives, o_law16_lives, fun _ => S_law16_lives⟩
theorem k_law16_lives : (c_law16_lives).ok Tryz.prog annY plansX := fun d q hs args0 ha => by
  cases hs
  refine callW_base (A := annY) ?_
  have ha : wkL (annX.wk 23) args0 = [] := ha
  show baseY 23 (wkL (annX.wk 23) args0) _ = _
  rw [ha]
  rfl
theorem law_walkY {f : FuncId} {tin : Tpl} {d : DT tin} {args0 : List T} {vs : Array Value} {W : World} (h : Sof Tryz.prog annY plansX f tin ⟨[], [], [(.one, [.hole .bool])]⟩ d = some (true, ())) (hw : wkL (annY.wk f) args0 = (unpack tin d).env) (hh : (unpack tin d).h = ⟨[], []⟩)
    (hl : args0.length = vs.size) (hr : ∀ (i : Nat) t v, args0[i]? = some t → vs[i]? = some v → RepT W W0 L0 ⟨[], []⟩ t v) : Calls Tryz.prog f vs W fun e W' => e = .returned (.bool true) ∧ Ext W W' := by
  have h1 : callW Tryz.prog annY plansX f args0 (unpack tin d).h = some (⟨.one, [.c (.v (.bool true))]⟩, ⟨[], []⟩) := ctr_ok (P := Tryz.prog) (A := annY) (plans := plansX) (f := f) (tin := tin) (tout := ⟨[], [], [(.one, [.hole .bool])]⟩) d _ h _ hw
  rw [hh] at h1
  exact law_of baseY_ok prog_ok h1 hl hr
end Go.Proofs.YtkdnbnkbnegckaaGreat
namespace Go.Proofs.YtkdnbnkbnegckaaGreat
open Go.RowKit
set_option maxRecDepth 100000
def i_law16_FileSame : Tpl := ⟨[], [], [(.agg, [.hole (.sl 11 tF)]), (.agg, [.hole (.sl 11 tF)])]⟩
def o_law16_FileSame : Tpl := ⟨[], [], [(.one, [.hole .bool])]⟩
noncomputable def S_law16_FileSame (a0 : LF) (a1 : LF) : Option (Bool × Unit) := Sof Tryz.prog annY plansX 8 i_law16_FileSame o_law16_FileSame (a0, (a1, ()))
noncomputable def c_law16_FileSame : Ctr := ⟨8, i_law16_FileSame, o_law16_FileSame, fun d => S_law16_FileSame d.1 d.2.1⟩
theorem k_law16_FileSame : (c_law16_FileSame).ok Tryz.prog annY plansX := ctr_ok (tin := i_law16_FileSame) (tout := o_law16_FileSame)
end Go.Proofs.YtkdnbnkbnegckaaGreat
namespace Go.Proofs.YtkdnbnkbnegckaaGreat
open Go.RowKit
set_option maxRecDepth 100000
set_option linter.unusedVariables false
noncomputable def M_law16_FileSame (N : Nat) (l_0 : LF) (l_1 : LF) : Option (Bool × Unit) :=
 joinK (δ := (Bool × Unit)) (dF l_0 <| fun l1 =>
  bnd (S_law16_Small l1) <| fun p2 =>
  cnd (notB p2.1)
   (qS (eF l_0) <|
   qS (eF l_1) <|
   leftK (true, ()))
   (dF l_1 <| fun l3 =>
   bnd (S_law16_Small l3) <| fun p4 =>
   qS (eF l_0) <|
   qS (eF l_1) <|
   leftK ((notB p4.1), ())))
 <| fun p5 =>
 cnd p5.1
  (bnd (S_law16_lives) <| fun p6 =>
  some (p6.1, ()))
  (qS (eF l_0) <|
  qS (eF l_1) <|
  iter (fun (d7 : (Int × Unit)) again8 =>
   cnd (ltI d7.1 (vlen (eF l_0)))
    (chk (leI 0 d7.1) <|
    getE tF (eF l_0) (natI d7.1) <| fun p9 =>
    chk (leI 0 d7.1) <|
    getE tF (eF l_0) (natI d7.1) <| fun p10 =>
    dI p9.2.2.1 <| fun l11 =>
    dI p9.2.2.2.1 <| fun l12 =>
    dI p9.2.2.2.2.1 <| fun l13 =>
    dI p9.2.2.2.2.2.1 <| fun l14 =>
    dC p9.2.2.2.2.2.2.1 <| fun l15 =>
    dI p9.2.2.2.2.2.2.2.1 <| fun l16 =>
    dN p9.2.2.2.2.2.2.2.2.1 <| fun l17 =>
    dI p9.2.2.2.2.2.2.2.2.2.1 <| fun l18 =>
    dS p9.2.2.2.2.2.2.2.2.2.2 <| fun l19 =>
    dI p10.2.2.1 <| fun l20 =>
    dI p10.2.2.2.1 <| fun l21 =>
    dI p10.2.2.2.2.1 <| fun l22 =>
    dI p10.2.2.2.2.2.1 <| fun l23 =>
    dC p10.2.2.2.2.2.2.1 <| fun l24 =>
    dI p10.2.2.2.2.2.2.2.1 <| fun l25 =>
    dN p10.2.2.2.2.2.2.2.2.1 <| fun l26 =>
    dI p10.2.2.2.2.2.2.2.2.2.1 <| fun l27 =>
    dS p10.2.2.2.2.2.2.2.2.2.2 <| fun l28 =>
    bnd (S_ref15_Same p9.1 p9.2.1 l11 l12 l13 l14 l15 l16 l17 l18 l19 p10.1 p10.2.1 l20 l21 l22 l23 l24 l25 l26 l27 l28) <| fun p29 =>
    cnd (notB p29.1)
     (some (false, ()))
     (qS (eF l_0) <|
     qS (eF l_1) <|
     again8 ((wrp .i64 (addI d7.1 1)), ())))
    (dF l_0 <| fun l30 =>
    dF l_1 <| fun l31 =>
    bnd (S_file_Same l30 l31) <| fun p32 =>
    dF l_0 <| fun l33 =>
    dF l_1 <| fun l34 =>
    bnd (S_ref16_Same l33 l34) <| fun p35 =>
    cnd (eqB p32.1 p35.1)
     (dF l_0 <| fun l36 =>
     dF l_0 <| fun l37 =>
     bnd (S_file_Same l36 l37) <| fun p38 =>
     cnd p38.1
      (bnd (S_law16_lives) <| fun p39 =>
      some (p39.1, ()))
      (some (false, ())))
     (some (false, ())))) N (0, ()))
noncomputable def q_law16_FileSame : Lift := ⟨tyX, look2 .todo (α := LoopAs) (.n 8 [(4, (.as ⟨[], [[.fix], [.fix]], (.one, [.junk]) :: (.one, [.junk]) :: (.one, [.stat (.ptr 0 0)]) :: (.one, [.stat (.ptr 1 0)]) :: (.one, [.junk]) :: (.one, [.hole tI]) :: rp 43 (.one, [.junk]) ([])⟩)), (1008195, (.as ⟨[], [[.fix], [.fix]], (.one, [.junk]) :: (.one, [.junk]) :: (.one, [.stat (.ptr 0 0)]) :: (.one, [.stat (.ptr 1 0)]) :: rp 9 (.one, [.junk]) ((.one, [.hole .bool]) :: rp 35 (.one, [.junk]) ([]))⟩))] .o .o), [c_law16_Small, c_law16_lives, c_ref15_Same, c_file_Same, c_ref16_Same], bsY⟩
theorem u_law16_FileSame {N : Nat} {a0 : LF} {a1 : LF} {q : (Bool × Unit)} (h : M_law16_FileSame N a0 a1 = some q) : S_law16_FileSame a0 a1 = some q :=
 Sof_of (Q := q_law16_FileSame) (N := N) (n := 3) (f := 8) (tin := i_law16_FileSame) (tout := o_law16_FileSame) (d := (a0, (a1, ()))) (all1Y (up k_law16_Small rfl fun _ => by kernel_rfl) (all1Y k_law16_lives (all1Y (up k_ref15_Same rfl fun _ => by kernel_rfl) (all1Y (up k_file_Same rfl fun _ => by kernel_rfl) (all1Y (up k_ref16_Same rfl fun _ => by kernel_rfl) all0Y))))) bs_okY (by kernel_rfl) (by kernel_rfl) (by kernel_rfl) (Eq.trans (b := M_law16_FileSame N a0 a1) (by kernel_rfl) h)
end Go.Proofs.YtkdnbnkbnegckaaGreat

namespace Go.Proofs.YtkdnbnkbnegckaaGreat
open Go.RowKit Go.WideShapes
set_option maxRecDepth 20000
theorem opensD_types : OpensD Tryz.prog 25 (.sl 1 tI) := opensD_sl (by' := 8) Tryz.underlying25 (by kernel_rfl) (by kernel_rfl) rfl (by decide) (by decide) (opensD_i64 Tryz.underlying110)
theorem opensD_ints : OpensD Tryz.prog 27 (.sl 1 tI) := opensD_sl (by' := 8) Tryz.underlying27 (by kernel_rfl) (by kernel_rfl) rfl (by decide) (by decide) (opensD_i64 Tryz.underlying3)
theorem opensD_instr : OpensD Tryz.prog 78 tC := opensD_struct Tryz.underlying78 (by kernel_rfl) (opensFD_cons rfl (by kernel_rfl) (opensD_i64 Tryz.underlying76) (opensFD_one rfl (by kernel_rfl) (opensD_i64 Tryz.underlying3)))
theorem opensD_node : OpensD Tryz.prog 115 tN :=
  have hi : OpensD Tryz.prog 3 tI := opensD_i64 Tryz.underlying3
  opensD_struct Tryz.underlying115 (by kernel_rfl) (opensFD_cons rfl (by kernel_rfl) hi (opensFD_cons rfl (by kernel_rfl) hi (opensFD_cons rfl (by kernel_rfl) hi (opensFD_cons rfl (by kernel_rfl) hi (opensFD_cons rfl (by kernel_rfl) hi (opensFD_cons rfl (by kernel_rfl) hi (opensFD_one rfl (by kernel_rfl) hi)))))))
theorem opensD_set : OpensD Tryz.prog 118 tS := opensD_arr4 Tryz.underlying118 Tryz.underlying102 (by kernel_rfl) (by kernel_rfl)
theorem opensD_code : OpensD Tryz.prog 26 (.sl 2 tC) := opensD_sl (by' := 16) Tryz.underlying26 (by kernel_rfl) (by kernel_rfl) rfl (by decide) (by decide) opensD_instr
theorem opensD_nodes : OpensD Tryz.prog 28 (.sl 7 tN) := opensD_sl (by' := 56) Tryz.underlying28 (by kernel_rfl) (by kernel_rfl) rfl (by decide) (by decide) opensD_node
theorem opensD_sets : OpensD Tryz.prog 29 (.sl 4 tS) := opensD_sl (by' := 32) Tryz.underlying29 (by kernel_rfl) (by kernel_rfl) rfl (by decide) (by decide) opensD_set
theorem opensD_func : OpensD Tryz.prog 31 FnD :=
  opensD_struct Tryz.underlying31 (by kernel_rfl) (opensFD_cons rfl (by kernel_rfl) (opensD_str Tryz.underlying9) (opensFD_cons rfl (by kernel_rfl) (opensD_bool Tryz.underlying4) (opensFD_cons rfl (by kernel_rfl) opensD_types (opensFD_cons rfl (by kernel_rfl) opensD_types (opensFD_cons rfl (by kernel_rfl) opensD_types (opensFD_cons rfl (by kernel_rfl) opensD_types
    (opensFD_cons rfl (by kernel_rfl) opensD_code (opensFD_cons rfl (by kernel_rfl) opensD_ints (opensFD_cons rfl (by kernel_rfl) opensD_nodes (opensFD_cons rfl (by kernel_rfl) opensD_ints (opensFD_one rfl (by kernel_rfl) opensD_sets)))))))))))
end Go.Proofs.YtkdnbnkbnegckaaGreat
namespace Go.Proofs.YtkdnbnkbnegckaaGreat
open Go.RowKit
set_option maxRecDepth 20000
/-- Data of a program. -/
abbrev PrD : Ty := .sl 11 FnD
theorem opensD_prog : OpensD Tryz.prog 51 PrD :=
  opensD_struct Tryz.underlying51 (by kernel_rfl) (opensFD_one rfl (by kernel_rfl) (opensD_sl (by' := 240) Tryz.underlying49 (by kernel_rfl) (by kernel_rfl) rfl (by decide) (by decide) opensD_func))
theorem okP_fn {p : List Fn} (h : OkD PrD p) : ∀ f ∈ p, f.1.length ≤ 140737488351232 ∧ BoundV f ∧ DatV f := fun f hf => by
  obtain ⟨name, inner, outer, params, results, locals, code, lines, nodes, at', live⟩ := f
  obtain ⟨h1, h2, h3, h4, h5, h6⟩ := okD_dat (h.2 _ hf)
  exact ⟨h1, ⟨h2, h3, h4, h5⟩, h6⟩
theorem small_fn {p : List Fn} (h : OkD PrD p) (hs : smallsB p = true) : p.length ≤ 50 ∧ ∀ f ∈ p, LenV f := by
  obtain ⟨h1, h2⟩ := smallsB_len hs
  exact ⟨h1, fun f hf => h2 f hf (okP_fn h f hf).1⟩
theorem law_FileSame {p q : List Fn} (hp : OkD PrD p) (hq : OkD PrD q) : S_law16_FileSame p q = some (true, ()) := by
  refine u_law16_FileSame (N := 60) ?_
  have hS := sp_Small16 fun f hf => (okP_fn hp f hf).2.1
  have hS2 := sp_Small16 fun f hf => (okP_fn hq f hf).2.1
  cases h1 : smallsB p with
  | false => rw [h1] at hS; simp [M_law16_FileSame, hS, S_law16_lives]
  | true =>
    rw [h1] at hS
    cases h2 : smallsB q with
    | false => rw [h2] at hS2; simp [M_law16_FileSame, hS, hS2, S_law16_lives]
    | true =>
      rw [h2] at hS2
      obtain ⟨g1, g2⟩ := small_fn hp h1
      have a1 := sp_fileSame (m := q) g2 (by omega)
      have a2 := sp_ref16Same (m := q) g2 (by omega)
      have a3 := sp_fileSame (m := p) g2 (by omega)
      rw [eqD_s] at a3
      simp [M_law16_FileSame, hS, hS2]
      refine iter_to (fun d => p.length - d.1.toNat) (fun d => ∃ k : Nat, d = ((k : Int), ()) ∧ k ≤ p.length) ?_ _ _ ⟨0, rfl, Nat.zero_le _⟩ (by simp; omega)
      rintro _ again ⟨k, rfl, hk⟩ ih
      by_cases h : k < p.length
      · have hw : wrp .i64 ((k : Int) + 1) = (k : Int) + 1 := wi64 (by omega) (by omega)
        obtain ⟨-, ⟨p1, p2, p3, p4, p5, p6, p7, p8, p9⟩, -⟩ := g2 p[k] (List.getElem_mem h)
        have hE := sp_Same15 (name := p[k].1) (inner := p[k].2.1) p1 p2 p3 p4 p5 p6 p7 p8 p9
        simp [h, bnd_get h, hw, hE]
        exact ih ((k : Int) + 1, ()) ⟨k + 1, rfl, h⟩ (by simp; omega)
      · have : k = p.length := by omega
        subst this
        simp [a1, a2, a3, S_law16_lives]
theorem FileSame_walk (x0 : Data PrD) (cs0 : List Value) (x1 : Data PrD) (cs1 : List Value) (w : World) (hx0 : DatR PrD w cs0 x0) (hx1 : DatR PrD w cs1 x1) :
    Calls Tryz.prog 8 #[.agg cs0.toArray, .agg cs1.toArray] w fun e w' => e = .returned (.bool true) ∧ Ext w w' := by
  refine law_walkY (args0 := [argA PrD x0, argA PrD x1]) (law_FileSame hx0.2 hx1.2) (by kernel_rfl) rfl rfl fun i t v h1 h2 => ?_
  match i with
  | 0 =>
    cases h1
    cases h2
    exact rep_argA hx0
  | 1 =>
    cases h1
    cases h2
    exact rep_argA hx1
  | i + 2 => simp at h1
end Go.Proofs.YtkdnbnkbnegckaaGreat
namespace Go.Proofs.YtkdnbnkbnegckaaGreat.fileSame
open Go.ChangeShapes Go.WideShapes Go.ChangeAt Go.RowKit
open Go.ChangeMaps (open_string shut_string)
set_option linter.unusedVariables false

theorem own : ownKnob Tryz.prog.godebug = none := by kernel_rfl
theorem laidOut : laidOutB Tryz.prog = true := by kernel_rfl

set_option maxRecDepth 100000 in
theorem lifted (os : Os) (started : os.Started) (H : Type) (enc : TypeId × Value → H) :
    ReturnsInHanded {} Tryz.checked os 8 .any (Rows.fileSameSpec.pre6 enc Tryz.prog Tryz.f8 Rows.fileSameRow.domain false) (Rows.fileSameSpec.post enc Tryz.prog Tryz.f8 false true false false) := by
  refine returnsInHanded_of_change_sized (C := Tryz.checked) own started (by kernel_rfl) Tryz.func8
    (ChangeSpec.witness6 (enc := enc) (C := Tryz.checked) false ⟨#[], #[.agg #[.slice none 0 0], .agg #[.slice none 0 0]], []⟩ 8 (by kernel_rfl) (by kernel_rfl) (by kernel_rfl) (by kernel_rfl)) ?_
  intro W base args ds gs before hval0 hW hcnd hsz0 hholds
  have hval : ∀ (j : Nat) t v, Tryz.f8.params[j]? = some t → args[j]? = some v → Value.okWide Tryz.prog W .any base t v := hval0
  have hsz : (DataW.weightsEach Tryz.prog (Tryz.f8.params.toList ++ Rows.fileSameSpec.plain.varTypes Tryz.prog) (ds ++ gs)).all (· ≤ reachBytes) = true := hsz0
  have hW' := hW
  obtain ⟨p, q, hA0, hV, rfl, hfz, hnd⟩ := hW
  have hA : DataW.TrodAll enc Tryz.prog W 0 (fun _ => true) true Tryz.f8.params.toList args.toList ds p := hA0
  rw [Tryz.params8] at hA hval hsz
  obtain ⟨v0, vs0, d0, ds0, p0, q0, hargs, rfl, rfl, h0, r0⟩ := trodAll_cons hA
  obtain ⟨v1, vs1, d1, ds1, p1, q1, rfl, rfl, rfl, h1, r1⟩ := trodAll_cons r0
  obtain ⟨rfl, rfl, rfl⟩ := trodAll_nil r1
  obtain rfl : args = #[v0, v1] := by cases args; simp_all
  obtain ⟨rfl, rfl⟩ := trodVars_none hV
  have k0 := h0
  have lt0 : ∀ x ∈ p0, x.block < W.heap.size := by obtain ⟨m, hm⟩ := k0; exact DataW.trod_lt m _ _ _ hm
  obtain ⟨cs0, rfl, _⟩ := okWide_struct Tryz.underlying51 (hval 0 51 v0 rfl rfl)
  obtain ⟨z0, w0⟩ := open_d opensD_prog hsz (j := 0) rfl rfl h0
  have k1 := h1
  have lt1 : ∀ x ∈ p1, x.block < W.heap.size := by obtain ⟨m, hm⟩ := k1; exact DataW.trod_lt m _ _ _ hm
  obtain ⟨cs1, rfl, _⟩ := okWide_struct Tryz.underlying51 (hval 1 51 v1 rfl rfl)
  obtain ⟨z1, w1⟩ := open_d opensD_prog hsz (j := 1) rfl rfl h1
  clear hA0 hval0
  refine (FileSame_walk (w := W) (x0 := z0) (cs0 := cs0.toList) (hx0 := w0) (x1 := z1) (cs1 := cs1.toList) (hx1 := w1)).mono fun e W' ⟨he, bel⟩ => ?_
  subst he
  exact ⟨_, rfl, _, _, _, [], _, [], hW', trodAll_mk1 (shut_bool Tryz.underlying4 _), (trodAll_cons_mk (Below.trod laidOut (by kernel_rfl) (of_decide_eq_true (by kernel_rfl)) k0 bel.b lt0) (trodAll_cons_mk (Below.trod laidOut (by kernel_rfl) (of_decide_eq_true (by kernel_rfl)) k1 bel.b lt1) trodAll_mk0)), rfl, bel.b.frame _, fun h => by cases h⟩

theorem FileSame_holds : Rows.FileSameSaid :=
  OpenClaim.holds_of_wide 8 Tryz.f8 rfl rfl rfl rfl rfl rfl rfl ⟨rfl, rfl, rfl, rfl, rfl⟩ rfl rfl rfl rfl rfl (by kernel_rfl) Tryz.func8 (by kernel_rfl)
    (of_decide_eq_true (by kernel_rfl)) (by unfold Func.isWrapper; first | (rw [if_pos (by decide +kernel)]; kernel_rfl) | (rw [if_neg (by decide +kernel)]; exact ⟨rfl, rfl⟩))
    (fun os started H enc _ => lifted os started H enc)
end Go.Proofs.YtkdnbnkbnegckaaGreat.fileSame

namespace Go.Proofs.YtkdnbnkbnegckaaGreat
theorem FileSame_proved : Rows.FileSameSaid := fileSame.FileSame_holds
#print axioms FileSame_proved
end Go.Proofs.YtkdnbnkbnegckaaGreat
