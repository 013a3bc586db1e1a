/- file.Can of functions without tables; lives of law 17. The law DisBack, walked. DisBack: every input, by the walk of the law; the card: the tables of unicode/utf8 are what their own texts lay (none is read on our ways). -/
import Derived.Test.YtkdnbnkbnegckaaGreatDoorArr
import Derived.Test.YtkdnbnkbnegckaaGreatDoorSpA
import Derived.Test.YtkdnbnkbnegckaaGreatDoorSml
import Derived.Test.YtkdnbnkbnegckaaGreatDoorInstrR
import Derived.Test.YtkdnbnkbnegckaaGreatDoorBkp
import Derived.Test.YtkdnbnkbnegckaaGreatDoorCards
import Derived.Test.YtkdnbnkbnegckaaGreatDoorTie
import Derived.ProofKit
import Derived.OpenShut
import Derived.ShutString
import Derived.SizedLaws
import Derived.Deep.Slices
import Derived.Deep.DeepHandedRow
import Derived.HandedShaped
import Derived.Lib.LaidTab
namespace Go.Proofs.YtkdnbnkbnegckaaGreatDoor
open Go.RowKit
set_option maxRecDepth 100000
set_option linter.unusedVariables false
theorem arg_progA {W : World} {fs : List Fn} {v : Value} (hr : RepC W W0 (.fz 11 (encL tF fs)) v) : ∀ (i : Nat) t u, [(⟨.agg, [.c (.fz 11 (encL tF fs))]⟩ : T)][i]? = some t → [(.agg #[v] : Value)][i]? = some u → RepT W W0 L0 ⟨[], []⟩ t u := fun i t u h1 h2 => by
  match i with
  | 0 =>
    cases h1
    cases h2
    exact ⟨[v], rfl, repCs_xs (repCs_one hr)⟩
  | i + 1 => simp at h1
theorem c_fileCan {W : World} {fs : List Fn} {v : Value} (hr : RepC W W0 (.fz 11 (encL tF fs)) v) (hbr : ∀ f ∈ fs, bareB f.2.2.2.2.2.2.2.2.1 f.2.2.2.2.2.2.2.2.2.1 f.2.2.2.2.2.2.2.2.2.2 = true) (hl : ∀ f ∈ fs, LenV f) (hn : fs.length ≤ 1000000) : Calls Tryz.prog 43 #[.agg #[v]] W fun e W' => e = .returned (.int .i64 (canP fs)) ∧ Ext W W' := by
  have hw : callW Tryz.prog annX plansX 43 [⟨.agg, [.c (.fz 11 (encL tF fs))]⟩] ⟨[], []⟩ = some (⟨.one, [.c (.v (.int .i64 (canP fs)))]⟩, ⟨[], []⟩) := k_file_Can (fs, ()) _ (sp_fileCan hbr hl hn) _ (by kernel_rfl)
  refine (pure_one hw (vs := [.agg #[v]]) rfl (arg_progA hr)).mono fun e W' ⟨u, he, hu, hx⟩ => ?_
  cases hu
  exact ⟨he, hx⟩
end Go.Proofs.YtkdnbnkbnegckaaGreatDoor
namespace Go.Proofs.YtkdnbnkbnegckaaGreatDoor
open Go.RowKit
set_option maxRecDepth 20000
set_option linter.unusedVariables false
theorem c_Small {W : World} {fs : List Fn} {v : Value} (hr : RepC W W0 (.fz 11 (encL tF fs)) v) (hb : ∀ f ∈ fs, BoundV f) : Calls Tryz.prog 11 #[.agg #[v]] W fun e W' => e = .returned (.bool (smallsB fs)) ∧ Ext W W' := by
  have hw : callW Tryz.prog annX plansX 11 [⟨.agg, [.c (.fz 11 (encL tF fs))]⟩] ⟨[], []⟩ = some (⟨.one, [.c (.v (.bool (smallsB fs)))]⟩, ⟨[], []⟩) := k_law16_Small (fs, ()) _ (sp_Small16 hb) _ (by kernel_rfl)
  refine (pure_one hw (vs := [.agg #[v]]) rfl (arg_progA hr)).mono fun e W' ⟨u, he, hu, hx⟩ => ?_
  cases hu
  exact ⟨he, hx⟩
theorem c_ref16Can {W : World} {fs : List Fn} {v : Value} (hr : RepC W W0 (.fz 11 (encL tF fs)) v) (hl : ∀ f ∈ fs, LenV f) (hn : fs.length ≤ 1000000) : Calls Tryz.prog 12 #[.agg #[v]] W fun e W' => e = .returned (.int .i64 (canP fs)) ∧ Ext W W' := by
  have hw : callW Tryz.prog annX plansX 12 [⟨.agg, [.c (.fz 11 (encL tF fs))]⟩] ⟨[], []⟩ = some (⟨.one, [.c (.v (.int .i64 (canP fs)))]⟩, ⟨[], []⟩) := k_ref16_Can (fs, ()) _ (sp_rfileCan hl hn) _ (by kernel_rfl)
  refine (pure_one hw (vs := [.agg #[v]]) rfl (arg_progA hr)).mono fun e W' ⟨u, he, hu, hx⟩ => ?_
  cases hu
  exact ⟨he, hx⟩
theorem arg_prog2 {W : World} {fs gs : List Fn} {v u : Value} (hr : RepC W W0 (.fz 11 (encL tF fs)) v) (hs : RepC W W0 (.fz 11 (encL tF gs)) u) : ∀ (i : Nat) t x, [(⟨.agg, [.c (.fz 11 (encL tF fs))]⟩ : T), ⟨.agg, [.c (.fz 11 (encL tF gs))]⟩][i]? = some t → [(.agg #[v] : Value), .agg #[u]][i]? = some x → RepT W W0 L0 ⟨[], []⟩ t x := fun i t x h1 h2 => by
  match i with
  | 0 =>
    cases h1
    cases h2
    exact ⟨[v], rfl, repCs_xs (repCs_one hr)⟩
  | 1 =>
    cases h1
    cases h2
    exact ⟨[u], rfl, repCs_xs (repCs_one hs)⟩
  | i + 2 => simp at h1
theorem c_ref16Same {W : World} {fs : List Fn} {v u : Value} (hr : RepC W W0 (.fz 11 (encL tF fs)) v) (hs : RepC W W0 (.fz 11 (encL tF fs)) u) (hl : ∀ f ∈ fs, LenV f) (hn : fs.length ≤ 1000000) : Calls Tryz.prog 17 #[.agg #[v], .agg #[u]] W fun e W' => e = .returned (.bool true) ∧ Ext W W' := by
  have hw : callW Tryz.prog annX plansX 17 [⟨.agg, [.c (.fz 11 (encL tF fs))]⟩, ⟨.agg, [.c (.fz 11 (encL tF fs))]⟩] ⟨[], []⟩ = some (⟨.one, [.c (.v (.bool (eqD fs fs)))]⟩, ⟨[], []⟩) := k_ref16_Same (fs, (fs, ())) _ (sp_ref16Same hl hn) _ (by kernel_rfl)
  refine (pure_one hw (vs := [.agg #[v], .agg #[u]]) rfl (arg_prog2 hr hs)).mono fun e W' ⟨x, he, hu, hx⟩ => ?_
  cases hu
  exact ⟨by rw [he]; simp [eqD], hx⟩
def bareV (f : Fn) : Bool := bareB f.2.2.2.2.2.2.2.2.1 f.2.2.2.2.2.2.2.2.2.1 f.2.2.2.2.2.2.2.2.2.2
theorem arg_fn {W : World} {f : Fn} {cs : List Value} (h : RepCs W W0 (enc tF f) cs) : ∀ (i : Nat) t u, [(⟨.agg, fnX f⟩ : T)][i]? = some t → [(.agg cs.toArray : Value)][i]? = some u → RepT W W0 L0 ⟨[], []⟩ t u := fun i t u e1 e2 => by
  match i with
  | 0 =>
    cases e1
    cases e2
    exact ⟨cs, rfl, repCs_xs h⟩
  | i + 1 => simp at e1
theorem c_ref15Bare {W : World} {f : Fn} {cs : List Value} (h : RepCs W W0 (enc tF f) cs) (hl : LenV f) : Calls Tryz.prog 14 #[.agg cs.toArray] W fun e W' => e = .returned (.bool (bareV f)) ∧ Ext W W' := by
  obtain ⟨g1, ⟨-, -, -, -, -, -, h7, h8, h9⟩, g3⟩ := hl
  have hw : callW Tryz.prog annX plansX 14 [⟨.agg, fnX f⟩] ⟨[], []⟩ = some (⟨.one, [.c (.v (.bool (bareV f)))]⟩, ⟨[], []⟩) := k_ref15_Bare (f.1, (f.2.1, (f.2.2.1, (f.2.2.2.1, (f.2.2.2.2.1, (f.2.2.2.2.2.1, (f.2.2.2.2.2.2.1, (f.2.2.2.2.2.2.2.1, (f.2.2.2.2.2.2.2.2.1, (f.2.2.2.2.2.2.2.2.2.1, (f.2.2.2.2.2.2.2.2.2.2, ())))))))))))  _ (sp_rBare (Nat.le_trans h7 (by decide)) (Nat.le_trans h8 (by decide)) (Nat.le_trans h9 (by decide))) _ (by kernel_rfl)
  refine (pure_one hw (vs := [.agg cs.toArray]) rfl (arg_fn h)).mono fun e W' ⟨u, he, hu, hx⟩ => ?_
  cases hu
  exact ⟨he, hx⟩
theorem bareV_is {f : Fn} (h : bareV f = true) : f.2.2.2.2.2.2.2.2 = ([], ([], [])) := by
  obtain ⟨name, inner, outer, params, results, locals, code, lines, nodes, at', live⟩ := f
  simp only [bareV, bareB, decide_eq_true_eq, List.length_eq_zero_iff] at h
  obtain ⟨h1, h2, h3⟩ := h
  subst h1 h2 h3
  rfl
/-- What a program's data tell of it, where it is small and can be laid. -/
theorem prog_len {x : List Fn} (h : OkD PrD x) (hs : smallsB x = true) : x.length ≤ 50 ∧ ∀ f ∈ x, LenV f ∧ f.2.2.2.2.2.2.1.length ≤ 150 ∧ ∀ p ∈ f.2.2.2.2.2.2.1, I64 p.2 := by
  simp only [smallsB, Bool.and_eq_true, decide_eq_true_eq, List.all_eq_true] at hs
  refine ⟨hs.1, fun f hf => ?_⟩
  have h1 := hs.2 f hf
  have h2 := h.2 _ hf
  obtain ⟨name, inner, outer, params, results, locals, code, lines, nodes, at', live⟩ := f
  obtain ⟨-, -, -, -, h6, h7⟩ := okD_dat h2
  have h0 : name.length ≤ 140737488351232 := h2.1
  simp only [smallV, smallB, decide_eq_true_eq] at h1
  refine ⟨⟨h0, ⟨?_, ?_, ?_, ?_, ?_, ?_, ?_, ?_, ?_⟩, ?_⟩, ?_, h6⟩
  all_goals (dsimp only; omega)
theorem canP_can {fs : List Fn} (h : canP fs = 0) : ∀ f ∈ fs, CanV f := by
  unfold canP at h
  split at h
  · cases h
  · split at h
    · rename_i h0
      exact firstE_zero.1 h0
    · rename_i h0
      exact absurd h h0
theorem canP_few {fs : List Fn} (h : canP fs = 0) : fs.length ≤ 40 := by
  unfold canP at h
  split at h
  · cases h
  · omega
theorem can_okT {f : Fn} (h : CanV f) (hi : ∀ p ∈ f.2.2.2.2.2.2.1, I64 p.2) : OkT f := by
  have hlen := CanF.len h
  refine ⟨⟨by omega, by omega, by omega, by omega, by omega⟩, by omega, fun v hv => ?_, hi⟩
  have c8 := h.2.2.2.2.2.2.2.1
  simp only [linesB, Bool.and_eq_true, decide_eq_true_eq] at c8
  have := List.all_eq_true.1 c8.2 v hv
  simp only [lineBQ, decide_eq_true_eq] at this
  exact ⟨by omega, by omega⟩
theorem all_bare {x : List Fn} {k : Nat} (h : k < x.length) : (x.take (k + 1)).all bareV = ((x.take k).all bareV && bareV x[k]) := by
  rw [List.take_succ_eq_append_getElem h, List.all_append]
  simp
set_option maxHeartbeats 8000000 in
theorem DisBack_walk (x : List Fn) (cs : List Value) (m : Int) (w : World) (hm : w.cell? ⟨0, 0, none⟩ = some (.int .i64 m)) (hx : DatR PrD w cs x) :
    Calls Tryz.prog 4 #[.agg cs.toArray] w fun e w' => e = .returned (.bool true) ∧ Ext w w' := by
  obtain ⟨v, rfl⟩ : ∃ v, cs = [v] := by
    match cs, hx.len with
    | [v], _ => exact ⟨v, rfl⟩
  have hr : RepC w W0 (.fz 11 (encL tF x)) v := hx.1.2 0 _ _ rfl rfl
  have HRV := Lib.hid hr
  have HM := Lib.hid hm
  have HS := Lib.hid fun (W : World) (h : Ext w W) => c_Small (rep_below1 hr h) (okP_bound hx.2)
  have HL : Hid (smallsB x = true → x.length ≤ 50 ∧ ∀ f ∈ x, LenV f ∧ f.2.2.2.2.2.2.1.length ≤ 150 ∧ ∀ p ∈ f.2.2.2.2.2.2.1, I64 p.2) := Lib.hid fun h => prog_len hx.2 h
  have HC := Lib.hid fun (h : smallsB x = true) (W : World) (h2 : Ext w W) => c_ref16Can (rep_below1 hr h2) (fun f hf => ((HL.out h).2 f hf).1) (Nat.le_trans (HL.out h).1 (by decide))
  obtain ⟨ao, cap, rfl, hel⟩ := row_elem hr
  have HE := Lib.hid hel
  clear hr hx hel hm
  show Calls Tryz.prog 4 #[.agg #[.slice ao x.length cap]] w _
  have hxA : Ext w (w.alloc (.cells #[.slice ao x.length cap] 42)) := (Ext.rf w).al _
  have HXA := Lib.hid hxA
  clear hxA
  go_enter Tryz.func4, Tryz.ntmps4
  go_wp2_with fail
  refine (HS.out _ HXA.out).mono ?_
  rintro e w1 ⟨rfl, hx1⟩
  have k0x : Hid (w1.cell? ⟨w.heap.size, 0, none⟩ = some (.slice ao x.length cap)) := Lib.hid (hx1.has (blk (alloc_new w _) 0 rfl))
  have HX1 := Lib.hid (HXA.out.tr hx1)
  clear hx1 HS HXA
  cases hs : smallsB x with
  | false =>
    go_wp2_with fail
    refine (lives_walk _).mono ?_
    rintro e w2 ⟨rfl, hx2⟩
    have HX2 := Lib.hid (HX1.out.tr hx2)
    clear hx2
    go_wp2_with fail
    go_ret
    exact ⟨rfl, HX2.out⟩
  | true =>
    have k0 := k0x.out
    have HSM := Lib.hid hs
    clear hs
    go_wp2_with fail
    refine (HC.out HSM.out _ HX1.out).mono ?_
    rintro e w2 ⟨rfl, hx2⟩
    have k0y : Hid (w2.cell? ⟨w.heap.size, 0, none⟩ = some (.slice ao x.length cap)) := Lib.hid (hx2.has k0x.out)
    have HX2 := Lib.hid (HX1.out.tr hx2)
    clear hx2 HC k0
    by_cases hc : canP x = 0
    · have t0 : (canP x != 0) = false := by rw [hc]; rfl
      have HCP := Lib.hid hc
      have hxl := (HL.out HSM.out).1
      clear hc
      go_wp2_with fail
      go_loopw [3] (fun i wr => ∃ k : Nat, k ≤ x.length ∧ i = .int .i64 k ∧ Hid (Ext w wr) ∧ Hid (wr.cell? ⟨w.heap.size, 0, none⟩ = some (.slice ao x.length cap)) ∧ Hid ((x.take k).all bareV = true))
        (fun i _ => x.length - (intOf i).toNat)
      case atStart => exact ⟨0, Nat.zero_le _, rfl, HX2, k0y, Lib.hid (by simp)⟩
      case round =>
        obtain ⟨k, hk, rfl, HXr, HKr, HAr⟩ := hrel
        have k1 := HKr.out
        by_cases hlt : k < x.length
        · have hltB : decide ((k : Int) < (x.length : Int)) = true := decide_eq_true (by omega)
          have hltB2 : decide (k < x.length) = true := decide_eq_true hlt
          obtain ⟨b, off, rfl, hbw, hj⟩ := HE.out (fun h => by rw [h] at hlt; simp at hlt)
          obtain ⟨cs, hcs, hrg⟩ := hj k hlt
          have HB := Lib.hid (fun (W : World) (h : Ext w W) => c_ref15Bare (reps_keep h.size (fun b _ hl => h.block hl) hcs) ((HL.out HSM.out).2 x[k] (List.getElem_mem hlt)).1)
          obtain ⟨a1, c1, a2, c2, a3, c3, a4, c4, a5, c5, a6, c6, a7, c7, a8, c8, a9, c9, hcse⟩ := fn_cells hcs
          have hrg2 : wr.rangeAt b (off + k * 11) cs := fun j u hu => (cell_of_block (HXr.out.block hbw)).trans (hrg j u hu)
          rw [hcse] at hrg2 HB
          have e0 := hrg2 0 _ rfl
          have e1 := hrg2 1 _ rfl
          have e2 := hrg2 2 _ rfl
          have e3 := hrg2 3 _ rfl
          have e4 := hrg2 4 _ rfl
          have e5 := hrg2 5 _ rfl
          have e6 := hrg2 6 _ rfl
          have e7 := hrg2 7 _ rfl
          have e8 := hrg2 8 _ rfl
          have e9 := hrg2 9 _ rfl
          have e10 := hrg2 10 _ rfl
          rw [Nat.add_zero] at e0
          clear hrg2 hj hrg hcs hcse
          have HK := Lib.hid hk
          have hidx : ¬(x.length : Int) ≤ (k : Int) := by omega
          go_wp2_with fail
          refine (HB.out _ HXr.out).mono ?_
          rintro e w3 ⟨rfl, hx3⟩
          have k0z : Hid (w3.cell? ⟨w.heap.size, 0, none⟩ = some (.slice (some ⟨b, off, none⟩) x.length cap)) := Lib.hid (hx3.has HKr.out)
          have HX3 := Lib.hid (HXr.out.tr hx3)
          clear hx3 HB k1 e0 e1 e2 e3 e4 e5 e6 e7 e8 e9 e10
          cases hb : bareV x[k] with
          | true =>
            have hA2 : (x.take (k + 1)).all bareV = true := by rw [all_bare hlt, HAr.out, hb]; rfl
            clear hb
            go_wp2_with fail
            exact ⟨⟨k + 1, hlt, rfl, HX3, k0z, Lib.hid hA2⟩, (by show x.length - ((k : Int) + 1).toNat < x.length - ((k : Int)).toNat; omega)⟩
          | false =>
            clear hb
            go_wp2_with fail
            refine (lives_walk _).mono ?_
            rintro e w4 ⟨rfl, hx4⟩
            have HX4 := Lib.hid (HX3.out.tr hx4)
            clear hx4
            go_wp2_with fail
            go_ret
            exact ⟨rfl, HX4.out⟩
        · obtain rfl : k = x.length := by omega
          have hltB : decide ((x.length : Int) < (x.length : Int)) = false := decide_eq_false (by omega)
          have hltB2 : decide (x.length < x.length) = false := decide_eq_false (by omega)
          have hall : ∀ f ∈ x, bareV f = true := by
            have := HAr.out
            rw [List.take_length, List.all_eq_true] at this
            exact this
          have hne : x ≠ [] := fun h => by have := HCP.out; rw [h] at this; revert this; decide
          have hcan : ∀ f ∈ x, CanV f := canP_can HCP.out
          have hback : ∀ f ∈ x, Back f := fun f hf => ⟨hcan f hf, bareV_is (hall f hf), ((HL.out HSM.out).2 f hf).2.2⟩
          have h40 : x.length ≤ 40 := canP_few HCP.out
          have hshort := text_short hback (fun f hf => ((HL.out HSM.out).2 f hf).2.1) h40
          obtain ⟨hq1, hq2⟩ := text_back hback hne
          have hOk : ∀ f ∈ x, OkT f := fun f hf => can_okT (hcan f hf) ((HL.out HSM.out).2 f hf).2.2
          have HT := Lib.hid (dis_Text_walk x (.slice ao x.length cap) wr (rep_below1 HRV.out HXr.out) hOk (by omega))
          have HRD := Lib.hid (fun (W : World) (h : Ext w W) => asm_Read (textT x) m 0 W (h.has HM.out) hshort fun fs _ h2 W' u hr' => by
            rw [hq2] at h2
            obtain rfl := (Prod.mk.inj h2).1
            have := c_fileCan hr' (fun f hf => hall f hf) (fun f hf => ((HL.out HSM.out).2 f hf).1) (by omega)
            rw [HCP.out] at this
            exact this)
          have HO : Hid (∀ o, Reads (splitNl (trimNl (textT x))) 0 o → o = (x, (0, 0))) := Lib.hid fun o ho => by
            cases ho with
            | bad i hi h1 h2 => exact absurd (hq1 i hi) h2
            | short f h1 h2 => rw [hq2] at h2; cases h2
            | cannot h1 h2 h3 => exact absurd rfl h3
            | ok h1 h2 h3 => rw [hq2]
          have HSA := Lib.hid (fun (W : World) (u u' : Value) (h1 : RepC W W0 (.fz 11 (encL tF x)) u) (h2 : RepC W W0 (.fz 11 (encL tF x)) u') => c_ref16Same h1 h2 (fun f hf => ((HL.out HSM.out).2 f hf).1) (by omega))
          clear hall hne hcan hback h40 hshort hq1 hq2 hOk
          generalize textT x = tx at *
          go_wp2_with fail
          refine HT.out.mono ?_
          rintro e w3 ⟨rfl, hx3⟩
          have HX3 := Lib.hid (HXr.out.tr hx3)
          have k3 : Hid (w3.cell? ⟨w.heap.size, 0, none⟩ = some (.slice ao x.length cap)) := Lib.hid (hx3.has HKr.out)
          clear hx3 k1 HT
          go_wp2_with fail
          refine (HRD.out _ HX3.out).mono ?_
          rintro e w4 ⟨o, u, ho, rfl, hru, hx4⟩
          obtain rfl := HO.out o ho
          have HX4 := Lib.hid (HX3.out.tr hx4)
          have k4 : Hid (w4.cell? ⟨w.heap.size, 0, none⟩ = some (.slice ao x.length cap)) := Lib.hid (hx4.has k3.out)
          have HU := Lib.hid hru
          obtain ⟨ao2, n2, cap2, rfl⟩ : ∃ ao n cap, u = .slice ao n cap := by
            dsimp only at hru
            cases hru with
            | fz _ cap _ ao us => exact ⟨ao, _, cap, rfl⟩
          clear hru hx4 ho HRD HO
          have k5 : ∀ o, (w4.alloc o).cell? ⟨w.heap.size, 0, none⟩ = some (.slice ao x.length cap) := fun o => ((Ext.rf w4).al o).has k4.out
          dsimp only
          go_wp2_with fail
          have hxo := (Ext.rf w4).al (.cells #[.slice ao2 n2 cap2] 42)
          refine (HSA.out _ (.slice ao2 n2 cap2) (.slice ao x.length cap) (rep_below1 HU.out hxo) (rep_below1 HRV.out (HX4.out.tr hxo))).mono ?_
          rintro e w5 ⟨rfl, hx5⟩
          have HX5 := Lib.hid ((HX4.out.tr hxo).tr hx5)
          clear hx5 hxo k5
          go_wp2_with fail
          refine (lives_walk _).mono ?_
          rintro e w6 ⟨rfl, hx6⟩
          have HX6 := Lib.hid (HX5.out.tr hx6)
          clear hx6
          go_wp2_with fail
          go_ret
          exact ⟨rfl, HX6.out⟩
    · have t0 : (canP x != 0) = true := by rw [bne_iff_ne]; exact hc
      clear hc
      go_wp2_with fail
      refine (lives_walk _).mono ?_
      rintro e w3 ⟨rfl, hx3⟩
      have HX3 := Lib.hid (HX2.out.tr hx3)
      clear hx3
      go_wp2_with fail
      go_ret
      exact ⟨rfl, HX3.out⟩
end Go.Proofs.YtkdnbnkbnegckaaGreatDoor
namespace Go.Proofs.YtkdnbnkbnegckaaGreatDoor.disBack
open Go.ChangeShapes Go.WideShapes Go.ChangeAt Go.RowKit
open Go.ChangeMaps (open_string shut_string)
set_option linter.unusedVariables false

theorem own : ownKnob Tryz.prog.godebug = none := by kernel_rfl
theorem laidOut : laidOutB Tryz.prog = true := by kernel_rfl
def tabOf (cs : Array Value) : Obj → Obj
  | .cells _ t frozen => .cells cs t frozen
  | o => o
/-- A world for the witness: the settled one, the tables holding what their texts lay. -/
noncomputable def laidWorld (os : Os) : World :=
  { World.holding Tryz.prog os ⟨#[], #[], []⟩ with heap := Array.modify (Array.modify (World.holding Tryz.prog os ⟨#[], #[], []⟩).heap 1 (tabOf #[.int .u8 240, .int .u8 240, .int .u8 240, .int .u8 240, .int .u8 240, .int .u8 240, .int .u8 240, .int .u8 240, .int .u8 240, .int .u8 240, .int .u8 240, .int .u8 240, .int .u8 240, .int .u8 240, .int .u8 240, .int .u8 240, .int .u8 240, .int .u8 240, .int .u8 240, .int .u8 240, .int .u8 240, .int .u8 240, .int .u8 240, .int .u8 240, .int .u8 240, .int .u8 240, .int .u8 240, .int .u8 240, .int .u8 240, .int .u8 240, .int .u8 240, .int .u8 240, .int .u8 240, .int .u8 240, .int .u8 240, .int .u8 240, .int .u8 240, .int .u8 240, .int .u8 240, .int .u8 240, .int .u8 240, .int .u8 240, .int .u8 240, .int .u8 240, .int .u8 240, .int .u8 240, .int .u8 240, .int .u8 240, .int .u8 240, .int .u8 240, .int .u8 240, .int .u8 240, .int .u8 240, .int .u8 240, .int .u8 240, .int .u8 240, .int .u8 240, .int .u8 240, .int .u8 240, .int .u8 240, .int .u8 240, .int .u8 240, .int .u8 240, .int .u8 240, .int .u8 240, .int .u8 240, .int .u8 240, .int .u8 240, .int .u8 240, .int .u8 240, .int .u8 240, .int .u8 240, .int .u8 240, .int .u8 240, .int .u8 240, .int .u8 240, .int .u8 240, .int .u8 240, .int .u8 240, .int .u8 240, .int .u8 240, .int .u8 240, .int .u8 240, .int .u8 240, .int .u8 240, .int .u8 240, .int .u8 240, .int .u8 240, .int .u8 240, .int .u8 240, .int .u8 240, .int .u8 240, .int .u8 240, .int .u8 240, .int .u8 240, .int .u8 240, .int .u8 240, .int .u8 240, .int .u8 240, .int .u8 240, .int .u8 240, .int .u8 240, .int .u8 240, .int .u8 240, .int .u8 240, .int .u8 240, .int .u8 240, .int .u8 240, .int .u8 240, .int .u8 240, .int .u8 240, .int .u8 240, .int .u8 240, .int .u8 240, .int .u8 240, .int .u8 240, .int .u8 240, .int .u8 240, .int .u8 240, .int .u8 240, .int .u8 240, .int .u8 240, .int .u8 240, .int .u8 240, .int .u8 240, .int .u8 240, .int .u8 240, .int .u8 240, .int .u8 241, .int .u8 241, .int .u8 241, .int .u8 241, .int .u8 241, .int .u8 241, .int .u8 241, .int .u8 241, .int .u8 241, .int .u8 241, .int .u8 241, .int .u8 241, .int .u8 241, .int .u8 241, .int .u8 241, .int .u8 241, .int .u8 241, .int .u8 241, .int .u8 241, .int .u8 241, .int .u8 241, .int .u8 241, .int .u8 241, .int .u8 241, .int .u8 241, .int .u8 241, .int .u8 241, .int .u8 241, .int .u8 241, .int .u8 241, .int .u8 241, .int .u8 241, .int .u8 241, .int .u8 241, .int .u8 241, .int .u8 241, .int .u8 241, .int .u8 241, .int .u8 241, .int .u8 241, .int .u8 241, .int .u8 241, .int .u8 241, .int .u8 241, .int .u8 241, .int .u8 241, .int .u8 241, .int .u8 241, .int .u8 241, .int .u8 241, .int .u8 241, .int .u8 241, .int .u8 241, .int .u8 241, .int .u8 241, .int .u8 241, .int .u8 241, .int .u8 241, .int .u8 241, .int .u8 241, .int .u8 241, .int .u8 241, .int .u8 241, .int .u8 241, .int .u8 241, .int .u8 241, .int .u8 2, .int .u8 2, .int .u8 2, .int .u8 2, .int .u8 2, .int .u8 2, .int .u8 2, .int .u8 2, .int .u8 2, .int .u8 2, .int .u8 2, .int .u8 2, .int .u8 2, .int .u8 2, .int .u8 2, .int .u8 2, .int .u8 2, .int .u8 2, .int .u8 2, .int .u8 2, .int .u8 2, .int .u8 2, .int .u8 2, .int .u8 2, .int .u8 2, .int .u8 2, .int .u8 2, .int .u8 2, .int .u8 2, .int .u8 2, .int .u8 19, .int .u8 3, .int .u8 3, .int .u8 3, .int .u8 3, .int .u8 3, .int .u8 3, .int .u8 3, .int .u8 3, .int .u8 3, .int .u8 3, .int .u8 3, .int .u8 3, .int .u8 35, .int .u8 3, .int .u8 3, .int .u8 52, .int .u8 4, .int .u8 4, .int .u8 4, .int .u8 68, .int .u8 241, .int .u8 241, .int .u8 241, .int .u8 241, .int .u8 241, .int .u8 241, .int .u8 241, .int .u8 241, .int .u8 241, .int .u8 241, .int .u8 241])) 2 (tabOf #[.int .u8 128, .int .u8 191, .int .u8 160, .int .u8 191, .int .u8 128, .int .u8 159, .int .u8 144, .int .u8 191, .int .u8 128, .int .u8 143, .int .u8 0, .int .u8 0, .int .u8 0, .int .u8 0, .int .u8 0, .int .u8 0, .int .u8 0, .int .u8 0, .int .u8 0, .int .u8 0, .int .u8 0, .int .u8 0, .int .u8 0, .int .u8 0, .int .u8 0, .int .u8 0, .int .u8 0, .int .u8 0, .int .u8 0, .int .u8 0, .int .u8 0, .int .u8 0]) }
theorem laid_met (os : Os) : laidMet Tryz.prog Rows.disBackRow.laid ((laidWorld os).forCall (fun _ _ => 0) ⟨#[], #[.agg #[.slice none 0 0]], []⟩).memory :=
  laidMet_of_run' 8 (by kernel_rfl) (by kernel_rfl)
theorem reads (os : Os) {H : Type} (enc : TypeId × Value → H) : ∃ places, DataW.whole enc Tryz.prog ((laidWorld os).forCall (fun _ _ => 0) ⟨#[], #[.agg #[.slice none 0 0]], []⟩).memory Tryz.f4.params.toList Rows.disBackSpec.vars false #[.agg #[.slice none 0 0]].toList 8 = some ([.agg [.nil]], [], places) :=
  ⟨[], by kernel_rfl⟩

set_option maxRecDepth 100000 in
theorem lifted (os : Os) (started : os.Started) (H : Type) (enc : TypeId × Value → H) (F : Stop.Interp) :
    ReturnsInHanded {} Tryz.checked os 4 .any ((OpenSpec.ofChange Rows.disBackSpec).preRow enc Tryz.prog Tryz.f4 Rows.disBackRow.domain false Rows.disBackRow.laid) (((OpenSpec.ofChange Rows.disBackSpec).at F).post enc Tryz.prog Tryz.f4 false true false false) := by
  obtain ⟨places, hx⟩ := reads os enc
  refine returnsInHanded_of_row (C := Tryz.checked) (s := OpenSpec.ofChange Rows.disBackSpec) own started (by kernel_rfl) Tryz.func4
    (witness_row_at (enc := enc) (C := Tryz.checked) false (laidWorld os) #[.agg #[.slice none 0 0]] rfl (by kernel_rfl) (by kernel_rfl) (by kernel_rfl)
      (OpenSpec.preRow_of_cond 8 hx (by kernel_rfl) (fun k hk => by cases hk) (by kernel_rfl) (laid_met os))) ?_
  intro W base args ds gs before hval0 hW hcnd hk hsz0 hL hsh hholds
  obtain ⟨gm, hgm⟩ := Tryz.laysM143.s1_3 W hsh
  have hval : ∀ (j : Nat) t v, Tryz.f4.params[j]? = some t → args[j]? = some v → Value.okWide Tryz.prog W .any base t v := hval0
  have hsz : (DataW.weightsEach Tryz.prog (Tryz.f4.params.toList ++ Rows.disBackSpec.plain.varTypes Tryz.prog) (ds ++ gs)).all (· ≤ reachBytes) = true := hsz0
  have hW' := hW
  obtain ⟨p, q, hA0, hV, rfl, hfz, hnd⟩ := hW
  have hA : DataW.TrodAll enc Tryz.prog W 0 (fun _ => true) true Tryz.f4.params.toList args.toList ds p := hA0
  rw [Tryz.params4] at hA hval hsz
  obtain ⟨v0, vs0, d0, ds0, p0, q0, hargs, rfl, rfl, h0, r0⟩ := trodAll_cons hA
  obtain ⟨rfl, rfl, rfl⟩ := trodAll_nil r0
  obtain rfl : args = #[v0] := by cases args; simp_all
  obtain ⟨rfl, rfl⟩ := trodVars_none hV
  have k0 := h0
  have lt0 : ∀ x ∈ p0, x.block < W.heap.size := by obtain ⟨m, hm⟩ := k0; exact DataW.trod_lt m _ _ _ hm
  obtain ⟨cs0, rfl, _⟩ := okWide_struct Tryz.underlying42 (hval 0 42 v0 rfl rfl)
  obtain ⟨z0, w0⟩ := open_d opensD_prog hsz (j := 0) rfl rfl h0
  clear hA0 hval0
  refine (DisBack_walk (m := gm) (w := W) (x := z0) (cs := cs0.toList) (hm := hgm) (hx := w0)).mono fun e W' ⟨he, bel⟩ => ?_
  subst he
  exact ⟨_, rfl, _, _, _, [], _, [], hW', trodAll_mk1 (shut_bool Tryz.underlying4 _), (trodAll_cons_mk (Below.trod laidOut (by kernel_rfl) (of_decide_eq_true (by kernel_rfl)) k0 bel.b lt0) trodAll_mk0), rfl, bel.b.frame _, fun h => by cases h⟩
theorem said : Rows.DisBackSaid :=
  OpenClaim.holds_of_cond 4 Tryz.f4 rfl rfl rfl rfl rfl rfl rfl ⟨rfl, rfl, rfl, rfl, rfl⟩ rfl rfl rfl rfl rfl (by kernel_rfl) Tryz.func4 (by kernel_rfl)
    (of_decide_eq_true (by kernel_rfl)) (by unfold Func.isWrapper; first | (rw [if_pos (by decide +kernel)]; kernel_rfl) | (rw [if_neg (by decide +kernel)]; exact ⟨rfl, rfl⟩))
    (fun os started H enc _ F => by rw [OpenClaim.pre_eq_preRow]; exact lifted os started H enc F)
theorem plain (f : FuncId) (fn : Func) (hf : Tryz.pinned.checked.prog.funcNamed "inlay/inlaylaw18.DisBack" = some f) (hfn : Tryz.pinned.checked.prog.funcs[f]? = some fn) :
    false = Tryz.pinned.checked.prog.looks [] ∧ ∀ (j : Nat) t, fn.params[j]? = some t → Tryz.pinned.checked.prog.wantsStandIn t = false := by
  obtain rfl : f = 4 := Option.some.inj ((show Tryz.prog.funcNamed "inlay/inlaylaw18.DisBack" = some 4 by kernel_rfl).symm.trans hf) |>.symm
  obtain rfl : fn = Tryz.f4 := (Option.some.inj (Tryz.func4.symm.trans hfn)).symm
  refine ⟨by kernel_rfl, fun j t ht => ?_⟩
  rw [Tryz.params4] at ht
  obtain rfl : t = 42 := by simpa using Array.mem_of_getElem? ht
  exact (show Tryz.prog.wantsStandIn 42 = false by kernel_rfl)
theorem card : Rows.DisBackCardSaid :=
  Claim7.holds_tied_plain_at .later [] _ _ _ _ said (fun _ h => by cases h) (by kernel_rfl) (fun _ h => by cases h) disBack_row_tie rfl ⟨rfl, rfl⟩ (by kernel_rfl) rfl plain (by kernel_rfl)
end Go.Proofs.YtkdnbnkbnegckaaGreatDoor.disBack

namespace Go.Proofs.YtkdnbnkbnegckaaGreatDoor
theorem DisBack_proved : Rows.DisBackCardSaid := disBack.card
#print axioms DisBack_proved
end Go.Proofs.YtkdnbnkbnegckaaGreatDoor
