/- The law DisTexts, walked. -/
import Derived.Test.YtkdnbnkbnegckaaLvs
namespace Go.Proofs.Ytkdnbnkbnegckaa
open Go.RowKit
set_option maxRecDepth 20000
set_option linter.unusedVariables false
theorem arg_prog {W : World} {fs : List Fn} {v : Value} (hr : RepC W W0 (.fz 11 (encL tF fs)) v) : ∀ (i : Nat) t u, [(⟨.agg, [.c (.fz 11 (encL tF fs))]⟩ : T)][i]? = some t → [Value.agg #[v]][i]? = some u → RepT W W0 L0 ⟨[], []⟩ t u := fun i t u h1 h2 => by
  match i with
  | 0 =>
    cases h1
    cases h2
    exact ⟨[v], rfl, repCs_xs (repCs_one hr)⟩
  | i + 1 => simp at h1
theorem c_Small {W : World} {fs : List Fn} {v : Value} (hr : RepC W W0 (.fz 11 (encL tF fs)) v) (hb : ∀ f ∈ fs, BoundV f) : Calls Try.prog 4 #[.agg #[v]] W fun e W' => e = .returned (.bool (smallsB fs)) ∧ Ext W W' := by
  have hw : callW Try.prog annX plansX 4 [⟨.agg, [.c (.fz 11 (encL tF fs))]⟩] ⟨[], []⟩ = some (⟨.one, [.c (.v (.bool (smallsB fs)))]⟩, ⟨[], []⟩) := k_law16_Small (fs, ()) _ (sp_Small16 hb) _ (by kernel_rfl)
  refine (pure_one hw (vs := [.agg #[v]]) rfl (arg_prog hr)).mono fun e W' ⟨u, he, hu, hx⟩ => ?_
  cases hu
  exact ⟨he, hx⟩
theorem c_rText {W : World} {fs : List Fn} {v : Value} (hr : RepC W W0 (.fz 11 (encL tF fs)) v) (hf : ∀ f ∈ fs, OkT f) (hn : fs.length ≤ 1000000) : Calls Try.prog 7 #[.agg #[v]] W fun e W' => e = .returned (.string ⟨⟨textT fs⟩⟩) ∧ Ext W W' := by
  have hw : callW Try.prog annX plansX 7 [⟨.agg, [.c (.fz 11 (encL tF fs))]⟩] ⟨[], []⟩ = some (⟨.one, [.c (.v (.string ⟨⟨textT fs⟩⟩))]⟩, ⟨[], []⟩) := k_ref18_Text (fs, ()) _ (sp_rText hf hn) _ (by kernel_rfl)
  refine (pure_one hw (vs := [.agg #[v]]) rfl (arg_prog hr)).mono fun e W' ⟨u, he, hu, hx⟩ => ?_
  cases hu
  exact ⟨he, hx⟩
set_option maxHeartbeats 4000000 in
theorem DisTexts_walk (x : List Fn) (cs : List Value) (w : World) (hx : DatR PrD w cs x) (hn : ∀ f ∈ x, f.1.length ≤ 1048576) :
    Calls Try.prog 3 #[.agg cs.toArray] w fun e w' => e = .returned (.bool true) ∧ Ext w w' := by
  obtain ⟨v, rfl⟩ : ∃ v, cs = [v] := by
    match cs, hx.len with
    | [v], _ => exact ⟨v, rfl⟩
  have hr : RepC w W0 (.fz 11 (encL tF x)) v := hx.1.2 0 _ _ rfl rfl
  have HS := Lib.hid fun (W : World) (h : Ext w W) => c_Small (rep_below1 hr h) (okP_bound hx.2)
  have HO : Hid (smallsB x = true → x.length ≤ 50 ∧ ∀ f ∈ x, OkT f) := Lib.hid fun h => okT_small hx.2 h hn
  have HT := Lib.hid fun (h : smallsB x = true) (W : World) (h2 : Ext w W) => dis_Text_walk x v W (rep_below1 hr h2) (HO.out h).2 (textT_le (HO.out h).2 (HO.out h).1)
  have HR := Lib.hid fun (h : smallsB x = true) (W : World) (h2 : Ext w W) => c_rText (rep_below1 hr h2) (HO.out h).2 (Nat.le_trans (HO.out h).1 (by decide))
  obtain ⟨ao, cap, rfl, -⟩ := row_elem hr
  clear hr hx hn HO
  show Calls Try.prog 3 #[.agg #[.slice ao x.length cap]] w _
  have hxA : Ext w (w.alloc (.cells #[.slice ao x.length cap] 24)) := (Ext.rf w).al _
  have HXA := Lib.hid hxA
  clear hxA
  go_enter Try.func3, Try.ntmps3
  go_wp2_with fail
  refine (HS.out _ HXA.out).mono ?_
  rintro e w1 ⟨rfl, hx1⟩
  have k0x : Hid (w1.cell? ⟨w.heap.size, 0, none⟩ = some (.slice ao x.length cap)) := Lib.hid (hx1.has (blk (alloc_new w _) 0 rfl))
  have HX1 := Lib.hid (HXA.out.tr hx1)
  clear hx1 HS HXA
  cases hs : smallsB x with
  | false =>
    go_wp2_with fail
    refine (lives_walk _).mono ?_
    rintro e w2 ⟨rfl, hx2⟩
    have HX2 := Lib.hid (HX1.out.tr hx2)
    clear hx2
    go_wp2_with fail
    go_ret
    exact ⟨rfl, HX2.out⟩
  | true =>
    have HT := Lib.hid (HT.out hs)
    have HR := Lib.hid (HR.out hs)
    generalize textT x = tx at *
    have k0 := k0x.out
    go_wp2_with fail
    go_region_held3 (fun w' => w'.cell? ⟨w.heap.size, 0, none⟩ = some (.slice ao x.length cap)) (first | assumption | (refine Ext.has (a := w1) ?_ k0x.out; (repeat' (first | exact Ext.rf _ | refine Ext.al ?_ _ | refine Ext.dr ?_ | refine Ext.trh (by assumption) ?_)); done))
      (first | (go_at_call 6; refine (HT.out _ (HX1.out.tr ?_)).mono ?_; (repeat' (first | exact Ext.rf _ | refine Ext.al ?_ _ | refine Ext.dr ?_ | refine Ext.trh (by assumption) ?_)); rintro e va ⟨rfl, hxa⟩; have Hva := Lib.hid hxa; clear hxa; have k0 : va.cell? ⟨w.heap.size, 0, none⟩ = _ := Ext.has (a := w1) (by (repeat' (first | exact Ext.rf _ | refine Ext.al ?_ _ | refine Ext.dr ?_ | refine Ext.trh (by assumption) ?_))) k0x.out) | (go_at_call 7; refine (HR.out _ (HX1.out.tr ?_)).mono ?_; (repeat' (first | exact Ext.rf _ | refine Ext.al ?_ _ | refine Ext.dr ?_ | refine Ext.trh (by assumption) ?_)); rintro e vb ⟨rfl, hxb⟩; have Hvb := Lib.hid hxb; clear hxb; have k0 : vb.cell? ⟨w.heap.size, 0, none⟩ = _ := Ext.has (a := w1) (by (repeat' (first | exact Ext.rf _ | refine Ext.al ?_ _ | refine Ext.dr ?_ | refine Ext.trh (by assumption) ?_))) k0x.out) | (go_at_call 5; refine (lives_walk _).mono ?_; rintro e vc ⟨rfl, hxc⟩; have Hvc := Lib.hid hxc; clear hxc; have k0 : vc.cell? ⟨w.heap.size, 0, none⟩ = _ := Ext.has (a := w1) (by (repeat' (first | exact Ext.rf _ | refine Ext.al ?_ _ | refine Ext.dr ?_ | refine Ext.trh (by assumption) ?_))) k0x.out))
    all_goals (go_wp2_with fail)
    all_goals go_ret
    all_goals exact ⟨rfl, HX1.out.tr (by (repeat' (first | exact Ext.rf _ | refine Ext.al ?_ _ | refine Ext.dr ?_ | refine Ext.trh (by assumption) ?_)))⟩
end Go.Proofs.Ytkdnbnkbnegckaa
