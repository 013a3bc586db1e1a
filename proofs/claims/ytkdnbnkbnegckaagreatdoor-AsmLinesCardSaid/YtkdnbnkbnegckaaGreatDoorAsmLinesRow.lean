/- file.Can of functions without tables; lives of law 17. Law 17, walked. AsmLines: every input, by the walk of the law; the card: the tables of unicode/utf8 are what their own texts lay (none is read on our ways). -/
import Derived.Test.YtkdnbnkbnegckaaGreatDoorArr
import Derived.Test.YtkdnbnkbnegckaaGreatDoorSpA
import Derived.Test.YtkdnbnkbnegckaaGreatDoorOpenD
import Derived.Test.YtkdnbnkbnegckaaGreatDoorCards
import Derived.Test.YtkdnbnkbnegckaaGreatDoorTie
import Derived.ProofKit
import Derived.OpenShut
import Derived.ShutString
import Derived.SizedLaws
import Derived.Deep.Slices
import Derived.Deep.DeepHandedRow
import Derived.HandedShaped
import Derived.Lib.LaidTab
namespace Go.Proofs.YtkdnbnkbnegckaaGreatDoor
open Go.RowKit
set_option maxRecDepth 100000
set_option linter.unusedVariables false
theorem arg_progA {W : World} {fs : List Fn} {v : Value} (hr : RepC W W0 (.fz 11 (encL tF fs)) v) : ∀ (i : Nat) t u, [(⟨.agg, [.c (.fz 11 (encL tF fs))]⟩ : T)][i]? = some t → [(.agg #[v] : Value)][i]? = some u → RepT W W0 L0 ⟨[], []⟩ t u := fun i t u h1 h2 => by
  match i with
  | 0 =>
    cases h1
    cases h2
    exact ⟨[v], rfl, repCs_xs (repCs_one hr)⟩
  | i + 1 => simp at h1
theorem c_fileCan {W : World} {fs : List Fn} {v : Value} (hr : RepC W W0 (.fz 11 (encL tF fs)) v) (hbr : ∀ f ∈ fs, bareB f.2.2.2.2.2.2.2.2.1 f.2.2.2.2.2.2.2.2.2.1 f.2.2.2.2.2.2.2.2.2.2 = true) (hl : ∀ f ∈ fs, LenV f) (hn : fs.length ≤ 1000000) : Calls Tryz.prog 43 #[.agg #[v]] W fun e W' => e = .returned (.int .i64 (canP fs)) ∧ Ext W W' := by
  have hw : callW Tryz.prog annX plansX 43 [⟨.agg, [.c (.fz 11 (encL tF fs))]⟩] ⟨[], []⟩ = some (⟨.one, [.c (.v (.int .i64 (canP fs)))]⟩, ⟨[], []⟩) := k_file_Can (fs, ()) _ (sp_fileCan hbr hl hn) _ (by kernel_rfl)
  refine (pure_one hw (vs := [.agg #[v]]) rfl (arg_progA hr)).mono fun e W' ⟨u, he, hu, hx⟩ => ?_
  cases hu
  exact ⟨he, hx⟩
def txA : List UInt8 := [102, 117, 110, 99, 32, 102, 32, 45, 32, 45, 32, 45, 10, 49, 32, 114, 101, 116, 10, 101, 110, 100, 10]
def txB : List UInt8 := [102, 117, 110, 99, 32, 102, 32, 45, 32, 45, 32, 45, 10, 49, 32, 114, 111, 116]
def lsA := splitNl (trimNl txA)
def lsB := splitNl (trimNl txB)
def fA : Fn := ([102], (false, ([], ([], ([], ([], ([(25, 0)], ([1], ([], ([], []))))))))))
theorem lsA_len : lsA.length = 3 := by decide +kernel
theorem errA0 : errAt lsA 0 = 0 := by decide +kernel
theorem errA1 : errAt lsA 1 = 0 := by decide +kernel
theorem errA2 : errAt lsA 2 = 0 := by decide +kernel
theorem stA : stAt lsA 3 = ([fA], none) := by kernel_rfl
theorem canA : canP [fA] = 0 := by decide +kernel
theorem lsB_len : lsB.length = 2 := by decide +kernel
theorem errB0 : errAt lsB 0 = 0 := by decide +kernel
theorem errB1 : errAt lsB 1 = 8 := by decide +kernel
theorem readsA {o : List Fn × (Int × Int)} (h : Reads lsA 0 o) : o = ([fA], (0, 0)) := by
  have he : ∀ j, j < 3 → errAt lsA j = 0 := fun j hj => by
    match j, hj with
    | 0, _ => exact errA0
    | 1, _ => exact errA1
    | 2, _ => exact errA2
  cases h with
  | bad i hi h1 h2 => exact absurd (he i (by rw [← lsA_len]; exact hi)) h2
  | short f h1 h2 => rw [lsA_len, stA] at h2; cases h2
  | cannot h1 h2 h3 => exact absurd rfl h3
  | ok h1 h2 h3 => rw [lsA_len, stA]
theorem readsB {c : Int} {o : List Fn × (Int × Int)} (h : Reads lsB c o) : o = ([], (2, 8)) := by
  have h1 := errB1
  have hl := lsB_len
  cases h with
  | bad i hi h3 h2 =>
    rw [hl] at hi
    match i, hi with
    | 0, _ => exact absurd errB0 h2
    | 1, _ => rw [h1]; rfl
  | short f h3 h2 => exact absurd (h3 1 (by omega)) (by rw [h1]; decide)
  | cannot h3 h2 _ => exact absurd (h3 1 (by omega)) (by rw [h1]; decide)
  | ok h3 h2 _ => exact absurd (h3 1 (by omega)) (by rw [h1]; decide)
set_option maxHeartbeats 4000000 in
theorem lives17 (m : Int) (w : World) (hm : w.cell? ⟨0, 0, none⟩ = some (.int .i64 m)) : Calls Tryz.prog 5 #[] w fun e w' => e = .returned (.bool true) ∧ Ext w w' := by
  have HA := Lib.hid (asm_Read txA m 0 w hm (by decide) fun fs h1 h2 W v hr => by
    have h3 : (fs, none) = ([fA], (none : Option Fn)) := by rw [← h2]; exact (by rw [show splitNl (trimNl txA) = lsA from rfl, lsA_len, stA])
    obtain rfl : fs = [fA] := (Prod.mk.inj h3).1
    have := c_fileCan hr (fun f hf => by obtain rfl := List.mem_singleton.1 hf; decide) (fun f hf => by obtain rfl := List.mem_singleton.1 hf; unfold LenV LenF Len fA; decide) (by decide)
    rw [canA] at this
    exact this)
  have HB := Lib.hid (fun W (hx : Ext w W) => asm_Read txB m 0 W (hx.has hm) (by decide) fun fs h1 h2 W' v hr => absurd (h1 1 (by rw [show splitNl (trimNl txB) = lsB from rfl, lsB_len]; omega)) (by rw [show splitNl (trimNl txB) = lsB from rfl, errB1]; decide))
  clear hm
  go_enter Tryz.func5, Tryz.ntmps5
  go_wp2_with fail
  refine HA.out.mono ?_
  rintro e w1 ⟨o, v, hr, rfl, hrep, hx⟩
  obtain rfl := readsA hr
  have HX1 := Lib.hid hx
  obtain ⟨ao, cap, rfl⟩ : ∃ ao cap, v = .slice ao 1 cap := by
    dsimp only at hrep
    generalize hes : encL tF [fA] = es at *
    have hel : es.length = 1 := by rw [← hes]; rfl
    cases hrep with
    | fz _ cap _ ao us => exact ⟨ao, cap, by rw [hel]⟩
  clear hrep hr hx
  dsimp only
  go_wp2_with fail
  refine (HB.out _ (HX1.out.al _)).mono ?_
  rintro e w2 ⟨o, u, hr2, rfl, hrep2, hx2⟩
  obtain rfl := readsB hr2
  have HX2 := Lib.hid ((HX1.out.al (.cells #[.slice ao 1 cap] 42)).tr hx2)
  have c0 : w2.cell? ⟨w1.heap.size, 0, none⟩ = some (.slice ao 1 cap) := hx2.has (blk (alloc_new w1 (.cells #[.slice ao 1 cap] 42)) 0 rfl)
  obtain ⟨bo, bn, bc, rfl⟩ : ∃ ao n cap, u = .slice ao n cap := by
    cases hrep2 with
    | fz _ cap _ ao us => exact ⟨ao, _, cap, rfl⟩
  clear hrep2 hr2 hx2
  have c1 : ∀ o, (w2.alloc o).cell? ⟨w1.heap.size, 0, none⟩ = some (.slice ao 1 cap) := fun o => ((Ext.rf w2).al o).has c0
  dsimp only
  go_wp2_with fail
  go_ret
  exact ⟨rfl, HX2.out.al _⟩
end Go.Proofs.YtkdnbnkbnegckaaGreatDoor
namespace Go.Proofs.YtkdnbnkbnegckaaGreatDoor
open Go.RowKit
set_option maxRecDepth 100000
set_option linter.unusedVariables false
theorem arg_fn2 {W : World} {f g : Fn} {cs ds : List Value} (h1 : RepCs W W0 (enc tF f) cs) (h2 : RepCs W W0 (enc tF g) ds) : ∀ (i : Nat) t u, [(⟨.agg, fnX f⟩ : T), ⟨.agg, fnX g⟩][i]? = some t → [(.agg cs.toArray : Value), .agg ds.toArray][i]? = some u → RepT W W0 L0 ⟨[], []⟩ t u := fun i t u e1 e2 => by
  match i with
  | 0 =>
    cases e1
    cases e2
    exact ⟨cs, rfl, repCs_xs h1⟩
  | 1 =>
    cases e1
    cases e2
    exact ⟨ds, rfl, repCs_xs h2⟩
  | i + 2 => simp at e1
theorem c_Same15 {W : World} {f : Fn} {cs ds : List Value} (h1 : RepCs W W0 (enc tF f) cs) (h2 : RepCs W W0 (enc tF f) ds) (hs : S_ref15_Same f.1 f.2.1 f.2.2.1 f.2.2.2.1 f.2.2.2.2.1 f.2.2.2.2.2.1 f.2.2.2.2.2.2.1 f.2.2.2.2.2.2.2.1 f.2.2.2.2.2.2.2.2.1 f.2.2.2.2.2.2.2.2.2.1 f.2.2.2.2.2.2.2.2.2.2 f.1 f.2.1 f.2.2.1 f.2.2.2.1 f.2.2.2.2.1 f.2.2.2.2.2.1 f.2.2.2.2.2.2.1 f.2.2.2.2.2.2.2.1 f.2.2.2.2.2.2.2.2.1 f.2.2.2.2.2.2.2.2.2.1 f.2.2.2.2.2.2.2.2.2.2 = some (true, ())) : Calls Tryz.prog 10 #[.agg cs.toArray, .agg ds.toArray] W fun e W' => e = .returned (.bool true) ∧ Ext W W' := by
  have hw : callW Tryz.prog annX plansX 10 [⟨.agg, fnX f⟩, ⟨.agg, fnX f⟩] ⟨[], []⟩ = some (⟨.one, [.c (.v (.bool true))]⟩, ⟨[], []⟩) := k_ref15_Same (f.1, (f.2.1, (f.2.2.1, (f.2.2.2.1, (f.2.2.2.2.1, (f.2.2.2.2.2.1, (f.2.2.2.2.2.2.1, (f.2.2.2.2.2.2.2.1, (f.2.2.2.2.2.2.2.2.1, (f.2.2.2.2.2.2.2.2.2.1, (f.2.2.2.2.2.2.2.2.2.2, (f.1, (f.2.1, (f.2.2.1, (f.2.2.2.1, (f.2.2.2.2.1, (f.2.2.2.2.2.1, (f.2.2.2.2.2.2.1, (f.2.2.2.2.2.2.2.1, (f.2.2.2.2.2.2.2.2.1, (f.2.2.2.2.2.2.2.2.2.1, (f.2.2.2.2.2.2.2.2.2.2, ())))))))))))))))))))))) _ hs _ (by kernel_rfl)
  refine (pure_one hw (vs := [.agg cs.toArray, .agg ds.toArray]) rfl (arg_fn2 h1 h2)).mono fun e W' ⟨u, he, hu, hx⟩ => ?_
  cases hu
  exact ⟨he, hx⟩
theorem readL_len (l : List UInt8) : (readL l).length ≤ l.length := by
  unfold readL readS
  split
  · simp
  · split <;> simp
theorem headF_same (s : List UInt8) (hl : s.length ≤ 1000000000) : S_ref15_Same (headF s).1 (headF s).2.1 (headF s).2.2.1 (headF s).2.2.2.1 (headF s).2.2.2.2.1 (headF s).2.2.2.2.2.1 (headF s).2.2.2.2.2.2.1 (headF s).2.2.2.2.2.2.2.1 (headF s).2.2.2.2.2.2.2.2.1 (headF s).2.2.2.2.2.2.2.2.2.1 (headF s).2.2.2.2.2.2.2.2.2.2 (headF s).1 (headF s).2.1 (headF s).2.2.1 (headF s).2.2.2.1 (headF s).2.2.2.2.1 (headF s).2.2.2.2.2.1 (headF s).2.2.2.2.2.2.1 (headF s).2.2.2.2.2.2.2.1 (headF s).2.2.2.2.2.2.2.2.1 (headF s).2.2.2.2.2.2.2.2.2.1 (headF s).2.2.2.2.2.2.2.2.2.2 = some (true, ()) := by
  have hw : ∀ i, (readL (wordAt (wordsF s) i)).length ≤ 1000000000 := fun i => by
    refine Nat.le_trans (readL_len _) ?_
    rw [wordAt]
    cases hi : (wordsF s)[i]? with
    | none => simp
    | some x =>
      have := wordsF_elem (s := s) s.length x (by rw [List.take_length]; exact List.mem_of_getElem? hi)
      simpa using Nat.le_trans this hl
  have hb := headF_bare s
  have h0 : ([] : List Int).length ≤ 1000000000 := by simp
  refine sp_Same15 ?_ ?_ ?_ ?_ (by rw [hb]; simp) (by rw [hb]; simp) (by rw [hb]; simp) (by rw [hb]; simp) (by rw [hb]; simp)
  all_goals (unfold headF; split)
  all_goals first
    | exact hw _
    | exact h0
    | (dsimp only; split <;> first | exact hw _ | exact h0)
set_option maxHeartbeats 8000000 in
theorem AsmLines_walk (s : List UInt8) (m : Int) (w : World) (hm : w.cell? ⟨0, 0, none⟩ = some (.int .i64 m)) (hl : s.length ≤ 9223372036854775807) : Calls Tryz.prog 3 #[.string (strB s)] w fun e w' => e = .returned (.bool true) ∧ Ext w w' := by
  have HM := Lib.hid hm
  have HLV := Lib.hid (fun W (hx : Ext w W) => lives17 m W (hx.has hm))
  clear hm
  have hsz : (strB s).size = s.length := strB_size s
  by_cases h300 : 300 < s.length
  · have t1 : decide ((300 : Int) < (strB s).size) = true := decide_eq_true (by rw [hsz]; omega)
    clear h300 hsz
    go_enter Tryz.func3, Tryz.ntmps3
    go_wp2_with fail
    refine (HLV.out _ (Ext.rf _)).mono ?_
    rintro e w1 ⟨rfl, hx⟩
    go_wp2_with fail
    go_ret
    exact ⟨rfl, hx⟩
  · have t1 : decide ((300 : Int) < (strB s).size) = false := decide_eq_false (by rw [hsz]; omega)
    have hs3 : s.length ≤ 300 := by omega
    have HL1 := Lib.hid (fun W (hx : Ext w W) => asm_Line s m W (hx.has HM.out) (by omega))
    have HL2 := Lib.hid (fun W => asmref_Line s W (by omega))
    have HH1 := Lib.hid (fun W => asm_Head s W (by omega))
    have HH2 := Lib.hid (fun W => asmref_Head s W (by omega))
    replace hl : s.length ≤ 1000000000 := by omega
    clear h300 hsz hs3
    go_enter Tryz.func3, Tryz.ntmps3
    obtain ⟨i1, i2, ln, er, hL⟩ : ∃ i1 i2 ln er, lineI s = ((i1, i2), (ln, er)) := ⟨_, _, _, _, rfl⟩
    rw [hL] at HL1 HL2
    dsimp only at HL1 HL2
    clear hL
    go_wp2_with fail
    refine (HL1.out _ (Ext.rf _)).mono ?_
    rintro e w1 ⟨rfl, hx⟩
    have E := Lib.hid hx
    clear hx HL1
    go_wp2_with fail
    have D1 := Lib.hid (alloc_new w1 (.cells #[.int .i64 i1, .int .i64 i2] 25))
    replace E := Lib.hid (E.out.al (.cells #[.int .i64 i1, .int .i64 i2] 25))
    generalize w1.alloc (.cells #[.int .i64 i1, .int .i64 i2] 25) = v1 at *
    refine (HL2.out _).mono ?_
    rintro e w2 ⟨rfl, hx⟩
    replace D1 := Lib.hid (hx.blk D1.out)
    replace E := Lib.hid (E.out.tr hx)
    clear hx HL2
    go_wp2_with fail
    have D2 := Lib.hid (alloc_new w2 (.cells #[.int .i64 i1, .int .i64 i2] 25))
    replace D1 := Lib.hid (((Ext.rf w2).al (.cells #[.int .i64 i1, .int .i64 i2] 25)).blk D1.out)
    replace E := Lib.hid (E.out.al (.cells #[.int .i64 i1, .int .i64 i2] 25))
    generalize w2.alloc (.cells #[.int .i64 i1, .int .i64 i2] 25) = v2 at *
    refine (HH1.out _).mono ?_
    rintro e w3 ⟨cs, rfl, hR, hx⟩
    obtain ⟨z2, z3, z4, z5, rfl, h2, h3, h4, h5⟩ := hR
    obtain ⟨a2x, n2x, q2x, rfl⟩ := h2.form
    obtain ⟨a3x, n3x, q3x, rfl⟩ := h3.form
    obtain ⟨a4x, n4x, q4x, rfl⟩ := h4.form
    obtain ⟨a5x, n5x, q5x, rfl⟩ := h5.form
    have HHx : Hid (RepCs w3 W0 (enc tF (headF s)) [.string (strB (headF s).1), .bool (headF s).2.1, .slice a2x n2x q2x, .slice a3x n3x q3x, .slice a4x n4x q4x, .slice a5x n5x q5x, .slice none 0 0, .slice none 0 0, .slice none 0 0, .slice none 0 0, .slice none 0 0]) := Lib.hid (HeadR.rep ⟨_, _, _, _, rfl, h2, h3, h4, h5⟩ (headF_bare s))
    clear h2 h3 h4 h5
    replace D1 := Lib.hid (hx.blk D1.out)
    replace D2 := Lib.hid (hx.blk D2.out)
    replace E := Lib.hid (E.out.tr hx)
    clear hx HH1
    go_wp2_with fail
    have D3 := Lib.hid (alloc_new w3 (.cells #[.string (strB (headF s).1), .bool (headF s).2.1, .slice a2x n2x q2x, .slice a3x n3x q3x, .slice a4x n4x q4x, .slice a5x n5x q5x, .slice none 0 0, .slice none 0 0, .slice none 0 0, .slice none 0 0, .slice none 0 0] 35))
    have hx := (Ext.rf w3).al (.cells #[.string (strB (headF s).1), .bool (headF s).2.1, .slice a2x n2x q2x, .slice a3x n3x q3x, .slice a4x n4x q4x, .slice a5x n5x q5x, .slice none 0 0, .slice none 0 0, .slice none 0 0, .slice none 0 0, .slice none 0 0] 35)
    replace D1 := Lib.hid (hx.blk D1.out)
    replace D2 := Lib.hid (hx.blk D2.out)
    replace HHx := Lib.hid (reps_keep hx.size (fun b _ hl => hx.block hl) HHx.out)
    replace E := Lib.hid (E.out.tr hx)
    generalize w3.alloc (.cells #[.string (strB (headF s).1), .bool (headF s).2.1, .slice a2x n2x q2x, .slice a3x n3x q3x, .slice a4x n4x q4x, .slice a5x n5x q5x, .slice none 0 0, .slice none 0 0, .slice none 0 0, .slice none 0 0, .slice none 0 0] 35) = v3 at *
    clear hx
    refine (HH2.out _).mono ?_
    rintro e w4 ⟨cs, rfl, hR, hx⟩
    obtain ⟨z2, z3, z4, z5, rfl, h2, h3, h4, h5⟩ := hR
    obtain ⟨a2y, n2y, q2y, rfl⟩ := h2.form
    obtain ⟨a3y, n3y, q3y, rfl⟩ := h3.form
    obtain ⟨a4y, n4y, q4y, rfl⟩ := h4.form
    obtain ⟨a5y, n5y, q5y, rfl⟩ := h5.form
    have HHy : Hid (RepCs w4 W0 (enc tF (headF s)) [.string (strB (headF s).1), .bool (headF s).2.1, .slice a2y n2y q2y, .slice a3y n3y q3y, .slice a4y n4y q4y, .slice a5y n5y q5y, .slice none 0 0, .slice none 0 0, .slice none 0 0, .slice none 0 0, .slice none 0 0]) := Lib.hid (HeadR.rep ⟨_, _, _, _, rfl, h2, h3, h4, h5⟩ (headF_bare s))
    clear h2 h3 h4 h5
    replace D1 := Lib.hid (hx.blk D1.out)
    replace D2 := Lib.hid (hx.blk D2.out)
    replace D3 := Lib.hid (hx.blk D3.out)
    replace HHx := Lib.hid (reps_keep hx.size (fun b _ hl => hx.block hl) HHx.out)
    replace E := Lib.hid (E.out.tr hx)
    clear hx HH2
    have hx := (Ext.rf w4).al (.cells #[.string (strB (headF s).1), .bool (headF s).2.1, .slice a2y n2y q2y, .slice a3y n3y q3y, .slice a4y n4y q4y, .slice a5y n5y q5y, .slice none 0 0, .slice none 0 0, .slice none 0 0, .slice none 0 0, .slice none 0 0] 35)
    have j0 := blk (hx.blk D1.out) 0 rfl
    have j1 := blk (hx.blk D1.out) 1 rfl
    have l0 := blk (hx.blk D2.out) 0 rfl
    have l1 := blk (hx.blk D2.out) 1 rfl
    have d0 := blk (hx.blk D3.out) 0 rfl
    have d1 := blk (hx.blk D3.out) 1 rfl
    have d2 := blk (hx.blk D3.out) 2 rfl
    have d3 := blk (hx.blk D3.out) 3 rfl
    have d4 := blk (hx.blk D3.out) 4 rfl
    have d5 := blk (hx.blk D3.out) 5 rfl
    have d6 := blk (hx.blk D3.out) 6 rfl
    have d7 := blk (hx.blk D3.out) 7 rfl
    have d8 := blk (hx.blk D3.out) 8 rfl
    have d9 := blk (hx.blk D3.out) 9 rfl
    have d10 := blk (hx.blk D3.out) 10 rfl
    have HX := Lib.hid hx
    clear hx
    go_wp2_with fail
    refine (c_Same15 (reps_keep HX.out.size (fun b _ hl => HX.out.block hl) HHx.out) (reps_keep HX.out.size (fun b _ hl => HX.out.block hl) HHy.out) (headF_same s hl)).mono ?_
    rintro e w5 ⟨rfl, hx5⟩
    have E5 := Lib.hid ((E.out.tr HX.out).tr hx5)
    clear hx5
    go_wp2_with fail
    refine (HLV.out _ E5.out).mono ?_
    rintro e w6 ⟨rfl, hx6⟩
    have E6 := Lib.hid (E5.out.tr hx6)
    clear hx6
    go_wp2_with fail
    go_ret
    exact ⟨rfl, E6.out⟩
end Go.Proofs.YtkdnbnkbnegckaaGreatDoor
namespace Go.Proofs.YtkdnbnkbnegckaaGreatDoor.asmLines
open Go.ChangeShapes Go.WideShapes Go.ChangeAt Go.RowKit
open Go.ChangeMaps (open_string shut_string)
set_option linter.unusedVariables false

theorem own : ownKnob Tryz.prog.godebug = none := by kernel_rfl
theorem laidOut : laidOutB Tryz.prog = true := by kernel_rfl
def tabOf (cs : Array Value) : Obj → Obj
  | .cells _ t frozen => .cells cs t frozen
  | o => o
/-- A world for the witness: the settled one, the tables holding what their texts lay. -/
noncomputable def laidWorld (os : Os) : World :=
  { World.holding Tryz.prog os ⟨#[], #[], []⟩ with heap := Array.modify (Array.modify (World.holding Tryz.prog os ⟨#[], #[], []⟩).heap 1 (tabOf #[.int .u8 240, .int .u8 240, .int .u8 240, .int .u8 240, .int .u8 240, .int .u8 240, .int .u8 240, .int .u8 240, .int .u8 240, .int .u8 240, .int .u8 240, .int .u8 240, .int .u8 240, .int .u8 240, .int .u8 240, .int .u8 240, .int .u8 240, .int .u8 240, .int .u8 240, .int .u8 240, .int .u8 240, .int .u8 240, .int .u8 240, .int .u8 240, .int .u8 240, .int .u8 240, .int .u8 240, .int .u8 240, .int .u8 240, .int .u8 240, .int .u8 240, .int .u8 240, .int .u8 240, .int .u8 240, .int .u8 240, .int .u8 240, .int .u8 240, .int .u8 240, .int .u8 240, .int .u8 240, .int .u8 240, .int .u8 240, .int .u8 240, .int .u8 240, .int .u8 240, .int .u8 240, .int .u8 240, .int .u8 240, .int .u8 240, .int .u8 240, .int .u8 240, .int .u8 240, .int .u8 240, .int .u8 240, .int .u8 240, .int .u8 240, .int .u8 240, .int .u8 240, .int .u8 240, .int .u8 240, .int .u8 240, .int .u8 240, .int .u8 240, .int .u8 240, .int .u8 240, .int .u8 240, .int .u8 240, .int .u8 240, .int .u8 240, .int .u8 240, .int .u8 240, .int .u8 240, .int .u8 240, .int .u8 240, .int .u8 240, .int .u8 240, .int .u8 240, .int .u8 240, .int .u8 240, .int .u8 240, .int .u8 240, .int .u8 240, .int .u8 240, .int .u8 240, .int .u8 240, .int .u8 240, .int .u8 240, .int .u8 240, .int .u8 240, .int .u8 240, .int .u8 240, .int .u8 240, .int .u8 240, .int .u8 240, .int .u8 240, .int .u8 240, .int .u8 240, .int .u8 240, .int .u8 240, .int .u8 240, .int .u8 240, .int .u8 240, .int .u8 240, .int .u8 240, .int .u8 240, .int .u8 240, .int .u8 240, .int .u8 240, .int .u8 240, .int .u8 240, .int .u8 240, .int .u8 240, .int .u8 240, .int .u8 240, .int .u8 240, .int .u8 240, .int .u8 240, .int .u8 240, .int .u8 240, .int .u8 240, .int .u8 240, .int .u8 240, .int .u8 240, .int .u8 240, .int .u8 240, .int .u8 240, .int .u8 240, .int .u8 240, .int .u8 241, .int .u8 241, .int .u8 241, .int .u8 241, .int .u8 241, .int .u8 241, .int .u8 241, .int .u8 241, .int .u8 241, .int .u8 241, .int .u8 241, .int .u8 241, .int .u8 241, .int .u8 241, .int .u8 241, .int .u8 241, .int .u8 241, .int .u8 241, .int .u8 241, .int .u8 241, .int .u8 241, .int .u8 241, .int .u8 241, .int .u8 241, .int .u8 241, .int .u8 241, .int .u8 241, .int .u8 241, .int .u8 241, .int .u8 241, .int .u8 241, .int .u8 241, .int .u8 241, .int .u8 241, .int .u8 241, .int .u8 241, .int .u8 241, .int .u8 241, .int .u8 241, .int .u8 241, .int .u8 241, .int .u8 241, .int .u8 241, .int .u8 241, .int .u8 241, .int .u8 241, .int .u8 241, .int .u8 241, .int .u8 241, .int .u8 241, .int .u8 241, .int .u8 241, .int .u8 241, .int .u8 241, .int .u8 241, .int .u8 241, .int .u8 241, .int .u8 241, .int .u8 241, .int .u8 241, .int .u8 241, .int .u8 241, .int .u8 241, .int .u8 241, .int .u8 241, .int .u8 241, .int .u8 2, .int .u8 2, .int .u8 2, .int .u8 2, .int .u8 2, .int .u8 2, .int .u8 2, .int .u8 2, .int .u8 2, .int .u8 2, .int .u8 2, .int .u8 2, .int .u8 2, .int .u8 2, .int .u8 2, .int .u8 2, .int .u8 2, .int .u8 2, .int .u8 2, .int .u8 2, .int .u8 2, .int .u8 2, .int .u8 2, .int .u8 2, .int .u8 2, .int .u8 2, .int .u8 2, .int .u8 2, .int .u8 2, .int .u8 2, .int .u8 19, .int .u8 3, .int .u8 3, .int .u8 3, .int .u8 3, .int .u8 3, .int .u8 3, .int .u8 3, .int .u8 3, .int .u8 3, .int .u8 3, .int .u8 3, .int .u8 3, .int .u8 35, .int .u8 3, .int .u8 3, .int .u8 52, .int .u8 4, .int .u8 4, .int .u8 4, .int .u8 68, .int .u8 241, .int .u8 241, .int .u8 241, .int .u8 241, .int .u8 241, .int .u8 241, .int .u8 241, .int .u8 241, .int .u8 241, .int .u8 241, .int .u8 241])) 2 (tabOf #[.int .u8 128, .int .u8 191, .int .u8 160, .int .u8 191, .int .u8 128, .int .u8 159, .int .u8 144, .int .u8 191, .int .u8 128, .int .u8 143, .int .u8 0, .int .u8 0, .int .u8 0, .int .u8 0, .int .u8 0, .int .u8 0, .int .u8 0, .int .u8 0, .int .u8 0, .int .u8 0, .int .u8 0, .int .u8 0, .int .u8 0, .int .u8 0, .int .u8 0, .int .u8 0, .int .u8 0, .int .u8 0, .int .u8 0, .int .u8 0, .int .u8 0, .int .u8 0]) }
theorem laid_met (os : Os) : laidMet Tryz.prog Rows.asmLinesRow.laid ((laidWorld os).forCall (fun _ _ => 0) ⟨#[], #[.string ByteArray.empty], []⟩).memory :=
  laidMet_of_run' 8 (by kernel_rfl) (by kernel_rfl)
theorem reads (os : Os) {H : Type} (enc : TypeId × Value → H) : ∃ places, DataW.whole enc Tryz.prog ((laidWorld os).forCall (fun _ _ => 0) ⟨#[], #[.string ByteArray.empty], []⟩).memory Tryz.f3.params.toList Rows.asmLinesSpec.vars false #[.string ByteArray.empty].toList 8 = some ([.lit (.string [])], [], places) :=
  ⟨[], by kernel_rfl⟩

set_option maxRecDepth 100000 in
theorem lifted (os : Os) (started : os.Started) (H : Type) (enc : TypeId × Value → H) (F : Stop.Interp) :
    ReturnsInHanded {} Tryz.checked os 3 .any ((OpenSpec.ofChange Rows.asmLinesSpec).preRow enc Tryz.prog Tryz.f3 Rows.asmLinesRow.domain false Rows.asmLinesRow.laid) (((OpenSpec.ofChange Rows.asmLinesSpec).at F).post enc Tryz.prog Tryz.f3 false true false false) := by
  obtain ⟨places, hx⟩ := reads os enc
  refine returnsInHanded_of_row (C := Tryz.checked) (s := OpenSpec.ofChange Rows.asmLinesSpec) own started (by kernel_rfl) Tryz.func3
    (witness_row_at (enc := enc) (C := Tryz.checked) false (laidWorld os) #[.string ByteArray.empty] rfl (by kernel_rfl) (by kernel_rfl) (by kernel_rfl)
      (OpenSpec.preRow_of_cond 8 hx (by kernel_rfl) (fun k hk => by cases hk) (by kernel_rfl) (laid_met os))) ?_
  intro W base args ds gs before hval0 hW hcnd hk hsz0 hL hsh hholds
  obtain ⟨gm, hgm⟩ := Tryz.laysM143.s1_3 W hsh
  have hval : ∀ (j : Nat) t v, Tryz.f3.params[j]? = some t → args[j]? = some v → Value.okWide Tryz.prog W .any base t v := hval0
  have hsz : (DataW.weightsEach Tryz.prog (Tryz.f3.params.toList ++ Rows.asmLinesSpec.plain.varTypes Tryz.prog) (ds ++ gs)).all (· ≤ reachBytes) = true := hsz0
  have hW' := hW
  obtain ⟨p, q, hA0, hV, rfl, hfz, hnd⟩ := hW
  have hA : DataW.TrodAll enc Tryz.prog W 0 (fun _ => true) true Tryz.f3.params.toList args.toList ds p := hA0
  rw [Tryz.params3] at hA hval hsz
  obtain ⟨v0, vs0, d0, ds0, p0, q0, hargs, rfl, rfl, h0, r0⟩ := trodAll_cons hA
  obtain ⟨rfl, rfl, rfl⟩ := trodAll_nil r0
  obtain rfl : args = #[v0] := by cases args; simp_all
  obtain ⟨rfl, rfl⟩ := trodVars_none hV
  have k0 := h0
  have lt0 : ∀ x ∈ p0, x.block < W.heap.size := by obtain ⟨m, hm⟩ := k0; exact DataW.trod_lt m _ _ _ hm
  obtain ⟨a0, rfl, rfl, rfl, w0⟩ := open_string Tryz.underlying9 (hval 0 9 v0 rfl rfl) h0
  clear hA0 hval0
  have hs0 : a0 = strB a0.data.toList := rfl
  refine (show Calls Tryz.prog 3 #[.string a0] W _ from (hs0 ▸ AsmLines_walk a0.data.toList gm W hgm (by have := w0; unfold maxLen at this; exact this))).mono fun e W' ⟨he, bel⟩ => ?_
  subst he
  exact ⟨_, rfl, _, _, _, [], _, [], hW', trodAll_mk1 (shut_bool Tryz.underlying4 _), (trodAll_cons_mk (Below.trod laidOut (by kernel_rfl) (of_decide_eq_true (by kernel_rfl)) k0 bel.b lt0) trodAll_mk0), rfl, bel.b.frame _, fun h => by cases h⟩
theorem said : Rows.AsmLinesSaid :=
  OpenClaim.holds_of_cond 3 Tryz.f3 rfl rfl rfl rfl rfl rfl rfl ⟨rfl, rfl, rfl, rfl, rfl⟩ rfl rfl rfl rfl rfl (by kernel_rfl) Tryz.func3 (by kernel_rfl)
    (of_decide_eq_true (by kernel_rfl)) (by unfold Func.isWrapper; first | (rw [if_pos (by decide +kernel)]; kernel_rfl) | (rw [if_neg (by decide +kernel)]; exact ⟨rfl, rfl⟩))
    (fun os started H enc _ F => by rw [OpenClaim.pre_eq_preRow]; exact lifted os started H enc F)
theorem plain (f : FuncId) (fn : Func) (hf : Tryz.pinned.checked.prog.funcNamed "inlay/inlaylaw17.AsmLines" = some f) (hfn : Tryz.pinned.checked.prog.funcs[f]? = some fn) :
    false = Tryz.pinned.checked.prog.looks [] ∧ ∀ (j : Nat) t, fn.params[j]? = some t → Tryz.pinned.checked.prog.wantsStandIn t = false := by
  obtain rfl : f = 3 := Option.some.inj ((show Tryz.prog.funcNamed "inlay/inlaylaw17.AsmLines" = some 3 by kernel_rfl).symm.trans hf) |>.symm
  obtain rfl : fn = Tryz.f3 := (Option.some.inj (Tryz.func3.symm.trans hfn)).symm
  refine ⟨by kernel_rfl, fun j t ht => ?_⟩
  rw [Tryz.params3] at ht
  obtain rfl : t = 9 := by simpa using Array.mem_of_getElem? ht
  exact (show Tryz.prog.wantsStandIn 9 = false by kernel_rfl)
theorem card : Rows.AsmLinesCardSaid :=
  Claim7.holds_tied_plain_at .later [] _ _ _ _ said (fun _ h => by cases h) (by kernel_rfl) (fun _ h => by cases h) asmLines_row_tie rfl ⟨rfl, rfl⟩ (by kernel_rfl) rfl plain (by kernel_rfl)
end Go.Proofs.YtkdnbnkbnegckaaGreatDoor.asmLines

namespace Go.Proofs.YtkdnbnkbnegckaaGreatDoor
theorem AsmLines_proved : Rows.AsmLinesCardSaid := asmLines.card
#print axioms AsmLines_proved
end Go.Proofs.YtkdnbnkbnegckaaGreatDoor
