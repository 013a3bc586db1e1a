/- TreeTells: the law's walk. -/
import Derived.Test.YtofdkhilapmccaaTreeK
import Derived.Test.YtofdkhilapmccaaTreeI
import Derived.Test.YtofdkhilapmccaaTreeS
import Derived.Test.YtofdkhilapmccaaTreeY
import Derived.Test.YtofdkhilapmccaaTreeL
import Derived.Test.YtofdkhilapmccaaTreeApart
import Derived.Test.YtofdkhilapmccaaOpenF
namespace Go.Proofs.Ytofdkhilapmccaa
open Go.RowKit

theorem eql_self (r : SetT) (W : World) : (binOp .eql 43 (.agg #[.int .u64 r.a, .int .u64 r.b, .int .u64 r.c, .int .u64 r.d]) (.agg #[.int .u64 r.a, .int .u64 r.b, .int .u64 r.c, .int .u64 r.d])).run Try.prog W = .ok (.bool true) W := by
  have h := run_eql_arr (P := Try.prog) (k := .u64) (t := 43) (e := 41) (n := 4) Try.underlying43 Try.underlying41 (fun _ => by kernel_rfl) W (setI r) (setI r) rfl rfl
  simpa [setI] using h
theorem ints_same (ao bo : Option Addr) (ca cb : Nat) (l : List Int) (w : World) (hl : Cells w ao (l.map (.int .i64))) (hm : Cells w bo (l.map (.int .i64))) (hlen : l.length ≤ 17592186044416) :
    Calls Try.prog 37 #[.slice ao l.length ca, .slice bo l.length cb] w fun e w' => e = .returned (.bool true) ∧ Ext w w' :=
  (intref_Ints ao bo ca cb l l w hl hm hlen hlen).mono fun e w' h => ⟨by rw [h.1]; simp, h.2⟩

set_option maxHeartbeats 4000000 in
set_option maxRecDepth 20000 in
theorem TreeTells_walk (ao0 : Option Addr) (cap0 : Nat) (l0 : List NodeT) (x1 x2 : Int) (w : World) (hl0 : (l0.length ≤ 2513169434916) ∧ Cells w ao0 (l0.flatMap nodeC) ∧ ∀ n ∈ l0, Node64 n) (hx1 : (Lit.int .i64 x1).wf = true) (hx2 : (Lit.int .i64 x2).wf = true) :
    Calls Try.prog 8 #[.slice ao0 l0.length cap0, .int .i64 x1, .int .i64 x2] w fun e w' => e = .returned (.bool true) ∧ Ext w w' := by
  obtain ⟨hlen, hc, hv⟩ := hl0
  have HV := Lib.hid hv
  clear hv hx1 hx2
  by_cases h60 : 60 < l0.length
  · have t1 : decide ((60 : Int) < l0.length) = true := decide_eq_true (by omega)
    go_enter Try.func8, Try.ntmps8
    go_wp2_with fail
    refine (tree_lives _).mono ?_
    rintro e w1 ⟨rfl, hb⟩
    go_wp2_with fail
    go_ret
    exact ⟨rfl, hb⟩
  · have t1 : decide ((60 : Int) < l0.length) = false := decide_eq_false (by omega)
    go_enter Try.func8, Try.ntmps8
    go_wp2_with fail
    refine (treeref_Right ao0 cap0 l0 _ hc (by omega)).mono ?_
    rintro e w1 ⟨rfl, hx1⟩
    cases hr : rightTree l0 with
    | false =>
      clear hr
      go_wp2_with fail
      refine (tree_lives _).mono ?_
      rintro e w2 ⟨rfl, hb⟩
      go_wp2_with fail
      go_ret
      exact ⟨rfl, hx1.tr hb⟩
    | true =>
      have HR := Lib.hid hr
      have HU := Lib.hid (upF_len1 hr x1)
      have hul := upF_len l0 l0.length x1
      have hkl := kidsL_len l0 x1 l0.length
      have HD : Hid (depthN l0 x1 = (upF l0 l0.length x1).length) := rfl
      have tI : (insideB l0 x1 x2 == insideB l0 x1 x2) = true := by simp
      have tD : ((depthN l0 x1 : Int) == (depthN l0 x1 : Int)) = true := by simp
      have tS : ((strB (treeText l0 l0.length)).toList == (strB (treeText l0 l0.length)).toList) = true := by simp
      clear hr
      go_wp2_with fail
      refine (tree_Up ao0 cap0 l0 x1 _ (hc.ext hx1) (by omega)).mono ?_
      rintro e w2 ⟨a2, c2, rfl, hc2, hx2, -⟩
      have H2 := Lib.hid (hx1.tr hx2)
      go_wp2_with fail
      refine (treeref_Up ao0 cap0 l0 x1 _ (hc.ext H2.out) (by omega)).mono ?_
      rw [HU.out]
      rintro e w3 ⟨a3, c3, rfl, hc3, hx3, -⟩
      have H3 := Lib.hid (H2.out.tr hx3)
      have HC2 := Lib.hid (hc2.ext hx3)
      have HC3 := Lib.hid hc3
      clear hc2 hc3 hx1 hx2 hx3
      generalize upF l0 l0.length x1 = U at *
      go_wp2_with fail
      refine (ints_same a2 a3 c2 c3 U _ HC2.out HC3.out (by omega)).mono ?_
      rintro e w4 ⟨rfl, hx4⟩
      have H4 := Lib.hid (H3.out.tr hx4)
      clear hx4
      go_wp2_with fail
      refine (tree_Kids ao0 cap0 l0 x1 _ (hc.ext H4.out) (by omega)).mono ?_
      rintro e w5 ⟨a5, c5, rfl, hc5, hx5, -⟩
      have H5 := Lib.hid (H4.out.tr hx5)
      go_wp2_with fail
      refine (treeref_Kids ao0 cap0 l0 x1 _ (hc.ext H5.out) (by omega)).mono ?_
      rintro e w6 ⟨a6, c6, rfl, hc6, hx6, -⟩
      have H6 := Lib.hid (H5.out.tr hx6)
      have HC5 := Lib.hid (hc5.ext hx6)
      have HC6 := Lib.hid hc6
      clear hc5 hc6 hx5 hx6
      generalize kidsL l0 x1 l0.length = K at *
      go_wp2_with fail
      refine (ints_same a5 a6 c5 c6 K _ HC5.out HC6.out (by omega)).mono ?_
      rintro e w7 ⟨rfl, hx7⟩
      have H7 := Lib.hid (H6.out.tr hx7)
      clear hx7
      go_wp2_with fail
      refine (tree_Inside ao0 cap0 l0 x1 x2 _ (hc.ext H7.out) (by omega)).mono ?_
      rintro e w8 ⟨rfl, hx8⟩
      have H8 := Lib.hid (H7.out.tr hx8)
      clear hx8
      go_wp2_with fail
      refine (treeref_Inside ao0 cap0 l0 x1 x2 _ (hc.ext H8.out) (by omega) HR.out).mono ?_
      rintro e w9 ⟨rfl, hx9⟩
      have H9 := Lib.hid (H8.out.tr hx9)
      clear hx9
      generalize insideB l0 x1 x2 = I at *
      go_wp2_with fail
      refine (tree_Depth ao0 cap0 l0 x1 _ (hc.ext H9.out) (by omega)).mono ?_
      rintro e wA ⟨rfl, hxA⟩
      have HA := Lib.hid (H9.out.tr hxA)
      clear hxA
      go_wp2_with fail
      refine (treeref_Up ao0 cap0 l0 x1 _ (hc.ext HA.out) (by omega)).mono ?_
      rw [HU.out, ← HD.out]
      rintro e wB ⟨aB, cB, rfl, -, hxB, -⟩
      have HB := Lib.hid (HA.out.tr hxB)
      clear hxB
      generalize depthN l0 x1 = D at *
      go_wp2_with fail
      refine (tree_Own ao0 cap0 l0 x1 _ (hc.ext HB.out) (by omega) HV.out).mono ?_
      rintro e wC ⟨rfl, hxC⟩
      have HC := Lib.hid (HB.out.tr hxC)
      clear hxC
      go_wp2_with fail
      refine (treeref_Own ao0 cap0 l0 x1 _ (hc.ext HC.out) (by omega) HV.out).mono ?_
      rintro e wD ⟨rfl, hxD⟩
      have HDD := Lib.hid (HC.out.tr hxD)
      have hself := eql_self (ownS l0 x1)
      clear hxD
      generalize ownS l0 x1 = O at *
      go_wp2_with fail
      refine (tree_Text ao0 cap0 l0 _ (hc.ext HDD.out) (by omega) HV.out).mono ?_
      rintro e wE ⟨rfl, hxE⟩
      have HEE := Lib.hid (HDD.out.tr hxE)
      clear hxE hself
      go_wp2_with fail
      refine (treeref_Text ao0 cap0 l0 _ (hc.ext HEE.out) (by omega) HV.out HR.out).mono ?_
      rintro e wF ⟨rfl, hxF⟩
      have HFF := Lib.hid (HEE.out.tr hxF)
      clear hxF
      generalize strB (treeText l0 l0.length) = S at *
      go_wp2_with fail
      refine (tree_lives _).mono ?_
      rintro e wG ⟨rfl, hxG⟩
      go_wp2_with fail
      go_ret
      exact ⟨rfl, HFF.out.tr hxG⟩
end Go.Proofs.Ytofdkhilapmccaa
