/- Inline trees: whether they may be. -/
import Derived.Test.YtofdkhilapmccaaData
import Derived.Test.YtofdkhilapmccaaStructQ
import Derived.Test.YtofdkhilapmccaaFncP
namespace Go.Proofs.Ytofdkhilapmccaa
open Go.RowKit

def within (n lo hi : Int) : Bool := decide (lo ≤ n) && decide (n ≤ hi)
def headNode (n : NodeT) : Bool := decide (n = ⟨-1, n.fn, 0, 0, n.args, n.upto, 0⟩)
def mayNode (n : NodeT) (i : Nat) (bt : Int) : Bool :=
  within n.fn 0 39 && (within n.line 0 65535 && (within n.args 0 8 && (within n.frm bt 256 && (within n.upto (n.frm + n.args) 256 && (bif i == 0 then headNode n else within n.par 0 ((i : Int) - 1) && within n.res 1 1999)))))
def toAt (l : List NodeT) (k : Nat) : Int := if k = 0 then 0 else (l[k - 1]?.map (·.upto)).getD 0
def mayAt (l : List NodeT) (k : Nat) : Bool := match l[k]? with
  | some n => mayNode n k (toAt l k)
  | none => true
def rightTree (l : List NodeT) : Bool := decide (0 < l.length) && decide (l.length ≤ 120) && (List.range l.length).all (mayAt l)

theorem within_of {n lo hi : Int} (h : within n lo hi = true) : lo ≤ n ∧ n ≤ hi := by simpa [within] using h

theorem tree_within (n lo hi : Int) (w : World) : Calls Try.prog 141 #[.int .i64 n, .int .i64 lo, .int .i64 hi] w fun e w' => e = .returned (.bool (within n lo hi)) ∧ w = w' := by
  unfold within
  cases t1 : decide (lo ≤ n) <;> cases t2 : decide (n ≤ hi) <;>
  (go_enter Try.func141, Try.ntmps141
   go_wp2
   go_ret
   exact ⟨rfl, rfl⟩)

set_option maxHeartbeats 2000000 in
set_option maxRecDepth 20000 in
theorem tree_may (n : NodeT) (k : Nat) (bt : Int) (w : World) (hk : k ≤ 17592186044416) (hbt : -1000 ≤ bt) (hbt2 : bt ≤ 1000) :
    Calls Try.prog 82 #[.agg #[.int .i64 n.par, .int .i64 n.fn, .int .i64 n.line, .int .i64 n.frm, .int .i64 n.args, .int .i64 n.upto, .int .i64 n.res], .int .i64 k, .int .i64 bt] w fun e w' => e = .returned (.bool (mayNode n k bt)) ∧ Ext w w' := by
  have hq : ∀ W, (binOp .eql 87 (.agg #[.int .i64 n.par, .int .i64 n.fn, .int .i64 n.line, .int .i64 n.frm, .int .i64 n.args, .int .i64 n.upto, .int .i64 n.res]) (.agg #[.int .i64 (-1), .int .i64 n.fn, .int .i64 0, .int .i64 0, .int .i64 n.args, .int .i64 n.upto, .int .i64 0])).run Try.prog W = .ok (.bool (headNode n)) W := fun W => by
    have h := run_eql_ints (P := Try.prog) (k := .i64) (t := 87) (n := 7) (by decide) (by kernel_rfl) W (nodeI n) (nodeI ⟨-1, n.fn, 0, 0, n.args, n.upto, 0⟩) rfl rfl
    simp only [nodeI_eq] at h
    exact h
  go_enter Try.func82, Try.ntmps82
  go_upto_region 1 with fail
  obtain ⟨hx0, hz0, hcA⟩ := one_box w ([.int .i64 n.par, .int .i64 n.fn, .int .i64 n.line, .int .i64 n.frm, .int .i64 n.args, .int .i64 n.upto, .int .i64 n.res] : List Value) 87
  generalize hW1 : w.alloc (.cells ([.int .i64 n.par, .int .i64 n.fn, .int .i64 n.line, .int .i64 n.frm, .int .i64 n.args, .int .i64 n.upto, .int .i64 n.res] : List Value).toArray 87) = W1 at *
  clear hW1
  have c0 : W1.cell? ⟨w.heap.size, 0, none⟩ = some (.int .i64 n.par) := by have := hcA.cell _ _ rfl 0 _ rfl; rwa [Nat.zero_add] at this
  have c1 : W1.cell? ⟨w.heap.size, 1, none⟩ = some (.int .i64 n.fn) := by have := hcA.cell _ _ rfl 1 _ rfl; rwa [Nat.zero_add] at this
  have c2 : W1.cell? ⟨w.heap.size, 2, none⟩ = some (.int .i64 n.line) := by have := hcA.cell _ _ rfl 2 _ rfl; rwa [Nat.zero_add] at this
  have c3 : W1.cell? ⟨w.heap.size, 3, none⟩ = some (.int .i64 n.frm) := by have := hcA.cell _ _ rfl 3 _ rfl; rwa [Nat.zero_add] at this
  have c4 : W1.cell? ⟨w.heap.size, 4, none⟩ = some (.int .i64 n.args) := by have := hcA.cell _ _ rfl 4 _ rfl; rwa [Nat.zero_add] at this
  have c5 : W1.cell? ⟨w.heap.size, 5, none⟩ = some (.int .i64 n.upto) := by have := hcA.cell _ _ rfl 5 _ rfl; rwa [Nat.zero_add] at this
  have c6 : W1.cell? ⟨w.heap.size, 6, none⟩ = some (.int .i64 n.res) := by have := hcA.cell _ _ rfl 6 _ rfl; rwa [Nat.zero_add] at this
  clear hcA
  have HX0 := Lib.hid hx0
  clear hx0
  have HR : Hid (mayNode n k bt = (within n.fn 0 39 && (within n.line 0 65535 && (within n.args 0 8 && (within n.frm bt 256 && (within n.upto (n.frm + n.args) 256 && (bif k == 0 then headNode n else within n.par 0 ((k : Int) - 1) && within n.res 1 1999))))))) := rfl
  have hE0 := Ext.rf W1
  have hb0 := bcell hE0
  have HE0 := Lib.hid hE0
  clear hE0
  go_wp2_with fail
  refine (toExt (tree_within _ _ _ _)).mono ?_
  rintro e w1 ⟨rfl, hy1⟩
  clear hb0
  cases hd0 : within n.fn 0 39 with
  | true =>
    replace HR := Lib.hid (HR.out.trans (by rw [hd0, Bool.true_and]))
    clear hd0
    have hE1 := (Ext.tr HE0.out hy1)
    have hb1 := bcell hE1
    have HE1 := Lib.hid hE1
    clear hE1
    go_wp2_with fail
    refine (toExt (tree_within _ _ _ _)).mono ?_
    rintro e w2 ⟨rfl, hy2⟩
    clear hb1
    cases hd1 : within n.line 0 65535 with
    | true =>
      replace HR := Lib.hid (HR.out.trans (by rw [hd1, Bool.true_and]))
      clear hd1
      have hE2 := (Ext.tr HE1.out hy2)
      have hb2 := bcell hE2
      have HE2 := Lib.hid hE2
      clear hE2
      go_wp2_with fail
      refine (toExt (tree_within _ _ _ _)).mono ?_
      rintro e w3 ⟨rfl, hy3⟩
      clear hb2
      cases hd2 : within n.args 0 8 with
      | true =>
        replace HR := Lib.hid (HR.out.trans (by rw [hd2, Bool.true_and]))
        have hq1 := within_of hd2
        clear hd2
        have hE3 := (Ext.tr HE2.out hy3)
        have hb3 := bcell hE3
        have HE3 := Lib.hid hE3
        clear hE3
        go_wp2_with fail
        refine (toExt (tree_within _ _ _ _)).mono ?_
        rintro e w4 ⟨rfl, hy4⟩
        clear hb3
        cases hd3 : within n.frm bt 256 with
        | true =>
          replace HR := Lib.hid (HR.out.trans (by rw [hd3, Bool.true_and]))
          have hq2 := within_of hd3
          clear hd3
          have hq3 : -1000 ≤ n.frm + n.args ∧ n.frm + n.args ≤ 1000 := by omega
          obtain ⟨hq4, hq5⟩ := hq3
          clear hq1 hq2
          have hE4 := (Ext.tr HE3.out hy4)
          have hb4 := bcell hE4
          have HE4 := Lib.hid hE4
          clear hE4
          go_wp2_with fail
          refine (toExt (tree_within _ _ _ _)).mono ?_
          rintro e w5 ⟨rfl, hy5⟩
          clear hb4
          cases hd4 : within n.upto (n.frm + n.args) 256 with
          | true =>
            replace HR := Lib.hid (HR.out.trans (by rw [hd4, Bool.true_and]))
            clear hd4
            have hEz := (Ext.tr HE4.out hy5)
            have hbz := bcell hEz
            have HEZ := Lib.hid hEz
            clear hEz
            by_cases hk0 : k = 0
            · have HR2 : Hid (mayNode n k bt = headNode n) := by rw [Hid, HR.out, hk0]; rfl
              subst hk0
              go_wp2_with fail
              go_ret
              exact ⟨by rw [HR2.out] <;> rfl, HX0.out.tr HEZ.out⟩
            · have n0 : (k == 0) = false := beq_eq_false_iff_ne.2 hk0
              have n1 : ((k : Int) == 0) = false := beq_eq_false_iff_ne.2 (by omega)
              replace HR := Lib.hid (HR.out.trans (by rw [n0, cond_false]))
              have hk1 : 0 ≤ (k : Int) - 1 := by omega
              clear hbz n0 hk0
              have hE5 := HEZ.out
              have hb5 := bcell hE5
              have HE5 := Lib.hid hE5
              clear hE5
              go_wp2_with fail
              refine (toExt (tree_within _ _ _ _)).mono ?_
              rintro e w6 ⟨rfl, hy6⟩
              clear hb5
              cases hd5 : within n.par 0 ((k : Int) - 1) with
              | true =>
                replace HR := Lib.hid (HR.out.trans (by rw [hd5, Bool.true_and]))
                clear hd5
                have hE6 := (Ext.tr HE5.out hy6)
                have hb6 := bcell hE6
                have HE6 := Lib.hid hE6
                clear hE6
                go_wp2_with fail
                refine (toExt (tree_within _ _ _ _)).mono ?_
                rintro e w7 ⟨rfl, hy7⟩
                clear hb6
                cases hd6 : within n.res 1 1999 with
                | true =>
                  replace HR := Lib.hid (HR.out.trans (by rw [hd6]))
                  clear hd6
                  go_wp2_with fail
                  go_ret
                  exact ⟨by rw [HR.out] <;> rfl, HX0.out.tr (Ext.tr HE6.out hy7)⟩
                | false =>
                  replace HR := Lib.hid (HR.out.trans (by rw [hd6]))
                  clear hd6
                  go_wp2_with fail
                  go_ret
                  exact ⟨by rw [HR.out] <;> rfl, HX0.out.tr (Ext.tr HE6.out hy7)⟩
              | false =>
                replace HR := Lib.hid (HR.out.trans (by rw [hd5, Bool.false_and]))
                clear hd5
                go_wp2_with fail
                go_ret
                exact ⟨by rw [HR.out] <;> rfl, HX0.out.tr (Ext.tr HE5.out hy6)⟩
          | false =>
            replace HR := Lib.hid (HR.out.trans (by rw [hd4, Bool.false_and]))
            clear hd4
            go_wp2_with fail
            go_ret
            exact ⟨by rw [HR.out] <;> rfl, HX0.out.tr (Ext.tr HE4.out hy5)⟩
        | false =>
          replace HR := Lib.hid (HR.out.trans (by rw [hd3, Bool.false_and]))
          clear hd3
          go_wp2_with fail
          go_ret
          exact ⟨by rw [HR.out] <;> rfl, HX0.out.tr (Ext.tr HE3.out hy4)⟩
      | false =>
        replace HR := Lib.hid (HR.out.trans (by rw [hd2, Bool.false_and]))
        clear hd2
        go_wp2_with fail
        go_ret
        exact ⟨by rw [HR.out] <;> rfl, HX0.out.tr (Ext.tr HE2.out hy3)⟩
    | false =>
      replace HR := Lib.hid (HR.out.trans (by rw [hd1, Bool.false_and]))
      clear hd1
      go_wp2_with fail
      go_ret
      exact ⟨by rw [HR.out] <;> rfl, HX0.out.tr (Ext.tr HE1.out hy2)⟩
  | false =>
    replace HR := Lib.hid (HR.out.trans (by rw [hd0, Bool.false_and]))
    clear hd0
    go_wp2_with fail
    go_ret
    exact ⟨by rw [HR.out] <;> rfl, HX0.out.tr (Ext.tr HE0.out hy1)⟩
end Go.Proofs.Ytofdkhilapmccaa
