/- The walks of package sig's small functions, and of its reference's. Whether a type may be. Tables of lines: the walks of lines.Right, lines.At, and of their references. The walks of package uvar's functions that put, and of its reference's. Lists of types: may they be; whether two are the same; their bytes. Whether a function may be called so. Instructions: what their operands are, whether they may be. -/
import Derived.Test.YtkdnbnkbnegckaaDoorBase
import Derived.Test.YtkdnbnkbnegckaaDoorSigP
import Derived.Test.YtkdnbnkbnegckaaDoorStrA
import Derived.Test.YtkdnbnkbnegckaaDoorStructQ
import Derived.Outline
namespace Go.Proofs.YtkdnbnkbnegckaaDoor
open Go.RowKit

theorem sig_letter (a : Int) (w : World) :
    Calls Tryd.prog 53 #[.int .i64 a] w fun e w' => e = .returned (.int .i32 (letterI a)) ∧ w = w' := by
  go_enter Tryd.func53, Tryd.ntmps53
  go_wp2
  all_goals go_ret
  all_goals (refine ⟨?_, rfl⟩; simp_all [letterI])

set_option maxHeartbeats 400000 in
theorem sig_Text (ao : Option Addr) (cap : Nat) (l : List Int) (w : World) (hc : Cells w ao (l.map (.int .i64))) (hl : l.length ≤ 17592186044416) :
    Calls Tryd.prog 33 #[.slice ao l.length cap] w fun e w' => e = .returned (.string (textS l)) ∧ Ext w w' := by
  by_cases h0 : l = []
  · subst h0
    go_enter Tryd.func33, Tryd.ntmps33
    go_wp2
    go_ret
    exact ⟨rfl, Ext.rf _⟩
  · have hpos : 0 < l.length := by cases l with | nil => exact absurd rfl h0 | cons => simp
    have hz : ((l.length : Int) == 0) = false := by simp; omega
    go_enter Tryd.func33, Tryd.ntmps33
    go_wp2
    go_loopw [3, 11] (fun v i wr => ∃ k : Nat, k ≤ l.length ∧ i = .int .i64 k ∧ wr.ownsRow w.heap.size 21 1 v k ((l.map fun x => .int .i32 (letterI x)).take k) ∧ Ext w wr)
      (fun _ i _ => l.length - (intOf i).toNat)
    case atStart => exact ⟨0, Nat.zero_le _, rfl, World.ownsRow_nil _ _ _ _, Ext.rf _⟩
    case round =>
      obtain ⟨k, hk, rfl, hown, hext⟩ := hrel
      by_cases hlt : k < l.length
      · obtain ⟨b, off, rfl, hcell⟩ := (hc.ext hext).at (k := k) (by simpa using hlt)
        simp only [List.getElem_map] at hcell
        go_wp2_with (first
          | (go_at_call 53; refine (sig_letter _ _).mono ?_; rintro e w1 ⟨rfl, rfl⟩)
          | (at_builtin; refine wpList_push rfl (.tmp 15) (.tmp 18) 92 rfl w.heap.size 21 21 (.int .i32 0) 1 4 Tryd.underlying92 (by kernel_rfl) rfl (by decide) _ k _ [.int .i32 (letterI l[k])] rfl hown _ rfl (by simp) rfl (by simp [Value.oneCell']) (by unfold maxLen; omega) (by omega) hext.size ?_))
        intro v' w1 hown1 hg
        have hext1 := hext.push hown (Nat.le_refl _) hg
        clear hg hcell hext hown
        go_wp2
        go_roundw
        case rel => exact ⟨k + 1, by omega, by go_num, by rw [List.take_add_one]; simpa [hlt] using hown1, hext1⟩
        case measure => simp [intOf]; omega
      · obtain rfl : k = l.length := by omega
        rw [List.take_of_length_le (by simp)] at hown
        obtain ⟨ao', cap', rfl, -, -, hc'⟩ := Cells.own hown
        have hconv := run_runes_string (P := Tryd.prog) (src := 92) (dst := 9) (e := 21) (cap := cap') (zs := l.map letterI) l.length (by simp) Tryd.underlying92 Tryd.underlying21 Tryd.underlying9 (by simpa [Function.comp_def] using hc')
        rw [runesBytes_letters] at hconv
        clear hown hc' hlt
        go_wp2
        go_ret
        exact ⟨by simp [textS, textB, h0], hext⟩
end Go.Proofs.YtkdnbnkbnegckaaDoor
namespace Go.Proofs.YtkdnbnkbnegckaaDoor
open Go.RowKit
end Go.Proofs.YtkdnbnkbnegckaaDoor
namespace Go.Proofs.YtkdnbnkbnegckaaDoor
open Go.RowKit

end Go.Proofs.YtkdnbnkbnegckaaDoor
namespace Go.Proofs.YtkdnbnkbnegckaaDoor
open Go.RowKit

/-- 'string(b)', b a slice of bytes. -/
theorem run_bytes_string {P : Program} {w : World} {src dst e : TypeId} {ao : Option Addr} {cap : Nat} {bs : List UInt8} (n : Nat) (hn : n = bs.length)
    (hs : P.underlying src = some (.slice e)) (he : P.underlying e = some (.int .u8)) (hd : P.underlying dst = some .string)
    (hc : Cells w ao (bs.map byteC)) : (convert src dst (.slice ao n cap)).run P w = .ok (.string ⟨bs.toArray⟩) w := by
  subst hn
  cases ao with
  | none =>
    have := hc.none_nil
    obtain rfl : bs = [] := by simpa using this
    rw [run_convert_bytes_string w src dst e none _ cap hs he hd]
    rfl
  | some ad =>
    refine run_convert_bytes_back w src dst e ad cap bs hs he hd (fun j hj => ?_)
    rw [hc.addAt (by simpa using hj)]
    simp [byteC]

end Go.Proofs.YtkdnbnkbnegckaaDoor
namespace Go.Proofs.YtkdnbnkbnegckaaDoor
open Go.RowKit

theorem letterB_1 : letterB 1 = 105 := rfl
theorem letterB_2 : letterB 2 = 99 := rfl
theorem letterB_other {a : Int} (h1 : (a == 1) = false) (h2 : (a == 2) = false) : letterB a = 63 := by simp at h1 h2; simp [letterB, h1, h2]
theorem app_letter (xs : List UInt8) (c : UInt8) : (⟨xs.toArray⟩ : ByteArray) ++ ⟨#[c]⟩ = ⟨(xs ++ [c]).toArray⟩ := by
  apply ByteArray.ext; simp [ByteArray.data_append]

set_option maxHeartbeats 1000000 in
set_option maxRecDepth 20000 in
theorem sigref_Text (ao : Option Addr) (cap : Nat) (l : List Int) (w : World) (hc : Cells w ao (l.map (.int .i64))) (hl : l.length ≤ 17592186044416) :
    Calls Tryd.prog 35 #[.slice ao l.length cap] w fun e w' => e = .returned (.string (textS l)) ∧ Ext w w' := by
  go_enter Tryd.func35, Tryd.ntmps35
  go_wp2
  go_loopw [3, 4] (fun s i wr => ∃ k : Nat, k ≤ l.length ∧ i = .int .i64 k ∧ s = .string ⟨((l.take k).map letterB).toArray⟩ ∧ Ext w wr)
    (fun _ i _ => l.length - (intOf i).toNat)
  case atStart => exact ⟨0, Nat.zero_le _, rfl, rfl, Ext.rf w⟩
  case round =>
    obtain ⟨k, hk, rfl, rfl, hext⟩ := hrel
    by_cases hlt : k < l.length
    · obtain ⟨b, off, rfl, c1⟩ := (hc.ext hext).at (k := k) (by simpa using hlt)
      simp only [List.getElem_map] at c1
      have HS : Hid ((l.take (k + 1)).map letterB = (l.take k).map letterB ++ [letterB l[k]]) := by rw [Hid, List.take_succ_eq_append_getElem hlt, List.map_append]; rfl
      have hsz : ((l.take k).map letterB).length = k := by simp; omega
      generalize (l.take k).map letterB = D at *
      subst hsz
      generalize l[D.length] = a at *
      by_cases h1 : a = 1
      · subst h1
        rw [letterB_1] at HS
        have HA := Lib.hid (app_letter D 105)
        go_wp2
        go_roundw
        case rel => exact ⟨D.length + 1, by omega, by go_num, by rw [HA.out, HS.out], hext⟩
        case measure => simp [intOf]; omega
      · have t1 : (a == 1) = false := by simpa using h1
        clear h1
        by_cases h2 : a = 2
        · subst h2
          rw [letterB_2] at HS
          have HA := Lib.hid (app_letter D 99)
          go_wp2
          go_roundw
          case rel => exact ⟨D.length + 1, by omega, by go_num, by rw [HA.out, HS.out], hext⟩
          case measure => simp [intOf]; omega
        · have t2 : (a == 2) = false := by simpa using h2
          clear h2
          rw [letterB_other t1 t2] at HS
          have HA := Lib.hid (app_letter D 63)
          go_wp2
          go_roundw
          case rel => exact ⟨D.length + 1, by omega, by go_num, by rw [HA.out, HS.out], hext⟩
          case measure => simp [intOf]; omega
    · obtain rfl : k = l.length := by omega
      rw [List.take_of_length_le (Nat.le_refl _)]
      clear hlt
      by_cases h0 : l = []
      · subst h0
        go_wp2
        go_ret
        exact ⟨rfl, hext⟩
      · have t1 : (l.map letterB).isEmpty = false := by simpa using h0
        have HR : Hid (textS l = ⟨(l.map letterB).toArray⟩) := by simp [Hid, textS, textB, h0]
        clear h0
        generalize l.map letterB = D at *
        go_wp2
        go_ret
        exact ⟨by rw [HR.out] <;> rfl, hext⟩

end Go.Proofs.YtkdnbnkbnegckaaDoor
namespace Go.Proofs.YtkdnbnkbnegckaaDoor
open Go.RowKit

end Go.Proofs.YtkdnbnkbnegckaaDoor
namespace Go.Proofs.YtkdnbnkbnegckaaDoor
open Go.RowKit

def opTab : List Int := [0, 1, 2, 2, 0, 0, 0, 0, 0, 0, 0, 0, 0, 0, 0, 0, 0, 0, 0, 0, 0, 3, 3, 4, 4, 0, 0, 0, 5, 5, 0, 0, 0, 6, 6]
def isOp (op : Int) : Bool := decide (0 ≤ op) && decide (op < 35)
def opAt (k : Nat) : Int := opTab.getD k 0
theorem opAt_get {k : Nat} (h : k < 35) : opTab[k]? = some (opAt k) := by
  rw [opAt, List.getD_eq_getElem?_getD, List.getElem?_eq_getElem (show k < opTab.length from h)]; rfl
def operandI (op : Int) : Int := if isOp op then opAt op.toNat else 0
def mostI (k : Int) : Int := if k = 2 then 255 else if k = 3 then 1999 else if k = 4 then 39 else if k = 5 then 3 else if k = 6 then 119 else 0
def mayOperand (k n : Int) : Bool := k == 1 || (decide (0 ≤ n) && decide (n ≤ mostI k))
def rightInstr (i : InstrT) : Bool := isOp i.1 && mayOperand (operandI i.1) i.2

theorem operandI_0 {op : Int} (h0 : ¬ op = 1) (h1 : ¬ op = 2) (h2 : ¬ op = 3) (h3 : ¬ op = 21) (h4 : ¬ op = 22) (h5 : ¬ op = 23) (h6 : ¬ op = 24) (h7 : ¬ op = 28) (h8 : ¬ op = 29) (h9 : ¬ op = 33) (h10 : ¬ op = 34) : operandI op = 0 := by
  unfold operandI; split
  · rename_i h
    simp only [isOp, Bool.and_eq_true, decide_eq_true_eq] at h
    obtain ⟨k, rfl⟩ := Int.eq_ofNat_of_zero_le h.1
    have : ∀ k : Nat, k < 35 → k = 1 ∨ k = 2 ∨ k = 3 ∨ k = 21 ∨ k = 22 ∨ k = 23 ∨ k = 24 ∨ k = 28 ∨ k = 29 ∨ k = 33 ∨ k = 34 ∨ opAt k = 0 := by decide
    rw [Int.toNat_natCast]
    have := this k (by omega)
    omega
  · rfl
theorem operandI_lt (op : Int) : 0 ≤ operandI op ∧ operandI op < 7 := by
  unfold operandI; split
  · rename_i h
    simp only [isOp, Bool.and_eq_true, decide_eq_true_eq] at h
    obtain ⟨k, rfl⟩ := Int.eq_ofNat_of_zero_le h.1
    have : ∀ k : Nat, k < 35 → 0 ≤ opAt k ∧ opAt k < 7 := by decide
    rw [Int.toNat_natCast]
    exact this k (by omega)
  · decide

theorem ops_is (op : Int) (w : World) : Calls Tryd.prog 77 #[.int .i64 op] w fun e w' => e = .returned (.bool (isOp op)) ∧ w = w' := by
  unfold isOp
  cases t1 : decide (0 ≤ op) <;> cases t2 : decide (op < 35) <;>
  (go_enter Tryd.func77, Tryd.ntmps77
   go_wp2
   go_ret
   exact ⟨rfl, rfl⟩)

set_option maxRecDepth 100000 in
theorem ops_Operand (op : Int) (w : World) : Calls Tryd.prog 76 #[.int .i64 op] w fun e w' => e = .returned (.int .i64 (operandI op)) ∧ w = w' := by
  cases t1 : isOp op with
  | false =>
    have HR : Hid (operandI op = 0) := by simp [Hid, operandI, t1]
    go_enter Tryd.func76, Tryd.ntmps76
    go_wp2_with fail
    refine (ops_is op w).mono ?_
    rw [t1]
    rintro e w1 ⟨rfl, rfl⟩
    clear t1
    go_wp2_with fail
    go_ret
    exact ⟨by rw [HR.out] <;> rfl, rfl⟩
  | true =>
    have HR : Hid (operandI op = opAt op.toNat) := by simp [Hid, operandI, t1]
    have t2 := t1
    simp only [isOp, Bool.and_eq_true, decide_eq_true_eq] at t2
    obtain ⟨h0, h1⟩ := t2
    obtain ⟨k, rfl⟩ := Int.eq_ofNat_of_zero_le h0
    have hk : k < 35 := by omega
    clear h0 h1
    rw [Int.toNat_natCast] at HR
    have hi := fun W => run_index_ints (P := Tryd.prog) (k := .i64) (ki := .i64) (t := 119) (e := 3) (n := 35) Tryd.underlying119 Tryd.underlying3 (fun _ => by kernel_rfl) opTab rfl k hk _ (opAt_get hk) W
    simp only [opTab, List.map_cons, List.map_nil] at hi
    go_enter Tryd.func76, Tryd.ntmps76
    go_wp2_with fail
    refine (ops_is _ w).mono ?_
    rw [t1]
    rintro e w1 ⟨rfl, rfl⟩
    clear t1
    go_wp2_with fail
    go_ret
    exact ⟨by rw [HR.out] <;> rfl, rfl⟩

theorem operand_most (k : Int) (w : World) : Calls Tryd.prog 79 #[.int .i64 k] w fun e w' => e = .returned (.int .i64 (mostI k)) ∧ w = w' := by
  by_cases h0 : k = 2
  · subst h0
    go_enter Tryd.func79, Tryd.ntmps79
    go_wp2
    go_ret
    exact ⟨rfl, rfl⟩
  have n0 : (k == 2) = false := beq_eq_false_iff_ne.2 h0
  by_cases h1 : k = 3
  · subst h1
    go_enter Tryd.func79, Tryd.ntmps79
    go_wp2
    go_ret
    exact ⟨rfl, rfl⟩
  have n1 : (k == 3) = false := beq_eq_false_iff_ne.2 h1
  by_cases h2 : k = 4
  · subst h2
    go_enter Tryd.func79, Tryd.ntmps79
    go_wp2
    go_ret
    exact ⟨rfl, rfl⟩
  have n2 : (k == 4) = false := beq_eq_false_iff_ne.2 h2
  by_cases h3 : k = 5
  · subst h3
    go_enter Tryd.func79, Tryd.ntmps79
    go_wp2
    go_ret
    exact ⟨rfl, rfl⟩
  have n3 : (k == 5) = false := beq_eq_false_iff_ne.2 h3
  by_cases h4 : k = 6
  · subst h4
    go_enter Tryd.func79, Tryd.ntmps79
    go_wp2
    go_ret
    exact ⟨rfl, rfl⟩
  have n4 : (k == 6) = false := beq_eq_false_iff_ne.2 h4
  have HR : Hid (mostI k = 0) := by simp [Hid, mostI, h0, h1, h2, h3, h4]
  clear h0 h1 h2 h3 h4
  go_enter Tryd.func79, Tryd.ntmps79
  go_wp2
  go_ret
  exact ⟨by rw [HR.out] <;> rfl, rfl⟩

theorem operand_may (k n : Int) (w : World) : Calls Tryd.prog 75 #[.int .i64 k, .int .i64 n] w fun e w' => e = .returned (.bool (mayOperand k n)) ∧ w = w' := by
  unfold mayOperand
  cases t1 : k == 1 <;> cases t2 : decide (0 ≤ n) <;> cases t3 : decide (n ≤ mostI k) <;>
  (go_enter Tryd.func75, Tryd.ntmps75
   go_wp2_with fail
   first
   | (refine (operand_most k w).mono ?_
      rintro e w1 ⟨rfl, rfl⟩
      go_wp2_with fail
      go_ret
      exact ⟨rfl, rfl⟩)
   | (go_ret; exact ⟨rfl, rfl⟩))

theorem instrref_most (k : Nat) (w : World) (hk : k < 7) : Calls Tryd.prog 41 #[.int .i64 k] w fun e w' => e = .returned (.int .i64 (mostI k)) ∧ w = w' := by
  have hi := fun W => run_index_ints (P := Tryd.prog) (k := .i64) (ki := .i64) (t := 96) (e := 3) (n := 7) Tryd.underlying96 Tryd.underlying3 (fun _ => by kernel_rfl) [0, 0, 255, 1999, 39, 3, 119] rfl k hk (mostI k) (by
    rcases (by omega : k = 0 ∨ k = 1 ∨ k = 2 ∨ k = 3 ∨ k = 4 ∨ k = 5 ∨ k = 6) with rfl | rfl | rfl | rfl | rfl | rfl | rfl <;> rfl) W
  simp only [List.map_cons, List.map_nil] at hi
  go_enter Tryd.func41, Tryd.ntmps41
  go_wp2
  go_ret
  exact ⟨rfl, rfl⟩

theorem opsref_Operand (op : Int) (w : World) : Calls Tryd.prog 40 #[.int .i64 op] w fun e w' => e = .returned (.int .i64 (operandI op)) ∧ w = w' := by
  by_cases h0 : op = 1
  · subst h0
    go_enter Tryd.func40, Tryd.ntmps40
    go_wp2
    go_ret
    exact ⟨rfl, rfl⟩
  have n0 : (op == 1) = false := beq_eq_false_iff_ne.2 h0
  by_cases h1 : op = 2
  · subst h1
    go_enter Tryd.func40, Tryd.ntmps40
    go_wp2
    go_ret
    exact ⟨rfl, rfl⟩
  have n1 : (op == 2) = false := beq_eq_false_iff_ne.2 h1
  by_cases h2 : op = 3
  · subst h2
    go_enter Tryd.func40, Tryd.ntmps40
    go_wp2
    go_ret
    exact ⟨rfl, rfl⟩
  have n2 : (op == 3) = false := beq_eq_false_iff_ne.2 h2
  by_cases h3 : op = 21
  · subst h3
    go_enter Tryd.func40, Tryd.ntmps40
    go_wp2
    go_ret
    exact ⟨rfl, rfl⟩
  have n3 : (op == 21) = false := beq_eq_false_iff_ne.2 h3
  by_cases h4 : op = 22
  · subst h4
    go_enter Tryd.func40, Tryd.ntmps40
    go_wp2
    go_ret
    exact ⟨rfl, rfl⟩
  have n4 : (op == 22) = false := beq_eq_false_iff_ne.2 h4
  by_cases h5 : op = 23
  · subst h5
    go_enter Tryd.func40, Tryd.ntmps40
    go_wp2
    go_ret
    exact ⟨rfl, rfl⟩
  have n5 : (op == 23) = false := beq_eq_false_iff_ne.2 h5
  by_cases h6 : op = 24
  · subst h6
    go_enter Tryd.func40, Tryd.ntmps40
    go_wp2
    go_ret
    exact ⟨rfl, rfl⟩
  have n6 : (op == 24) = false := beq_eq_false_iff_ne.2 h6
  by_cases h7 : op = 28
  · subst h7
    go_enter Tryd.func40, Tryd.ntmps40
    go_wp2
    go_ret
    exact ⟨rfl, rfl⟩
  have n7 : (op == 28) = false := beq_eq_false_iff_ne.2 h7
  by_cases h8 : op = 29
  · subst h8
    go_enter Tryd.func40, Tryd.ntmps40
    go_wp2
    go_ret
    exact ⟨rfl, rfl⟩
  have n8 : (op == 29) = false := beq_eq_false_iff_ne.2 h8
  by_cases h9 : op = 33
  · subst h9
    go_enter Tryd.func40, Tryd.ntmps40
    go_wp2
    go_ret
    exact ⟨rfl, rfl⟩
  have n9 : (op == 33) = false := beq_eq_false_iff_ne.2 h9
  by_cases h10 : op = 34
  · subst h10
    go_enter Tryd.func40, Tryd.ntmps40
    go_wp2
    go_ret
    exact ⟨rfl, rfl⟩
  have n10 : (op == 34) = false := beq_eq_false_iff_ne.2 h10
  have HR : Hid (operandI op = 0) := operandI_0 h0 h1 h2 h3 h4 h5 h6 h7 h8 h9 h10
  clear h0 h1 h2 h3 h4 h5 h6 h7 h8 h9 h10
  go_enter Tryd.func40, Tryd.ntmps40
  go_wp2
  go_ret
  exact ⟨by rw [HR.out] <;> rfl, rfl⟩


set_option maxRecDepth 20000 in
theorem instr_Right (a b : Int) (w : World) : Calls Tryd.prog 65 #[.agg #[.int .i64 a, .int .i64 b]] w fun e w' => e = .returned (.bool (rightInstr (a, b))) ∧ Ext w w' := by
  unfold rightInstr isOp
  cases t1 : decide (0 ≤ a) <;> cases t2 : decide (a < 35) <;>
  (go_enter Tryd.func65, Tryd.ntmps65
   go_wp2
   go_quiet ((first | (go_at_call 76; exact quiet_same (ops_Operand _ _)) | (go_at_call 75; exact quiet_same (operand_may _ _ _))))
   go_wp2
   go_ret
   exact ⟨rfl, ((Ext.rf w).al _).drN _⟩)

theorem instr_has (op : Int) (w : World) : Calls Tryd.prog 66 #[.int .i64 op] w fun e w' => e = .returned (.bool (operandI op != 0)) ∧ w = w' := by
  go_enter Tryd.func66, Tryd.ntmps66
  go_wp2_with fail
  refine (ops_Operand op w).mono ?_
  rintro e w1 ⟨rfl, rfl⟩
  go_wp2_with fail
  go_ret
  exact ⟨rfl, rfl⟩

set_option maxRecDepth 20000 in
theorem instrref_Right (a b : Int) (w : World) : Calls Tryd.prog 15 #[.agg #[.int .i64 a, .int .i64 b]] w fun e w' => e = .returned (.bool (rightInstr (a, b))) ∧ Ext w w' := by
  obtain ⟨k, hk, hk7⟩ : ∃ k : Nat, operandI a = k ∧ k < 7 := by
    obtain ⟨h0, h1⟩ := operandI_lt a
    exact ⟨(operandI a).toNat, by omega, by omega⟩
  cases h : isOp a with
  | true =>
    have h' := h
    simp only [isOp, Bool.and_eq_true, decide_eq_true_eq] at h'
    have t1 : decide (a < 0) = false := decide_eq_false (by omega)
    have t2 : decide (35 ≤ a) = false := decide_eq_false (by omega)
    have HR : Hid (rightInstr (a, b) = ((k : Int) == 1 || (decide (0 ≤ b) && decide (b ≤ mostI k)))) := by rw [Hid, rightInstr, h, Bool.true_and, hk, mayOperand]
    have HK := Lib.hid hk
    clear h h' hk
    cases t3 : (k : Int) == 1 <;> cases t4 : decide (0 ≤ b) <;> cases t5 : decide (b ≤ mostI k) <;>
    (rw [t3, t4, t5] at HR
     go_enter Tryd.func15, Tryd.ntmps15
     go_wp2_with fail
     refine (opsref_Operand a _).mono ?_
     rw [HK.out]
     rintro e w1 ⟨rfl, rfl⟩
     go_wp2_with fail
     go_quiet ((go_at_call 41; exact quiet_same (instrref_most k _ hk7)))
     go_wp2
     go_ret
     exact ⟨by rw [HR.out] <;> rfl, ((Ext.rf w).al _).drN _⟩)
  | false =>
    have HR : Hid (rightInstr (a, b) = false) := by rw [Hid, rightInstr, h, Bool.false_and]
    clear hk
    by_cases h0 : a < 0
    · have t1 : decide (a < 0) = true := decide_eq_true h0
      clear h
      go_enter Tryd.func15, Tryd.ntmps15
      go_wp2_with fail
      go_ret
      exact ⟨by rw [HR.out] <;> rfl, ((Ext.rf w).al _)⟩
    · have t1 : decide (a < 0) = false := decide_eq_false h0
      have t2 : decide (35 ≤ a) = true := by
        simp only [isOp, Bool.and_eq_false_iff, decide_eq_false_iff_not] at h
        exact decide_eq_true (by omega)
      clear h
      go_enter Tryd.func15, Tryd.ntmps15
      go_wp2_with fail
      go_ret
      exact ⟨by rw [HR.out] <;> rfl, ((Ext.rf w).al _)⟩
end Go.Proofs.YtkdnbnkbnegckaaDoor
