/- Lists of types: may they be; whether two are the same; their bytes. -/
import Derived.Test.YtofdkhilapmccaaSigW
import Derived.Test.YtofdkhilapmccaaSigMay
import Derived.Test.YtofdkhilapmccaaLinesA
import Derived.Test.YtofdkhilapmccaaUvarW
namespace Go.Proofs.Ytofdkhilapmccaa
open Go.RowKit

def badSig (a : Int) : Bool := !(a == 1 || a == 2)
theorem badSig_false {a : Int} (h : badSig a = false) : a = 1 ∨ a = 2 := by
  by_cases h1 : a = 1
  · exact .inl h1
  · simp [badSig, h1] at h; exact .inr h
def rightSig (l : List Int) (most : Int) : Bool := decide ((l.length : Int) ≤ most) && !(l.any badSig)

theorem sigref_May (a : Int) (w : World) :
    Calls Try.prog 161 #[.int .i64 a] w fun e w' => e = .returned (.bool (a == 1 || a == 2)) ∧ w = w' := by
  by_cases h1 : a = 1
  · subst h1
    go_enter Try.func161, Try.ntmps161
    go_wp2
    go_ret
    exact ⟨rfl, rfl⟩
  · have t1 : (a == 1) = false := by simpa using h1
    clear h1
    go_enter Try.func161, Try.ntmps161
    go_wp2
    go_ret
    exact ⟨by simp [t1], rfl⟩

theorem sig_bad (a : Int) (w : World) (h1 : -9223372036854775808 ≤ a) (h2 : a ≤ 9223372036854775807) :
    Calls Try.prog 184 #[.int .i64 a] w fun e w' => e = .returned (.bool (badSig a)) ∧ w = w' := by
  go_enter Try.func184, Try.ntmps184
  go_wp2_with fail
  refine (sig_May a w).mono ?_
  rintro e w1 ⟨rfl, rfl⟩
  go_wp2_with fail
  go_ret
  exact ⟨by simp [badSig], rfl⟩


set_option maxHeartbeats 1000000 in
set_option maxRecDepth 20000 in
theorem sig_Index (ao : Option Addr) (cap : Nat) (l : List Int) (w : World) (hc : Cells w ao (l.map (.int .i64))) (hl : l.length ≤ 17592186044416) (hb : ∀ n ∈ l, -9223372036854775808 ≤ n ∧ n ≤ 9223372036854775807) :
    Calls Try.prog 200 #[.slice ao l.length cap, .func (.func 184) #[] #[]] w fun e w' => SomeIdx (l.any badSig) w e w' := by
  have HB := Lib.hid hb
  clear hb
  go_enter Try.func200, Try.ntmps200
  go_wp2
  go_loopw [8] (fun i wr => ∃ k : Nat, k ≤ l.length ∧ i = .int .i64 k ∧ Ext w wr ∧ Hid ((l.take k).any badSig = false))
    (fun i _ => l.length - (intOf i).toNat)
  case atStart => exact ⟨0, Nat.zero_le _, rfl, Ext.rf w, Lib.hid (by simp)⟩
  case round =>
    obtain ⟨k, hk, rfl, hext, hno⟩ := hrel
    by_cases hlt : k < l.length
    · obtain ⟨b, off, rfl, c1⟩ := (hc.ext hext).at (k := k) (by simpa using hlt)
      simp only [List.getElem_map] at c1
      have hbk := HB.out l[k] (List.getElem_mem _)
      obtain ⟨hb1, hb2⟩ := hbk
      have HS : Hid ((l.take (k + 1)).any badSig = ((l.take k).any badSig || badSig l[k])) := by rw [Hid, List.take_succ_eq_append_getElem hlt, List.any_append]; simp only [List.any_cons, List.any_nil, Bool.or_false]
      have HM : Hid (badSig l[k] = true → l.any badSig = true) := fun h => List.any_eq_true.2 ⟨_, List.getElem_mem hlt, h⟩
      go_wp2_with fail
      refine (sig_bad l[k] _ hb1 hb2).mono ?_
      rintro e w1 ⟨rfl, rfl⟩
      cases hp : badSig l[k] with
      | true =>
        have hT := Lib.hid (HM.out hp)
        clear hp
        go_wp2_with fail
        go_ret
        exact ⟨k, rfl, by rw [hT.out]; simp, hext⟩
      | false =>
        have hF : Hid ((l.take (k + 1)).any badSig = false) := by rw [Hid, HS.out, hno.out, hp]; rfl
        clear hp
        go_wp2_with fail
        go_roundw
        case rel => exact ⟨k + 1, by omega, by go_num, hext, hF⟩
        case measure => simp [intOf]; omega
    · obtain rfl : k = l.length := by omega
      rw [List.take_of_length_le (Nat.le_refl _)] at hno
      go_wp2
      go_ret
      exact ⟨-1, rfl, by rw [hno.out]; simp, hext⟩

set_option maxRecDepth 20000 in
theorem sig_Contains (ao : Option Addr) (cap : Nat) (l : List Int) (w : World) (hc : Cells w ao (l.map (.int .i64))) (hl : l.length ≤ 17592186044416) (hb : ∀ n ∈ l, -9223372036854775808 ≤ n ∧ n ≤ 9223372036854775807) :
    Calls Try.prog 186 #[.slice ao l.length cap, .func (.func 184) #[] #[]] w fun e w' => e = .returned (.bool (l.any badSig)) ∧ Ext w w' := by
  go_enter Try.func186, Try.ntmps186
  go_wp2_with fail
  refine (sig_Index ao cap l w hc hl hb).mono ?_
  rintro e w1 ⟨r, rfl, hr, hx⟩
  have HR : Hid (decide (0 ≤ r) = l.any badSig) := hr.symm
  clear hr
  go_wp2_with fail
  go_ret
  exact ⟨by rw [← HR.out] <;> rfl, hx⟩


set_option maxRecDepth 20000 in
theorem sig_Right (ao : Option Addr) (cap : Nat) (l : List Int) (most : Int) (w : World) (hc : Cells w ao (l.map (.int .i64))) (hl : l.length ≤ 17592186044416) (hb : ∀ n ∈ l, -9223372036854775808 ≤ n ∧ n ≤ 9223372036854775807) :
    Calls Try.prog 155 #[.slice ao l.length cap, .int .i64 most] w fun e w' => e = .returned (.bool (rightSig l most)) ∧ Ext w w' := by
  by_cases h : (l.length : Int) ≤ most
  · have t2 : decide ((l.length : Int) ≤ most) = true := decide_eq_true h
    have HB := Lib.hid hb
    clear hb
    go_enter Try.func155, Try.ntmps155
    go_wp2_with fail
    refine (sig_Contains ao cap l w hc hl HB.out).mono ?_
    rintro e w1 ⟨rfl, hx⟩
    go_wp2_with fail
    go_ret
    exact ⟨by simp [rightSig, h], hx⟩
  · have t2 : decide ((l.length : Int) ≤ most) = false := decide_eq_false h
    clear hb
    go_enter Try.func155, Try.ntmps155
    go_wp2_with fail
    go_ret
    exact ⟨by rw [rightSig, t2] <;> rfl, Ext.rf _⟩

set_option maxHeartbeats 1000000 in
set_option maxRecDepth 20000 in
theorem sigref_Right (ao : Option Addr) (cap : Nat) (l : List Int) (most : Int) (w : World) (hc : Cells w ao (l.map (.int .i64))) (hl : l.length ≤ 17592186044416) :
    Calls Try.prog 108 #[.slice ao l.length cap, .int .i64 most] w fun e w' => e = .returned (.bool (rightSig l most)) ∧ Ext w w' := by
  go_enter Try.func108, Try.ntmps108
  go_wp2
  go_loopw [5] (fun i wr => ∃ k : Nat, k ≤ l.length ∧ i = .int .i64 k ∧ Ext w wr ∧ Hid ((l.take k).any badSig = false))
    (fun i _ => l.length - (intOf i).toNat)
  case atStart => exact ⟨0, Nat.zero_le _, rfl, Ext.rf w, Lib.hid (by simp)⟩
  case round =>
    obtain ⟨k, hk, rfl, hext, hno⟩ := hrel
    by_cases hlt : k < l.length
    · obtain ⟨b, off, rfl, c1⟩ := (hc.ext hext).at (k := k) (by simpa using hlt)
      simp only [List.getElem_map] at c1
      have HS : Hid ((l.take (k + 1)).any badSig = ((l.take k).any badSig || badSig l[k])) := by rw [Hid, List.take_succ_eq_append_getElem hlt, List.any_append]; simp only [List.any_cons, List.any_nil, Bool.or_false]
      have HM : Hid (badSig l[k] = true → rightSig l most = false) := fun h => by
        have : l.any badSig = true := List.any_eq_true.2 ⟨_, List.getElem_mem hlt, h⟩
        simp [rightSig, this]
      go_wp2_with fail
      refine (sigref_May l[k] _).mono ?_
      rintro e w1 ⟨rfl, rfl⟩
      cases hp : (l[k] == 1 || l[k] == 2) with
      | true =>
        have HF : Hid ((l.take (k + 1)).any badSig = false) := by rw [Hid, HS.out, hno.out, badSig, hp]; rfl
        clear hp
        go_wp2_with fail
        go_roundw
        case rel => exact ⟨k + 1, by omega, by go_num, hext, HF⟩
        case measure => simp [intOf]; omega
      | false =>
        have HR := Lib.hid (HM.out (by rw [badSig, hp]; rfl))
        clear hp
        go_wp2_with fail
        go_ret
        exact ⟨by rw [HR.out] <;> rfl, hext⟩
    · obtain rfl : k = l.length := by omega
      rw [List.take_of_length_le (Nat.le_refl _)] at hno
      go_wp2
      go_ret
      exact ⟨by simp [rightSig, hno.out], hext⟩

set_option maxHeartbeats 1000000 in
set_option maxRecDepth 20000 in
theorem sig_Equal (ao bo : Option Addr) (ca cb : Nat) (l m : List Int) (w : World) (hl : Cells w ao (l.map (.int .i64))) (hm : Cells w bo (m.map (.int .i64))) (hlen : l.length ≤ 17592186044416) (hmen : m.length ≤ 17592186044416) :
    Calls Try.prog 134 #[.slice ao l.length ca, .slice bo m.length cb] w fun e w' => e = .returned (.bool (decide (l = m))) ∧ Ext w w' := by
  by_cases hlm : l.length = m.length
  · have HLM := Lib.hid hlm
    have t0 : ((l.length : Int) != (m.length : Int)) = false := by simp [hlm]
    clear hlm
    go_enter Try.func134, Try.ntmps134
    go_wp2
    go_loopw [13] (fun i wr => ∃ k : Nat, k ≤ l.length ∧ i = .int .i64 k ∧ Ext w wr ∧ Hid (∀ j < k, l[j]? = m[j]?))
      (fun i _ => l.length - (intOf i).toNat)
    case atStart => exact ⟨0, Nat.zero_le _, rfl, Ext.rf w, Lib.hid (by intro j hj; omega)⟩
    case round =>
      obtain ⟨k, hk, rfl, hext, hsame⟩ := hrel
      by_cases hlt : k < l.length
      · have hlt2 : k < m.length := by rw [← HLM.out]; exact hlt
        obtain ⟨b, off, rfl, c1⟩ := (hl.ext hext).at (k := k) (by simpa using hlt)
        obtain ⟨b', off', rfl, c2⟩ := (hm.ext hext).at (k := k) (by simpa using hlt2)
        simp only [List.getElem_map] at c1 c2
        have i1 : (0 : Int) ≤ k := by omega
        have i2 : (k : Int) < l.length := by omega
        have i3 : (k : Int) < m.length := by omega
        go_wp2
        go_quiet (fail)
        go_wp2
        · have hne : (l[k] != m[k]) = true := by assumption
          go_ret
          refine ⟨?_, hext.drN _⟩
          have : l ≠ m := by rintro rfl; simp at hne
          simp [this]
        · have hne : (l[k] != m[k]) = false := by assumption
          go_roundw
          case rel => exact ⟨k + 1, by omega, by go_num, hext.drN _, Lib.hid (by
            intro j hj
            rcases Nat.lt_succ_iff_lt_or_eq.1 hj with h | rfl
            · exact hsame.out j h
            · simp only [bne_eq_false_iff_eq] at hne
              simp [hlt, hlt2, hne])⟩
          case measure => simp [intOf]; omega
      · have HR : Hid (l = m) := by
          refine List.ext_getElem? fun j => ?_
          by_cases h : j < k
          · exact hsame.out j h
          · rw [List.getElem?_eq_none (by omega), List.getElem?_eq_none (by have := HLM.out; omega)]
        clear hsame
        go_wp2
        go_ret
        exact ⟨by simp [HR.out], hext⟩
  · have t0 : ((l.length : Int) != (m.length : Int)) = true := by rw [bne_iff_ne]; omega
    have HR : Hid (l ≠ m) := fun e => hlm (by rw [e])
    clear hlm
    go_enter Try.func134, Try.ntmps134
    go_wp2
    go_ret
    exact ⟨by simp [HR.out], Ext.rf _⟩

theorem sig_Same (ao bo : Option Addr) (ca cb : Nat) (l m : List Int) (w : World) (hl : Cells w ao (l.map (.int .i64))) (hm : Cells w bo (m.map (.int .i64))) (hlen : l.length ≤ 17592186044416) (hmen : m.length ≤ 17592186044416) :
    Calls Try.prog 69 #[.slice ao l.length ca, .slice bo m.length cb] w fun e w' => e = .returned (.bool (decide (l = m))) ∧ Ext w w' := by
  go_enter Try.func69, Try.ntmps69
  go_wp2_with fail
  refine (sig_Equal ao bo ca cb l m w hl hm hlen hmen).mono ?_
  rintro e w1 ⟨rfl, hx⟩
  go_wp2_with fail
  go_ret
  exact ⟨rfl, hx⟩

theorem letterB_1 : letterB 1 = 105 := rfl
theorem letterB_2 : letterB 2 = 99 := rfl
theorem letterB_other {a : Int} (h1 : (a == 1) = false) (h2 : (a == 2) = false) : letterB a = 63 := by simp at h1 h2; simp [letterB, h1, h2]
theorem app_letter (xs : List UInt8) (c : UInt8) : (⟨xs.toArray⟩ : ByteArray) ++ ⟨#[c]⟩ = ⟨(xs ++ [c]).toArray⟩ := by
  apply ByteArray.ext; simp [ByteArray.data_append]

set_option maxHeartbeats 1000000 in
set_option maxRecDepth 20000 in
theorem sigref_Text (ao : Option Addr) (cap : Nat) (l : List Int) (w : World) (hc : Cells w ao (l.map (.int .i64))) (hl : l.length ≤ 17592186044416) :
    Calls Try.prog 176 #[.slice ao l.length cap] w fun e w' => e = .returned (.string (textS l)) ∧ Ext w w' := by
  go_enter Try.func176, Try.ntmps176
  go_wp2
  go_loopw [3, 4] (fun s i wr => ∃ k : Nat, k ≤ l.length ∧ i = .int .i64 k ∧ s = .string ⟨((l.take k).map letterB).toArray⟩ ∧ Ext w wr)
    (fun _ i _ => l.length - (intOf i).toNat)
  case atStart => exact ⟨0, Nat.zero_le _, rfl, rfl, Ext.rf w⟩
  case round =>
    obtain ⟨k, hk, rfl, rfl, hext⟩ := hrel
    by_cases hlt : k < l.length
    · obtain ⟨b, off, rfl, c1⟩ := (hc.ext hext).at (k := k) (by simpa using hlt)
      simp only [List.getElem_map] at c1
      have HS : Hid ((l.take (k + 1)).map letterB = (l.take k).map letterB ++ [letterB l[k]]) := by rw [Hid, List.take_succ_eq_append_getElem hlt, List.map_append]; rfl
      have hsz : ((l.take k).map letterB).length = k := by simp; omega
      generalize (l.take k).map letterB = D at *
      subst hsz
      generalize l[D.length] = a at *
      by_cases h1 : a = 1
      · subst h1
        rw [letterB_1] at HS
        have HA := Lib.hid (app_letter D 105)
        go_wp2
        go_roundw
        case rel => exact ⟨D.length + 1, by omega, by go_num, by rw [HA.out, HS.out], hext⟩
        case measure => simp [intOf]; omega
      · have t1 : (a == 1) = false := by simpa using h1
        clear h1
        by_cases h2 : a = 2
        · subst h2
          rw [letterB_2] at HS
          have HA := Lib.hid (app_letter D 99)
          go_wp2
          go_roundw
          case rel => exact ⟨D.length + 1, by omega, by go_num, by rw [HA.out, HS.out], hext⟩
          case measure => simp [intOf]; omega
        · have t2 : (a == 2) = false := by simpa using h2
          clear h2
          rw [letterB_other t1 t2] at HS
          have HA := Lib.hid (app_letter D 63)
          go_wp2
          go_roundw
          case rel => exact ⟨D.length + 1, by omega, by go_num, by rw [HA.out, HS.out], hext⟩
          case measure => simp [intOf]; omega
    · obtain rfl : k = l.length := by omega
      rw [List.take_of_length_le (Nat.le_refl _)]
      clear hlt
      by_cases h0 : l = []
      · subst h0
        go_wp2
        go_ret
        exact ⟨rfl, hext⟩
      · have t1 : (l.map letterB).isEmpty = false := by simpa using h0
        have HR : Hid (textS l = ⟨(l.map letterB).toArray⟩) := by simp [Hid, textS, textB, h0]
        clear h0
        generalize l.map letterB = D at *
        go_wp2
        go_ret
        exact ⟨by rw [HR.out] <;> rfl, hext⟩

/-- A list's bytes. -/
def sigB (a : Int) : UInt8 := UInt8.ofNat a.toNat
def sigPut (l : List Int) : List UInt8 := if l.any badSig then [] else putB l.length ++ l.map sigB
theorem sigPut_bad {l : List Int} (h : l.any badSig = true) : sigPut l = [] := by simp [sigPut, h]
theorem sigPut_good {l : List Int} (h : l.any badSig = false) : sigPut l = putB l.length ++ l.map sigB := by simp [sigPut, h]
theorem sigPut_le (l : List Int) : (sigPut l).length ≤ 10 + l.length := by
  unfold sigPut; split
  · simp
  · have := putB_le l.length; simp; omega
theorem rightSig_self (l : List Int) : rightSig l l.length = !(l.any badSig) := by simp [rightSig]

set_option maxHeartbeats 2000000 in
set_option maxRecDepth 20000 in
theorem sig_Put (base : Nat) (v : Value) (k0 : Nat) (xs : List Value) (ao : Option Addr) (cap : Nat) (l : List Int) (w : World) (hown : w.ownsRow base 5 1 v k0 xs) (hb : base ≤ w.heap.size) (hk0 : k0 ≤ 4398046511104)
    (hc : Cells w ao (l.map (.int .i64))) (hl : l.length ≤ 4398046511104) (hv : ∀ n ∈ l, -9223372036854775808 ≤ n ∧ n ≤ 9223372036854775807) (hfr : ∀ b off, l ≠ [] → ao = some ⟨b, off, none⟩ → b < base) :
    Calls Try.prog 112 #[v, .slice ao l.length cap] w (PutRow base v k0 xs (sigPut l) w) := by
  have HV := Lib.hid hv
  have HF := Lib.hid hfr
  clear hv hfr
  go_enter Try.func112, Try.ntmps112
  go_wp2_with fail
  refine (sig_Right ao cap l l.length w hc (by omega) HV.out).mono ?_
  rintro e w1 ⟨rfl, hx⟩
  rw [rightSig_self]
  have hown1 := own_ext hown hx
  cases hp : l.any badSig with
  | true =>
    have HR := Lib.hid (sigPut_bad hp)
    clear hp hown
    obtain ⟨ro, rc, rfl⟩ := own_form hown1
    go_wp2_with fail
    go_ret
    exact ⟨_, rfl, by rw [HR.out]; simpa using hown1, (Grow.rf w _).extR hx⟩
  | false =>
    have HR := Lib.hid (sigPut_good hp)
    have HG : Hid (∀ a ∈ l, a = 1 ∨ a = 2) := fun a ha => badSig_false (by
      rw [List.any_eq_false] at hp
      simpa using hp a ha)
    clear hp
    have hg0 := (Grow.rf w v).extR hx
    have hwn : IntKind.u64.wrap (l.length : Int) = l.length := by rw [IntKind.wrap_u64]; omega
    have hb1 : base ≤ w1.heap.size := Nat.le_trans hb hx.size
    have hx0 : Below base w w1 := hx.b.mono hb
    clear hown hx
    go_wp2_with fail
    refine (uvar_Put base v k0 xs l.length w1 hown1 hb1 (by omega) (by omega)).mono ?_
    rintro e w2 ⟨u, rfl, hown2, hg2⟩
    have hple := putB_le l.length
    have hx2 := below_growU hx0 hb1 hown1 (Nat.le_refl _) hg2
    have hg3 := hg0.tr hg2
    have hb2 : base ≤ w2.heap.size := Nat.le_trans hb1 hg2.size
    generalize putB l.length = B at *
    clear hg0 hg2 hown1 hx0
    go_wp2_with fail
    go_loopw [0, 20] (fun u i wr => ∃ k : Nat, k ≤ l.length ∧ i = .int .i64 k ∧ wr.ownsRow base 5 1 u (k0 + B.length + k) (xs ++ B.map byteC ++ (l.take k).map fun a => .int .u8 a) ∧ Below base w wr ∧ Grow w wr v u ∧ base ≤ wr.heap.size)
      (fun _ i _ => l.length - (intOf i).toNat)
    case atStart => exact ⟨0, Nat.zero_le _, rfl, by simpa using hown2, hx2, hg3, hb2⟩
    case round =>
      obtain ⟨k, hk, rfl, hownk, hbk, hgk, hbs⟩ := hrel
      by_cases hlt : k < l.length
      · obtain ⟨b, off, rfl, -⟩ := hc.at (k := k) (by simpa using hlt)
        obtain ⟨b', off', e', c1⟩ := (hc.below hbk (HF.out b off (by rintro rfl; simp at hlt) rfl)).at (k := k) (by simpa using hlt)
        simp only [Option.some.injEq, Addr.mk.injEq, and_true] at e'
        obtain ⟨rfl, rfl⟩ := e'
        simp only [List.getElem_map] at c1
        have HS : Hid ((l.take (k + 1)).map (fun a => Value.int .u8 a) = (l.take k).map (fun a => Value.int .u8 a) ++ [.int .u8 l[k]]) := by rw [Hid, List.take_succ_eq_append_getElem hlt, List.map_append]; rfl
        have hw8 : IntKind.u8.wrap l[k] = l[k] := by rw [IntKind.wrap_u8]; rcases HG.out l[k] (List.getElem_mem _) with h | h <;> rw [h] <;> rfl
        generalize l[k] = a at *
        go_wp2_with (at_builtin; (refine wpList_push rfl (.tmp 24) (.tmp 27) 38 rfl base 5 5 (.int .u8 0) 1 1 Try.underlying38 (by kernel_rfl) rfl (by decide) _ (k0 + B.length + k) _ [.int .u8 a] rfl hownk _ rfl (by simp) rfl (by simp [Value.oneCell']) (by unfold maxLen; omega) (by omega) (by omega) ?_; intro v' w3 hown3 hgr'; have hgr := Lib.hid hgr'; clear hgr'))
        go_roundw
        case rel => exact ⟨k + 1, by omega, by go_num, by rw [HS.out]; simpa [Nat.add_assoc] using hown3, below_growU hbk hbs hownk (Nat.le_refl _) hgr.out, hgk.tr hgr.out, Nat.le_trans hbs hgr.out.size⟩
        case measure => simp [intOf]; omega
      · obtain rfl : k = l.length := by omega
        rw [List.take_of_length_le (Nat.le_refl _)] at hownk
        obtain ⟨ro, rc, rfl⟩ := own_form hownk
        have HM : Hid (l.map (fun a => Value.int .u8 a) = (l.map sigB).map byteC) := by
          rw [Hid, List.map_map]
          refine List.map_congr_left fun a ha => ?_
          rcases HG.out a ha with rfl | rfl <;> rfl
        go_wp2_with fail
        go_ret
        refine ⟨_, rfl, ?_, hgk⟩
        rw [HR.out, List.length_append, List.length_map, List.map_append, ← HM.out, ← Nat.add_assoc, ← List.append_assoc]
        exact hownk

set_option maxHeartbeats 2000000 in
set_option maxRecDepth 20000 in
theorem sigref_Put (ao : Option Addr) (cap : Nat) (l : List Int) (w : World) (hc : Cells w ao (l.map (.int .i64))) (hl : l.length ≤ 4398046511104) :
    Calls Try.prog 116 #[.slice ao l.length cap] w (RetSl (sigPut l).length ((sigPut l).map byteC) w) := by
  go_enter Try.func116, Try.ntmps116
  go_wp2_with fail
  refine (sigref_Right ao cap l l.length w hc (by omega)).mono ?_
  rintro e w1 ⟨rfl, hx⟩
  rw [rightSig_self]
  cases hp : l.any badSig with
  | true =>
    have HR := Lib.hid (sigPut_bad hp)
    clear hp
    go_wp2_with fail
    go_ret
    exact ⟨none, 0, by rw [HR.out] <;> rfl, by rw [HR.out]; exact Cells.nil _ _, hx, fun _ h => by cases h⟩
  | false =>
    have HR := Lib.hid (sigPut_good hp)
    have HG : Hid (∀ a ∈ l, a = 1 ∨ a = 2) := fun a ha => badSig_false (by
      rw [List.any_eq_false] at hp
      simpa using hp a ha)
    clear hp
    have hwn : IntKind.u64.wrap (l.length : Int) = l.length := by rw [IntKind.wrap_u64]; omega
    go_wp2_with fail
    refine (uvarref_PutO l.length w1 (by omega)).mono ?_
    rintro e w2 ⟨u, rfl, hown2, hx2'⟩
    have hple := putB_le l.length
    have hx2 := hx.tr hx2'
    have hb2 := hx2'.size
    generalize putB l.length = B at *
    clear hx2'
    go_wp2_with fail
    go_loopw [3, 4] (fun u i wr => ∃ k : Nat, k ≤ l.length ∧ i = .int .i64 k ∧ wr.ownsRow w1.heap.size 5 1 u (B.length + k) (B.map byteC ++ (l.take k).map fun a => .int .u8 a) ∧ Ext w wr ∧ w1.heap.size ≤ wr.heap.size)
      (fun _ i _ => l.length - (intOf i).toNat)
    case atStart => exact ⟨0, Nat.zero_le _, rfl, by simpa using hown2, hx2, hb2⟩
    case round =>
      obtain ⟨k, hk, rfl, hownk, hext, hbs⟩ := hrel
      by_cases hlt : k < l.length
      · obtain ⟨b, off, rfl, c1⟩ := (hc.ext hext).at (k := k) (by simpa using hlt)
        simp only [List.getElem_map] at c1
        have HS : Hid ((l.take (k + 1)).map (fun a => Value.int .u8 a) = (l.take k).map (fun a => Value.int .u8 a) ++ [.int .u8 l[k]]) := by rw [Hid, List.take_succ_eq_append_getElem hlt, List.map_append]; rfl
        have hw8 : IntKind.u8.wrap l[k] = l[k] := by rw [IntKind.wrap_u8]; rcases HG.out l[k] (List.getElem_mem _) with h | h <;> rw [h] <;> rfl
        generalize l[k] = a at *
        go_wp2_with (at_builtin; (refine wpList_push rfl (.tmp 20) (.tmp 26) 38 rfl w1.heap.size 5 5 (.int .u8 0) 1 1 Try.underlying38 (by kernel_rfl) rfl (by decide) _ (B.length + k) _ [.int .u8 a] rfl hownk _ rfl (by simp) rfl (by simp [Value.oneCell']) (by unfold maxLen; omega) (by omega) hbs ?_; intro v' w3 hown1 hgr; have hext1 := hext.push hownk hx.size hgr; have hs3 := hgr.size; clear hgr hownk hext))
        go_roundw
        case rel => exact ⟨k + 1, by omega, by go_num, by rw [HS.out]; simpa [Nat.add_assoc] using hown1, hext1, by omega⟩
        case measure => simp [intOf]; omega
      · obtain rfl : k = l.length := by omega
        rw [List.take_of_length_le (Nat.le_refl _)] at hownk
        have HM : Hid (l.map (fun a => Value.int .u8 a) = (l.map sigB).map byteC) := by
          rw [Hid, List.map_map]
          refine List.map_congr_left fun a ha => ?_
          rcases HG.out a ha with rfl | rfl <;> rfl
        rw [HM.out] at hownk
        obtain ⟨ro, rc, rfl, hc', hf'⟩ := own_cells hownk
        clear hownk
        go_wp2_with fail
        go_ret
        exact ⟨ro, rc, by rw [HR.out]; simp <;> rfl, by rw [HR.out]; simpa using hc', hext, hf'.mono hx.size⟩
end Go.Proofs.Ytofdkhilapmccaa
