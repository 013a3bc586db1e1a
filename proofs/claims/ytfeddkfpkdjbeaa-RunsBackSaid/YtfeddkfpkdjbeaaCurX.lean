/- The walks of package cursor's calls, and of their references. -/
import Derived.Test.YtfeddkfpkdjbeaaCurW
import Derived.Laws.DeepNot64
namespace Go.Proofs.Ytfeddkfpkdjbeaa
open Go.RowKit

/-- A number with its sign at the lowest bit, back. -/
def unfoldI (u : Nat) : Int := if u % 2 = 1 then -((u / 2 : Nat) : Int) - 1 else (u / 2 : Nat)

theorem unfold_bits {u : Nat} (hu : u < 18446744073709551616) : bits .xor .i64 ((u : Int) / 2) (wrap64 (-wrap64 (bits .and .u64 (u : Int) 1))) = unfoldI u := by
  have e1 : bits .and .u64 (u : Int) 1 = ((u % 2 : Nat) : Int) := by
    have := u64_and_nat u 1 hu (by decide)
    rw [Nat.and_one_is_mod] at this
    exact this
  have e2 : (u : Int) / 2 = ((u / 2 : Nat) : Int) := by omega
  rw [e1, e2]
  unfold unfoldI
  by_cases h : u % 2 = 1
  · rw [if_pos h, h]
    have e3 : wrap64 (-wrap64 ((1 : Nat) : Int)) = -1 := by unfold wrap64; omega
    rw [e3]
    have h2 := i64_not (u / 2) (by omega)
    have h3 : bits .xor .i64 ((u / 2 : Nat) : Int) (-1) = bits .xor .i64 (-1) ((u / 2 : Nat) : Int) := by
      show IntKind.i64.wrap ((BitVec.ofInt 64 _ ^^^ BitVec.ofInt 64 _).toNat : Int) = IntKind.i64.wrap ((BitVec.ofInt 64 _ ^^^ BitVec.ofInt 64 _).toNat : Int)
      rw [BitVec.xor_comm]
    rw [h3, h2]; omega
  · rw [if_neg h, show u % 2 = 0 by omega]
    have e3 : wrap64 (-wrap64 ((0 : Nat) : Int)) = 0 := by unfold wrap64; omega
    rw [e3]
    show IntKind.i64.wrap ((BitVec.ofInt 64 ((u / 2 : Nat) : Int) ^^^ BitVec.ofInt 64 0).toNat : Int) = _
    have : (BitVec.ofInt 64 ((u / 2 : Nat) : Int) ^^^ BitVec.ofInt 64 0) = BitVec.ofInt 64 ((u / 2 : Nat) : Int) := by
      rw [show BitVec.ofInt 64 0 = 0#64 from rfl, BitVec.xor_zero]
    rw [this, BitVec.ofInt_natCast, BitVec.toNat_ofNat, IntKind.wrap_i64]
    omega

theorem uvar_Unfold (u : Nat) (w : World) (hu : u < 18446744073709551616) : Calls Try.prog 85 #[.int .u64 u] w fun e w' => e = .returned (.int .i64 (unfoldI u)) ∧ w = w' := by
  have HU := Lib.hid (unfold_bits hu)
  go_enter Try.func85, Try.ntmps85
  go_wp2
  go_ret
  exact ⟨by rw [← HU.out] <;> rfl, rfl⟩

theorem uvarref_Unfold (u : Nat) (w : World) (hu : u < 18446744073709551616) : Calls Try.prog 101 #[.int .u64 u] w fun e w' => e = .returned (.int .i64 (unfoldI u)) ∧ w = w' := by
  by_cases h : u % 2 = 1
  · have t1 : ((u : Int) % 2 == 1) = true := by simp; omega
    have HE : Hid (unfoldI u = -((u / 2 : Nat) : Int) - 1) := by simp [Hid, unfoldI, h]
    go_enter Try.func101, Try.ntmps101
    go_wp2
    go_ret
    exact ⟨by rw [HE.out]; simp, rfl⟩
  · have t1 : ((u : Int) % 2 == 1) = false := by simp; omega
    have HE : Hid (unfoldI u = (u / 2 : Nat)) := by simp [Hid, unfoldI, h]
    go_enter Try.func101, Try.ntmps101
    go_wp2
    go_ret
    exact ⟨by rw [HE.out]; simp, rfl⟩

theorem cur_Left (g : Nat) (bs : List UInt8) (er : Int) (w : World) (h : CurAt w g bs er) :
    Calls Try.prog 59 #[.pointer (some ⟨g, 0, none⟩)] w fun e w' => e = .returned (.int .i64 (if er = 0 then bs.length else 0 : Nat)) ∧ w = w' := by
  generalize hV : (if er = 0 then bs.length else 0 : Nat) = V
  have HV := Lib.hid hV.symm
  clear hV
  have HC := Lib.hid h
  by_cases h0 : er = 0
  · subst h0
    obtain ⟨bs0, ao, cap, h, hc, hne, hcap, hbs⟩ := h
    obtain rfl := hbs rfl
    have c0 : w.cell? ⟨g, 0, none⟩ = some (.slice ao bs0.length cap) := blk h 0 rfl
    have HE : Hid (V = bs0.length) := HV.out
    clear hbs h hc hne hcap
    go_enter Try.func59, Try.ntmps59
    go_wp2_with fail
    refine (cur_Err g bs0 0 w HC.out).mono ?_
    rintro e w1 ⟨rfl, rfl⟩
    go_wp2_with fail
    go_ret
    exact ⟨by rw [HE.out] <;> rfl, rfl⟩
  · have t1 : (er != 0) = true := by simpa using h0
    have HE : Hid (V = 0) := by rw [Hid, HV.out, if_neg h0]
    clear h0 h
    go_enter Try.func59, Try.ntmps59
    go_wp2_with fail
    refine (cur_Err g bs er w HC.out).mono ?_
    rintro e w1 ⟨rfl, rfl⟩
    go_wp2_with fail
    go_ret
    exact ⟨by rw [HE.out] <;> rfl, rfl⟩

/-- What was wrong, or that bytes are left. -/
def endS (bs : List UInt8) (er : Int) : Int := if er = 0 ∧ 0 < bs.length then 4 else er

theorem cur_End (g : Nat) (bs : List UInt8) (er : Int) (w : World) (h : CurAt w g bs er) :
    Calls Try.prog 56 #[.pointer (some ⟨g, 0, none⟩)] w fun e w' => e = .returned (.int .i64 (endS bs er)) ∧ w = w' := by
  have HL := cur_Left g bs er w h
  by_cases h0 : er = 0 ∧ 0 < bs.length
  · obtain ⟨rfl, hp⟩ := h0
    have HE : Hid (endS bs 0 = 4) := by simp [Hid, endS, hp]
    rw [if_pos rfl] at HL
    have t1 : decide ((0 : Int) < bs.length) = true := decide_eq_true (by omega)
    have t2 : decide (0 < bs.length) = true := decide_eq_true (by omega)
    go_enter Try.func56, Try.ntmps56
    go_wp2_with fail
    refine HL.mono ?_
    rintro e w1 ⟨rfl, rfl⟩
    clear HL
    go_wp2_with fail
    go_ret
    exact ⟨by rw [HE.out] <;> rfl, rfl⟩
  · have HE : Hid (endS bs er = er) := by simp only [Hid, endS]; rw [if_neg h0]
    have HZ : (if er = 0 then bs.length else 0) = 0 := by split <;> omega
    rw [HZ] at HL
    clear HZ h0
    have HC := Lib.hid h
    go_enter Try.func56, Try.ntmps56
    go_wp2_with fail
    refine HL.mono ?_
    rintro e w1 ⟨rfl, rfl⟩
    clear HL
    go_wp2_with fail
    refine (cur_Err g bs er w HC.out).mono ?_
    rintro e w1 ⟨rfl, rfl⟩
    go_wp2_with fail
    go_ret
    exact ⟨by rw [HE.out] <;> rfl, rfl⟩

/-- The next number, if it is no greater than most. -/
def numS (bs : List UInt8) (er most : Int) : Nat × List UInt8 × Int :=
  if (bitsS bs er).2.2 = 0 then (if most < 0 ∨ most < (bitsS bs er).1 then (0, (bitsS bs er).2.1, 6) else bitsS bs er) else (0, (bitsS bs er).2.1, (bitsS bs er).2.2)

theorem bitsS_ok (bs : List UInt8) (er : Int) : (bitsS bs er).1 < 18446744073709551616 ∧ ((bitsS bs er).2.2 ≠ 0 → (bitsS bs er).1 = 0) ∧ (bitsS bs er).2.1.length ≤ bs.length := by
  have h := getB_ok bs
  unfold bitsS
  split
  · split
    · exact ⟨h.1, fun e => absurd rfl e, by simp⟩
    · exact ⟨by simp, fun _ => rfl, Nat.le_refl _⟩
  · exact ⟨by simp, fun _ => rfl, Nat.le_refl _⟩
theorem numS_ok (bs : List UInt8) (er most : Int) (hm : most ≤ 9223372036854775807) : (numS bs er most).1 < 9223372036854775808 ∧ ((numS bs er most).2.2 ≠ 0 → (numS bs er most).1 = 0) ∧ (numS bs er most).2.1.length ≤ bs.length := by
  obtain ⟨h1, h2, h3⟩ := bitsS_ok bs er
  unfold numS
  split
  · split
    · exact ⟨by simp, fun _ => rfl, h3⟩
    · exact ⟨by omega, h2, h3⟩
  · exact ⟨by simp, fun _ => rfl, h3⟩

set_option maxRecDepth 20000 in
theorem cur_Num (g : Nat) (bs : List UInt8) (er most : Int) (w : World) (h : CurAt w g bs er) (hl : bs.length ≤ 140737488354328) (hm1 : -9223372036854775808 ≤ most) (hm2 : most ≤ 9223372036854775807) :
    Calls Try.prog 63 #[.pointer (some ⟨g, 0, none⟩), .int .i64 most] w (Goes g (.int .i64 (numS bs er most).1) (numS bs er most).2.1 (numS bs er most).2.2 w) := by
  have HO := Lib.hid (bitsS_ok bs er)
  have HN : Hid (∀ n, n = numS bs er most → n = if (bitsS bs er).2.2 = 0 then (if most < 0 ∨ most < (bitsS bs er).1 then (0, (bitsS bs er).2.1, 6) else bitsS bs er) else (0, (bitsS bs er).2.1, (bitsS bs er).2.2)) := fun n h => h
  have HC := Lib.hid h
  clear h
  have HB := Lib.hid (cur_Bits g bs er w HC.out hl)
  generalize hV : numS bs er most = V
  have HV := Lib.hid (HN.out V hV.symm)
  clear HN hV
  generalize bitsS bs er = B at *
  go_enter Try.func63, Try.ntmps63
  go_wp2_with fail
  refine HB.out.mono ?_
  rintro e w1 ⟨rfl, hc1, hg1⟩
  have HC1 := Lib.hid hc1
  have HG1 := Lib.hid hg1
  clear hc1 hg1
  have hu := HO.out.1
  go_wp2_with fail
  refine (cur_Err g B.2.1 B.2.2 w1 HC1.out).mono ?_
  rintro e w2 ⟨rfl, rfl⟩
  by_cases h0 : B.2.2 = 0
  · have HV1 : Hid (V = if most < 0 ∨ most < B.1 then (0, B.2.1, 6) else B) := by rw [Hid, HV.out, if_pos h0]
    have t1 : (B.2.2 != 0) = false := by simpa using h0
    clear HV
    by_cases h1 : most < 0 ∨ most < B.1
    · have HV2 : Hid (V = (0, B.2.1, 6)) := by rw [Hid, HV1.out, if_pos h1]
      clear HV1
      have HF := Lib.hid (cur_Fail g B.2.1 B.2.2 6 w1 HC1.out)
      rw [show failE B.2.2 6 = 6 by simp [failE, h0]] at HF
      have hq : most < 0 ∨ (0 ≤ most ∧ most < B.1) := by omega
      clear h1 h0
      rcases hq with h1 | ⟨h1, h2⟩
      · have t2 : decide (most < 0) = true := decide_eq_true h1
        go_wp2_with fail
        refine HF.out.mono ?_
        rintro e w3 ⟨⟨v, rfl⟩, hc3, hg3⟩
        have HC3 := Lib.hid hc3
        have HG3 := Lib.hid (World.grownBy.trans HG1.out hg3)
        clear hc3 hg3
        go_wp2_with fail
        go_ret
        exact ⟨by rw [HV2.out] <;> rfl, by rw [HV2.out]; exact HC3.out, HG3.out⟩
      · have t2 : decide (most < 0) = false := decide_eq_false (by omega)
        have hw : IntKind.u64.wrap most = most := by rw [IntKind.wrap_u64]; omega
        have t3 : decide (most < (B.1 : Int)) = true := decide_eq_true h2
        go_wp2_with fail
        refine HF.out.mono ?_
        rintro e w3 ⟨⟨v, rfl⟩, hc3, hg3⟩
        have HC3 := Lib.hid hc3
        have HG3 := Lib.hid (World.grownBy.trans HG1.out hg3)
        clear hc3 hg3
        go_wp2_with fail
        go_ret
        exact ⟨by rw [HV2.out] <;> rfl, by rw [HV2.out]; exact HC3.out, HG3.out⟩
    · have HV2 : Hid (V = B) := by rw [Hid, HV1.out, if_neg h1]
      have t2 : decide (most < 0) = false := decide_eq_false (by omega)
      have hw : IntKind.u64.wrap most = most := by rw [IntKind.wrap_u64]; omega
      have t3 : decide (most < (B.1 : Int)) = false := decide_eq_false (by omega)
      have hb : (B.1 : Int) ≤ 9223372036854775807 := by omega
      clear HV1 h1 h0
      go_wp2_with fail
      go_ret
      exact ⟨by rw [HV2.out] <;> rfl, by rw [HV2.out]; exact HC1.out, HG1.out⟩
  · have HV1 : Hid (V = (0, B.2.1, B.2.2)) := by rw [Hid, HV.out, if_neg h0]
    have t1 : (B.2.2 != 0) = true := by simpa using h0
    clear HV h0
    go_wp2_with fail
    go_ret
    exact ⟨by rw [HV1.out] <;> rfl, by rw [HV1.out]; exact HC1.out, HG1.out⟩

theorem cur_Int (g : Nat) (bs : List UInt8) (er : Int) (w : World) (h : CurAt w g bs er) (hl : bs.length ≤ 140737488354328) :
    Calls Try.prog 54 #[.pointer (some ⟨g, 0, none⟩)] w (Goes g (.int .i64 (unfoldI (bitsS bs er).1)) (bitsS bs er).2.1 (bitsS bs er).2.2 w) := by
  have HO := Lib.hid (bitsS_ok bs er)
  have HB := Lib.hid (cur_Bits g bs er w h hl)
  generalize bitsS bs er = B at *
  go_enter Try.func54, Try.ntmps54
  go_wp2_with fail
  refine HB.out.mono ?_
  rintro e w1 ⟨rfl, hc1, hg1⟩
  have HC1 := Lib.hid hc1
  have HG1 := Lib.hid hg1
  clear hc1 hg1
  go_wp2_with fail
  refine (uvar_Unfold B.1 w1 HO.out.1).mono ?_
  rintro e w2 ⟨rfl, rfl⟩
  go_wp2_with fail
  go_ret
  exact ⟨rfl, HC1.out, HG1.out⟩

/-- The next byte. -/
def byteS (bs : List UInt8) (er : Int) : Nat × List UInt8 × Int := if er = 0 then octS bs else (0, bs, er)

theorem octS_lt (bs : List UInt8) : (octS bs).1 < 256 ∧ ((octS bs).2.2 ≠ 0 → (octS bs).1 = 0) := by
  cases bs with
  | nil => exact ⟨by decide, fun _ => rfl⟩
  | cons b t => exact ⟨b.toNat_lt, fun h => absurd rfl h⟩

set_option maxRecDepth 20000 in
theorem cur_Byte (g : Nat) (bs : List UInt8) (er : Int) (w : World) (h : CurAt w g bs er) (hl : bs.length ≤ 140737488354328) :
    Calls Try.prog 64 #[.pointer (some ⟨g, 0, none⟩)] w (Goes g (.int .u8 (byteS bs er).1) (byteS bs er).2.1 (byteS bs er).2.2 w) := by
  have HC := Lib.hid h
  clear h
  by_cases h0 : er = 0
  · subst h0
    have HO := octS_lt bs
    obtain ⟨h256, h2⟩ := HO
    have HV : Hid (byteS bs 0 = octS bs) := by simp [Hid, byteS]
    have HX := Lib.hid (cur_next_octet g (octS bs).1 (octS bs).1 (octS bs).2.2 (octS bs).2.1 w (by rw [Hid]; split; rfl; exact h2 ‹_›) (src_octet g bs w HC.out hl))
    clear h2
    generalize octS bs = V at *
    have hw : IntKind.u8.wrap (V.1 : Int) = V.1 := by rw [IntKind.wrap_u8]; omega
    go_enter Try.func64, Try.ntmps64
    go_wp2_with fail
    refine (cur_Err g bs 0 w HC.out).mono ?_
    rintro e w1 ⟨rfl, rfl⟩
    go_wp2_with fail
    refine HX.out.mono ?_
    rintro e w2 ⟨rfl, hc2, hg2⟩
    have HC2 := Lib.hid hc2
    have HG2 := Lib.hid hg2
    clear hc2 hg2
    go_wp2_with fail
    go_ret
    exact ⟨by rw [HV.out] <;> rfl, by rw [HV.out]; exact HC2.out, HG2.out⟩
  · have t1 : (er != 0) = true := by simpa using h0
    have HB : Hid (byteS bs er = (0, bs, er)) := by simp [Hid, byteS, h0]
    clear h0
    go_enter Try.func64, Try.ntmps64
    go_wp2_with fail
    refine (cur_Err g bs er w HC.out).mono ?_
    rintro e w1 ⟨rfl, rfl⟩
    go_wp2_with fail
    go_ret
    exact ⟨by rw [HB.out] <;> rfl, by rw [HB.out]; exact HC.out, World.grownBy.refl _ _⟩

/-- The next text. -/
def curT (bs : List UInt8) (er most : Int) : List UInt8 × List UInt8 × Int :=
  if (numS bs er most).2.2 = 0 then (if (numS bs er most).2.1.length < (numS bs er most).1 then ([], (numS bs er most).2.1, 3) else ((numS bs er most).2.1.take (numS bs er most).1, (numS bs er most).2.1.drop (numS bs er most).1, 0))
  else ([], (numS bs er most).2.1, (numS bs er most).2.2)

theorem Cells.take {w : World} {ao : Option Addr} {cs : List Value} (h : Cells w ao cs) (n : Nat) : Cells w ao (cs.take n) :=
  ⟨fun hne => h.addr (by rintro rfl; simp at hne), fun b off e j u hu => h.cell b off e j u (by
    rw [List.getElem?_take] at hu; split at hu
    · exact hu
    · cases hu)⟩

set_option maxHeartbeats 1000000 in
set_option maxRecDepth 20000 in
theorem cur_Text (g : Nat) (bs : List UInt8) (er most : Int) (w : World) (h : CurAt w g bs er) (hl : bs.length ≤ 140737488354328) (hm1 : -9223372036854775808 ≤ most) (hm2 : most ≤ 9223372036854775807) :
    Calls Try.prog 55 #[.pointer (some ⟨g, 0, none⟩), .int .i64 most] w (Goes g (.string ⟨(curT bs er most).1.toArray⟩) (curT bs er most).2.1 (curT bs er most).2.2 w) := by
  have HB := Lib.hid (cur_Num g bs er most w h hl hm1 hm2)
  have HO := Lib.hid (numS_ok bs er most hm2)
  have HN : Hid (∀ n, n = curT bs er most → n = if (numS bs er most).2.2 = 0 then (if (numS bs er most).2.1.length < (numS bs er most).1 then ([], (numS bs er most).2.1, 3) else ((numS bs er most).2.1.take (numS bs er most).1, (numS bs er most).2.1.drop (numS bs er most).1, 0)) else ([], (numS bs er most).2.1, (numS bs er most).2.2)) := fun n h => h
  generalize hV : curT bs er most = V
  have HV := Lib.hid (HN.out V hV.symm)
  clear HN hV h
  generalize numS bs er most = B at *
  go_enter Try.func55, Try.ntmps55
  go_wp2_with fail
  refine HB.out.mono ?_
  rintro e w1 ⟨rfl, hc1, hg1⟩
  have HC1 := Lib.hid hc1
  have HG1 := Lib.hid hg1
  clear hc1 hg1
  go_wp2_with fail
  refine (cur_Err g B.2.1 B.2.2 w1 HC1.out).mono ?_
  rintro e w2 ⟨rfl, rfl⟩
  by_cases h0 : B.2.2 = 0
  · have HV1 : Hid (V = if B.2.1.length < B.1 then ([], B.2.1, 3) else (B.2.1.take B.1, B.2.1.drop B.1, 0)) := by rw [Hid, HV.out, if_pos h0]
    have t1 : (B.2.2 != 0) = false := by simpa using h0
    have HC0 : Hid (CurAt w1 g B.2.1 0) := by have := HC1.out; rw [h0] at this; exact this
    clear HV HC1 h0
    have HC := HC0
    obtain ⟨bs0, ao, cap, h, hc, hne, hcap, hbs⟩ := HC0.out
    have hbs' := hbs rfl
    have c0 : w1.cell? ⟨g, 0, none⟩ = some (.slice ao bs0.length cap) := blk h 0 rfl
    have HH := Lib.hid h
    rw [← hbs'] at HV1
    have hbl : bs0.length ≤ 140737488354328 := by have := HO.out.2.2; rw [← hbs'] at this; omega
    clear hbs h hbs'
    have hu := HO.out.1
    by_cases h1 : bs0.length < B.1
    · have HV2 : Hid (V = ([], bs0, 3)) := by rw [Hid, HV1.out, if_pos h1]
      have HF := Lib.hid (cur_Fail g B.2.1 0 3 w1 HC.out)
      have t2 : decide ((bs0.length : Int) < B.1) = true := decide_eq_true (by omega)
      have t2n : decide (bs0.length < B.1) = true := decide_eq_true h1
      clear HV1 h1
      go_wp2_with fail
      refine HF.out.mono ?_
      rintro e w3 ⟨⟨v, rfl⟩, hc3, hg3⟩
      have HC3 := Lib.hid hc3
      have HG3 := Lib.hid (World.grownBy.trans HG1.out hg3)
      clear hc3 hg3
      go_wp2_with fail
      go_ret
      exact ⟨by rw [HV2.out] <;> rfl, by rw [HV2.out]; exact HC3.out.any (by decide) _, HG3.out⟩
    · have HV2 : Hid (V = (bs0.take B.1, bs0.drop B.1, 0)) := by rw [Hid, HV1.out, if_neg h1]
      have t2 : decide ((bs0.length : Int) < B.1) = false := decide_eq_false (by omega)
      have t2n : decide (bs0.length < B.1) = false := decide_eq_false h1
      have hle : B.1 ≤ bs0.length := by omega
      clear HV1 h1
      go_wp2_with fail
      refine (src_take g ao cap bs0 0 B.1 w1 HH.out hc hcap hle).mono ?_
      rintro e w2 ⟨ao2, cap2, cap3, rfl, rfl, hc2, hcap2, hb2⟩
      have hne2 : ∀ ad, ao2 = some ad → ad.block < g := fun ad e => by obtain ⟨ad', e', hb⟩ := hb2 ad e; rw [← hb]; exact hne ad' e'
      have HN : Hid (CurAt (w1.setCell ⟨g, 0, none⟩ (.slice ao2 (bs0.length - B.1) cap2)) g (bs0.drop B.1) 0) :=
        ⟨bs0.drop B.1, ao2, cap2, by rw [List.length_drop]; exact set_blk HH.out 0 _, hc2.grown (grown_set w1 g 0 _) (ltne hne2), hne2, by rw [List.length_drop]; exact hcap2, fun _ => rfl⟩
      have HG := Lib.hid (World.grownBy.trans HG1.out (grown_set w1 g 0 (.slice ao2 (bs0.length - B.1) cap2)))
      have hcw : Cells (w1.setCell ⟨g, 0, none⟩ (.slice ao2 (bs0.length - B.1) cap2)) ao ((bs0.take B.1).map byteC) := by
        rw [List.map_take]; exact (hc.grown (grown_set w1 g 0 _) (ltne hne)).take _
      generalize w1.setCell ⟨g, 0, none⟩ (.slice ao2 (bs0.length - B.1) cap2) = w2 at *
      have hcv : (convert 49 9 (.slice ao B.1 cap3)).run Try.prog w2 = .ok (.string ⟨(bs0.take B.1).toArray⟩) w2 := run_bytes_string _ (by rw [List.length_take]; omega) Try.underlying49 Try.underlying5 Try.underlying9 hcw
      clear hc2 hb2 hcap2 c0 hcw
      go_wp2_with fail
      go_ret
      exact ⟨by rw [HV2.out] <;> rfl, by rw [HV2.out]; exact HN.out, HG.out⟩
  · have HV1 : Hid (V = ([], B.2.1, B.2.2)) := by rw [Hid, HV.out, if_neg h0]
    have t1 : (B.2.2 != 0) = true := by simpa using h0
    clear HV h0
    go_wp2_with fail
    go_ret
    exact ⟨by rw [HV1.out] <;> rfl, by rw [HV1.out]; exact HC1.out, HG1.out⟩

theorem own_cap {w : World} {base : Nat} {e : TypeId} {size : Nat} {ao : Option Addr} {n m cap : Nat} {xs : List Value} (h : w.ownsRow base e size (.slice ao n cap) m xs) : m ≤ cap := by
  rcases h.2 with ⟨h1, h0⟩ | ⟨g, c, cur, h1, _, _, h2, _⟩
  · omega
  · cases h1; exact h2

set_option maxRecDepth 20000 in
theorem clone_bytes (ao : Option Addr) (cap : Nat) (bs : List UInt8) (w : World) (hc : Cells w ao (bs.map byteC)) (hl : bs.length ≤ 140737488354328) :
    Calls Try.prog 84 #[.slice ao bs.length cap] w fun e w' => ∃ ao' cap', e = .returned (.slice ao' bs.length cap') ∧ Cells w' ao' (bs.map byteC) ∧ Ext w w' ∧ Fresh w.heap.size ao' ∧ bs.length ≤ cap' ∧ (∀ ad, ao' = some ad → ad.block < w'.heap.size) := by
  cases ao with
  | none =>
    obtain rfl : bs = [] := by simpa using hc.none_nil
    have he : ∀ w : World, (binOp .eql 49 (.slice none 0 cap) (.slice none 0 0)).run Try.prog w = .ok (.bool true) w := fun _ => rfl
    go_enter Try.func84, Try.ntmps84
    go_wp2_with fail
    go_ret
    exact ⟨none, 0, rfl, Cells.nil _ _, Ext.rf _, (fun _ h => by cases h), Nat.le_refl _, (fun _ h => by cases h)⟩
  | some ad =>
    have he : ∀ w : World, (binOp .eql 49 (.slice (some ad) bs.length cap) (.slice none 0 0)).run Try.prog w = .ok (.bool false) w := fun _ => rfl
    have hx0 := (Ext.rf w).al (.cells #[] 5)
    have own0 := World.ownsRow_lit (base := w.heap.size) (e := 5) (size := 1) w #[] 0 (Nat.le_refl _) (by decide) rfl
    have hc0 := hc.ext hx0
    go_enter Try.func84, Try.ntmps84
    go_wp2_with (at_builtin; (refine wpList_appendAll rfl (.tmp 5) (.tmp 6) 49 rfl w.heap.size 5 (.int .u8 0) 1 1 Try.underlying49 (by kernel_rfl) rfl (by decide) _ 0 _ (some ad) bs.length _ (bs.map byteC) rfl own0 rfl hc0 (by simp) (by intro u hu; simp only [List.mem_map] at hu; obtain ⟨_, _, rfl⟩ := hu; rfl) (by unfold maxLen; omega) (by omega) hx0.size ?_; intro v' w1 hown1 hgr; have hext1 := hx0.push own0 (Nat.le_refl _) hgr; clear hgr own0 hx0))
    simp only [Nat.zero_add, List.nil_append] at hown1
    obtain ⟨ao', cap', rfl, hc', hf'⟩ := own_cells hown1
    go_ret
    exact ⟨ao', cap', rfl, hc', hext1, hf', own_cap hown1, fun ad e => by subst e; exact (hown1.lt _ rfl).2⟩

set_option maxRecDepth 20000 in
theorem cur_New (ao : Option Addr) (cap : Nat) (bs : List UInt8) (w : World) (hc : Cells w ao (bs.map byteC)) (hl : bs.length ≤ 140737488354328) :
    Calls Try.prog 53 #[.slice ao bs.length cap] w fun e w' => ∃ g, e = .returned (.pointer (some ⟨g, 0, none⟩)) ∧ w.heap.size ≤ g ∧ CurAt w' g bs 0 ∧ Ext w w' := by
  go_enter Try.func53, Try.ntmps53
  go_wp2_with fail
  refine (clone_bytes ao cap bs w hc hl).mono ?_
  rintro e w1 ⟨ao', cap', rfl, hc1, hx1, hf, hle, hlt⟩
  go_wp2_with fail
  go_ret
  refine ⟨w1.heap.size, rfl, hx1.size, ⟨bs, ao', cap', alloc_new w1 _, hc1.ext ((Ext.rf w1).al _), fun ad e => ?_, hle, fun _ => rfl⟩, hx1.al _⟩
  have := hlt ad e; omega
end Go.Proofs.Ytfeddkfpkdjbeaa
