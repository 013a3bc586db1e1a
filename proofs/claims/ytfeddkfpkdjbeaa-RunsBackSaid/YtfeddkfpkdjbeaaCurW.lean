/- The walks of package cursor's methods. -/
import Derived.Test.YtfeddkfpkdjbeaaUvarG
namespace Go.Proofs.Ytfeddkfpkdjbeaa
open Go.RowKit

/-- A cursor's three cells. -/
def CurO (ao : Option Addr) (n cap : Nat) (er : Int) : Obj := .cells #[.slice ao n cap, .bool true, .int .i64 er] 94 (0, 0)

/-- At g lies a cursor ahead of bs, whose first error is er (0: none; else the bytes do not matter). -/
def CurAt (W : World) (g : Nat) (bs : List UInt8) (er : Int) : Prop :=
  ∃ bs0 ao cap, W.heap[g]? = some (CurO ao bs0.length cap er) ∧ Cells W ao (bs0.map byteC) ∧ (∀ ad, ao = some ad → ad.block < g) ∧ bs0.length ≤ cap ∧ (er = 0 → bs0 = bs)

theorem ltne {ao : Option Addr} {g : Nat} (h : ∀ ad, ao = some ad → ad.block < g) : ∀ ad, ao = some ad → ad.block ≠ g := fun ad e => Nat.ne_of_lt (h ad e)
theorem frozen_blk {W : World} {g : Nat} {cs : Array Value} {t : TypeId} (h : W.heap[g]? = some (.cells cs t (0, 0))) (j : Nat) : W.frozen? ⟨g, j, none⟩ = false := by simp [World.frozen?, h]
theorem set_blk {W : World} {g : Nat} {cs : Array Value} {t : TypeId} {fz : Nat × Nat} (h : W.heap[g]? = some (.cells cs t fz)) (j : Nat) (v : Value) : (W.setCell ⟨g, j, none⟩ v).heap[g]? = some (.cells (cs.setIfInBounds j v) t fz) := by
  obtain ⟨hlt, hk⟩ := Array.getElem?_eq_some_iff.1 h
  show (W.heap.modify g _)[g]? = _
  rw [Array.getElem?_eq_getElem (by rw [Array.size_modify]; exact hlt), Array.getElem_modify_self, hk]
  rfl
theorem Cells.grown {w w' : World} {ao : Option Addr} {cs : List Value} {g : Nat} (h : Cells w ao cs) (hg : w.grownBy w' (some g)) (hne : ∀ ad, ao = some ad → ad.block ≠ g) : Cells w' ao cs :=
  ⟨h.addr, fun b off e j u hu => hg.cell (h.cell b off e j u hu) (fun e2 => hne _ e (by cases e2; rfl))⟩

theorem grown_set (w : World) (g j : Nat) (v : Value) : w.grownBy (w.setCell ⟨g, j, none⟩ v) (some g) :=
  ⟨rfl, rfl, rfl, by simp [World.setCell], fun k _ hk => Below.heap_setCell _ _ _ k (fun e => hk (by rw [e]))⟩
theorem Ext.grow {a b : World} (h : Ext a b) (g : Nat) : a.grownBy b (some g) := ⟨h.b.os, h.b.tape, h.b.output, h.size, fun k hk _ => h.block hk⟩
theorem addr_add (b off n : Nat) : (⟨b, off, none⟩ : Addr).add n = ⟨b, off + n, none⟩ := by
  unfold Addr.add; split <;> simp_all
theorem addr_add_block (ad : Addr) (n : Nat) : (ad.add n).block = ad.block := by
  unfold Addr.add; split <;> rfl
theorem Cells.drop {w : World} {ao : Option Addr} {cs : List Value} (h : Cells w ao cs) (n : Nat) : Cells w (ao.map fun x => x.add n) (cs.drop n) := by
  refine ⟨fun hne => ?_, fun b off e j u hu => ?_⟩
  · obtain ⟨b, off, rfl⟩ := h.addr (by rintro rfl; simp at hne)
    exact ⟨b, off + n, by simp [addr_add]⟩
  · cases ao with
    | none => simp at e
    | some ad =>
      rw [List.getElem?_drop] at hu
      by_cases hne : cs = []
      · subst hne; simp at hu
      obtain ⟨b', off', e'⟩ := h.addr hne
      simp only [Option.some.injEq] at e'
      subst e'
      simp only [Option.map_some, Option.some.injEq, addr_add, Addr.mk.injEq] at e
      obtain ⟨rfl, rfl, -⟩ := e
      have := h.cell _ _ rfl (n + j) u hu
      rw [Nat.add_assoc]
      exact this

set_option maxRecDepth 20000 in
theorem src_take (g : Nat) (ao : Option Addr) (cap : Nat) (bs0 : List UInt8) (er : Int) (n : Nat) (w : World) (h : w.heap[g]? = some (CurO ao bs0.length cap er)) (hc : Cells w ao (bs0.map byteC)) (hcap : bs0.length ≤ cap) (hn : n ≤ bs0.length) :
    Calls Try.prog 86 #[.pointer (some ⟨g, 0, none⟩), .int .i64 n] w fun e w' => ∃ ao2 cap2 cap3, e = .returned (.slice ao n cap3) ∧ w' = w.setCell ⟨g, 0, none⟩ (.slice ao2 (bs0.length - n) cap2) ∧
      Cells w ao2 ((bs0.drop n).map byteC) ∧ bs0.length - n ≤ cap2 ∧ (∀ ad, ao2 = some ad → ∃ ad', ao = some ad' ∧ ad'.block = ad.block) := by
  have c0 : w.cell? ⟨g, 0, none⟩ = some (.slice ao bs0.length cap) := blk h 0 rfl
  have f0 := frozen_blk h 0
  go_enter Try.func86, Try.ntmps86
  by_cases hcn : cap = n
  · subst hcn
    obtain hz : bs0.length - cap = 0 := by omega
    go_wp2
    go_ret
    refine ⟨ao, 0, cap, rfl, by rw [hz], ?_, by omega, fun ad e => ⟨ad, e, rfl⟩⟩
    rw [List.drop_of_length_le (by omega)]
    exact Cells.nil _ _
  · go_wp2
    go_ret
    exact ⟨_, _, cap, rfl, rfl, by rw [List.map_drop]; exact hc.drop n, by omega, fun ad e => by
      cases ao with
      | none => simp at e
      | some ad' => simp only [Option.map_some, Option.some.injEq] at e; subst e; exact ⟨ad', rfl, (addr_add_block _ _).symm⟩⟩

/-- A method of the cursor at g comes back: what it hands back, what the cursor is ahead of, its first error. -/
def Goes (g : Nat) (v : Value) (bs : List UInt8) (er : Int) (w : World) (e : Ending) (w' : World) : Prop := e = .returned v ∧ CurAt w' g bs er ∧ w.grownBy w' (some g)

theorem CurAt.lt {W : World} {g : Nat} {bs : List UInt8} {er : Int} (h : CurAt W g bs er) : g < W.heap.size := by
  obtain ⟨_, _, _, h, _⟩ := h; exact (Array.getElem?_eq_some_iff.1 h).1

theorem cur_Err (g : Nat) (bs : List UInt8) (er : Int) (w : World) (h : CurAt w g bs er) :
    Calls Try.prog 58 #[.pointer (some ⟨g, 0, none⟩)] w fun e w' => e = .returned (.int .i64 er) ∧ w = w' := by
  obtain ⟨bs0, ao, cap, h, hc, hne, hcap, hbs⟩ := h
  have c1 : w.cell? ⟨g, 1, none⟩ = some (.bool true) := blk h 1 rfl
  have c2 : w.cell? ⟨g, 2, none⟩ = some (.int .i64 er) := blk h 2 rfl
  clear hbs h hc hne hcap
  go_enter Try.func58, Try.ntmps58
  go_wp2
  go_ret
  exact ⟨rfl, rfl⟩

/-- The first error, when e comes up. -/
def failE (er e : Int) : Int := if er = 0 then e else er

theorem cur_Fail (g : Nat) (bs : List UInt8) (er e2 : Int) (w : World) (h : CurAt w g bs er) :
    Calls Try.prog 62 #[.pointer (some ⟨g, 0, none⟩), .int .i64 e2] w fun e w' => (∃ v, e = .returned v) ∧ CurAt w' g bs (failE er e2) ∧ w.grownBy w' (some g) := by
  have H := Lib.hid h
  by_cases h0 : er = 0
  · subst h0
    obtain ⟨bs0, ao, cap, h, hc, hne, hcap, hbs⟩ := h
    have c2 : w.cell? ⟨g, 2, none⟩ = some (.int .i64 0) := blk h 2 rfl
    have f2 := frozen_blk h 2
    have hs := set_blk h 2 (.int .i64 e2)
    have HN : Hid (CurAt (w.setCell ⟨g, 2, none⟩ (.int .i64 e2)) g bs (failE 0 e2)) :=
      ⟨bs0, ao, cap, hs, hc.grown (grown_set w g 2 _) (ltne hne), hne, hcap, fun _ => hbs rfl⟩
    clear hbs h hs
    go_enter Try.func62, Try.ntmps62
    go_wp2_with fail
    refine (cur_Err g bs 0 w H.out).mono ?_
    rintro e w1 ⟨rfl, rfl⟩
    go_wp2_with fail
    go_end0
    exact ⟨⟨_, rfl⟩, HN.out, grown_set w g 2 _⟩
  · have t1 : (er == 0) = false := by simpa using h0
    have HE : Hid (failE er e2 = er) := by simp [Hid, failE, h0]
    clear h h0
    go_enter Try.func62, Try.ntmps62
    go_wp2_with fail
    refine (cur_Err g bs er w H.out).mono ?_
    rintro e w1 ⟨rfl, rfl⟩
    go_wp2_with fail
    go_end0
    exact ⟨⟨_, rfl⟩, by rw [HE.out]; exact H.out, World.grownBy.refl _ _⟩

set_option maxRecDepth 20000 in
theorem src_number (g : Nat) (bs : List UInt8) (w : World) (h : CurAt w g bs 0) (hl : bs.length ≤ 140737488354328) :
    Calls Try.prog 95 #[.pointer (some ⟨g, 0, none⟩)] w (Goes g (.tuple #[.int .u64 (getB bs).1, .int .i64 (getB bs).2.2]) (bs.drop (getB bs).2.1) 0 w) := by
  obtain ⟨bs0, ao, cap, h, hc, hne, hcap, hbs⟩ := h
  obtain rfl := hbs rfl
  clear hbs
  have c0 : w.cell? ⟨g, 0, none⟩ = some (.slice ao bs0.length cap) := blk h 0 rfl
  have HH := Lib.hid h
  have HO := Lib.hid (getB_ok bs0)
  clear h
  go_enter Try.func95, Try.ntmps95
  go_wp2_with fail
  refine (uvar_Get ao cap bs0 w hc hl).mono ?_
  rintro e w1 ⟨rfl, hx⟩
  have HH1 := Lib.hid (hx.blk HH.out)
  have hn := HO.out.2.1
  generalize hG : getB bs0 = G at *
  clear hG
  go_wp2_with fail
  refine (src_take g ao cap bs0 0 G.2.1 w1 HH1.out (hc.ext hx) hcap hn).mono ?_
  rintro e w2 ⟨ao2, cap2, cap3, rfl, rfl, hc2, hcap2, hb2⟩
  have hs := set_blk HH1.out 0 (.slice ao2 (bs0.length - G.2.1) cap2)
  have hne2 : ∀ ad, ao2 = some ad → ad.block < g := fun ad e => by obtain ⟨ad', e', hb⟩ := hb2 ad e; rw [← hb]; exact hne ad' e'
  have HN : Hid (CurAt (w1.setCell ⟨g, 0, none⟩ (.slice ao2 (bs0.length - G.2.1) cap2)) g (bs0.drop G.2.1) 0) :=
    ⟨bs0.drop G.2.1, ao2, cap2, by rw [List.length_drop]; exact hs, hc2.grown (grown_set w1 g 0 _) (ltne hne2), hne2, by rw [List.length_drop]; exact hcap2, fun _ => rfl⟩
  have hg2 := (World.grownBy.trans (hx.grow g) (grown_set w1 g 0 (.slice ao2 (bs0.length - G.2.1) cap2)))
  have HG := Lib.hid hg2
  clear hs hc2 hb2 hcap2 hg2
  go_wp2_with fail
  go_ret2
  exact ⟨rfl, HN.out, HG.out⟩

def octS : List UInt8 → Nat × List UInt8 × Int
  | [] => (0, [], 3)
  | b :: t => (b.toNat, t, 0)

set_option maxRecDepth 20000 in
theorem src_octet (g : Nat) (bs : List UInt8) (w : World) (h : CurAt w g bs 0) (hl : bs.length ≤ 140737488354328) :
    Calls Try.prog 93 #[.pointer (some ⟨g, 0, none⟩)] w (Goes g (.tuple #[.int .u64 (octS bs).1, .int .i64 (octS bs).2.2]) (octS bs).2.1 0 w) := by
  have HC := Lib.hid h
  obtain ⟨bs0, ao, cap, h, hc, hne, hcap, hbs⟩ := h
  obtain rfl := hbs rfl
  clear hbs
  have c0 : w.cell? ⟨g, 0, none⟩ = some (.slice ao bs0.length cap) := blk h 0 rfl
  have HH := Lib.hid h
  clear h
  cases bs0 with
  | nil =>
    go_enter Try.func93, Try.ntmps93
    go_wp2_with fail
    go_ret2
    exact ⟨rfl, HC.out, World.grownBy.refl _ _⟩
  | cons b t =>
    have t1 : (((b :: t).length : Int) == 0) = false := by simp; omega
    have t2 : ((b :: t).length == 0) = false := by simp
    obtain ⟨bk, off, rfl, d0⟩ := hc.at (k := 0) (by simp)
    have hbg := Nat.ne_of_lt (hne _ rfl)
    simp only [List.map_cons, List.getElem_cons_zero, byteC, Nat.add_zero] at d0
    have hw : IntKind.u64.wrap (b.toNat : Int) = b.toNat := by have := b.toNat_lt; rw [IntKind.wrap_u64]; omega
    have hs := set_blk HH.out 0
    go_enter Try.func93, Try.ntmps93
    go_wp2_with fail
    refine (src_take g _ cap (b :: t) 0 1 w HH.out hc hcap (by simp)).mono ?_
    rintro e w2 ⟨ao2, cap2, cap3, rfl, rfl, hc2, hcap2, hb2⟩
    have d1 : (w.setCell ⟨g, 0, none⟩ (.slice ao2 ((b :: t).length - 1) cap2)).cell? ⟨bk, off, none⟩ = some (.int .u8 b.toNat) :=
      (grown_set w g 0 _).cell d0 (fun e => hbg (by cases e; rfl))
    have hne2 : ∀ ad, ao2 = some ad → ad.block < g := fun ad e => by obtain ⟨ad', e', hb⟩ := hb2 ad e; rw [← hb]; exact hne ad' e'
    have HN : Hid (CurAt (w.setCell ⟨g, 0, none⟩ (.slice ao2 ((b :: t).length - 1) cap2)) g t 0) :=
      ⟨t, ao2, cap2, set_blk HH.out 0 _, by simpa using hc2.grown (grown_set w g 0 _) (ltne hne2), hne2, by simpa using hcap2, fun _ => rfl⟩
    have HG := Lib.hid (grown_set w g 0 (.slice ao2 ((b :: t).length - 1) cap2))
    generalize w.setCell ⟨g, 0, none⟩ (.slice ao2 ((b :: t).length - 1) cap2) = w2 at *
    clear hs hc2 hb2 hcap2 d0 c0
    go_wp2_with fail
    go_ret2
    exact ⟨rfl, HN.out, HG.out⟩


set_option maxRecDepth 20000 in
theorem cur_next_number (g u val : Nat) (e2 : Int) (bs2 : List UInt8) (w : World) (HV : Hid (val = if e2 = 0 then u else 0)) (H : Calls Try.prog 95 #[.pointer (some ⟨g, 0, none⟩)] w (Goes g (.tuple #[.int .u64 u, .int .i64 e2]) bs2 0 w)) :
    Calls Try.prog 94 #[.pointer (some ⟨g, 0, none⟩), .func (.func 95) #[.pointer (some ⟨g, 0, none⟩)] #[]] w (Goes g (.int .u64 val) bs2 e2 w) := by
  go_enter Try.func94, Try.ntmps94
  go_wp2_with fail
  refine H.mono ?_
  rintro e w1 ⟨rfl, hc1, hg1⟩
  have HC := Lib.hid hc1
  have HG := Lib.hid hg1
  clear hc1 hg1 H
  by_cases h0 : e2 = 0
  · subst h0
    have HE : Hid (val = u) := HV.out
    go_wp2_with fail
    go_ret
    exact ⟨by rw [HE.out] <;> rfl, HC.out, HG.out⟩
  · have t1 : (e2 != 0) = true := by simpa using h0
    have HE : Hid (val = 0) := by rw [Hid, HV.out, if_neg h0]
    clear h0
    go_wp2_with fail
    refine (cur_Fail g bs2 0 e2 w1 HC.out).mono ?_
    rintro e w2 ⟨⟨v, rfl⟩, hc2, hg2⟩
    have HC2 := Lib.hid hc2
    have HG2 := Lib.hid (World.grownBy.trans HG.out hg2)
    clear hc2 hg2
    go_wp2_with fail
    go_ret
    exact ⟨by rw [HE.out] <;> rfl, HC2.out, HG2.out⟩


set_option maxRecDepth 20000 in
theorem cur_next_octet (g u val : Nat) (e2 : Int) (bs2 : List UInt8) (w : World) (HV : Hid (val = if e2 = 0 then u else 0)) (H : Calls Try.prog 93 #[.pointer (some ⟨g, 0, none⟩)] w (Goes g (.tuple #[.int .u64 u, .int .i64 e2]) bs2 0 w)) :
    Calls Try.prog 94 #[.pointer (some ⟨g, 0, none⟩), .func (.func 93) #[.pointer (some ⟨g, 0, none⟩)] #[]] w (Goes g (.int .u64 val) bs2 e2 w) := by
  go_enter Try.func94, Try.ntmps94
  go_wp2_with fail
  refine H.mono ?_
  rintro e w1 ⟨rfl, hc1, hg1⟩
  have HC := Lib.hid hc1
  have HG := Lib.hid hg1
  clear hc1 hg1 H
  by_cases h0 : e2 = 0
  · subst h0
    have HE : Hid (val = u) := HV.out
    go_wp2_with fail
    go_ret
    exact ⟨by rw [HE.out] <;> rfl, HC.out, HG.out⟩
  · have t1 : (e2 != 0) = true := by simpa using h0
    have HE : Hid (val = 0) := by rw [Hid, HV.out, if_neg h0]
    clear h0
    go_wp2_with fail
    refine (cur_Fail g bs2 0 e2 w1 HC.out).mono ?_
    rintro e w2 ⟨⟨v, rfl⟩, hc2, hg2⟩
    have HC2 := Lib.hid hc2
    have HG2 := Lib.hid (World.grownBy.trans HG.out hg2)
    clear hc2 hg2
    go_wp2_with fail
    go_ret
    exact ⟨by rw [HE.out] <;> rfl, HC2.out, HG2.out⟩


theorem CurAt.any {W : World} {g : Nat} {bs : List UInt8} {er : Int} (h : CurAt W g bs er) (h0 : er ≠ 0) (bs' : List UInt8) : CurAt W g bs' er := by
  obtain ⟨bs0, ao, cap, h1, h2, h3, h4, h5⟩ := h
  exact ⟨bs0, ao, cap, h1, h2, h3, h4, fun e => absurd e h0⟩

/-- The next number: what it is, what is left, the first error. -/
def bitsS (bs : List UInt8) (er : Int) : Nat × List UInt8 × Int :=
  if er = 0 then (if (getB bs).2.2 = 0 then ((getB bs).1, bs.drop (getB bs).2.1, 0) else (0, bs, (getB bs).2.2)) else (0, bs, er)

set_option maxRecDepth 20000 in
theorem cur_Bits (g : Nat) (bs : List UInt8) (er : Int) (w : World) (h : CurAt w g bs er) (hl : bs.length ≤ 140737488354328) :
    Calls Try.prog 65 #[.pointer (some ⟨g, 0, none⟩)] w (Goes g (.int .u64 (bitsS bs er).1) (bitsS bs er).2.1 (bitsS bs er).2.2 w) := by
  have HC := Lib.hid h
  clear h
  by_cases h0 : er = 0
  · subst h0
    go_enter Try.func65, Try.ntmps65
    go_wp2_with fail
    refine (cur_Err g bs 0 w HC.out).mono ?_
    rintro e w1 ⟨rfl, rfl⟩
    go_wp2_with fail
    refine (cur_next_number g _ (bitsS bs 0).1 _ _ w (by unfold bitsS Hid; rw [if_pos rfl]; split <;> rfl) (src_number g bs w HC.out hl)).mono ?_
    rintro e w2 ⟨rfl, hc2, hg2⟩
    have HC2 := Lib.hid hc2
    have HG2 := Lib.hid hg2
    have HB : Hid ((bitsS bs 0).2.2 = (getB bs).2.2) := by
      unfold bitsS Hid; rw [if_pos rfl]; by_cases h : (getB bs).2.2 = 0 <;> simp [h]
    have HN : Hid (CurAt w2 g (bitsS bs 0).2.1 (getB bs).2.2) := by
      by_cases h : (getB bs).2.2 = 0
      · have : (bitsS bs 0).2.1 = bs.drop (getB bs).2.1 := by simp [bitsS, h]
        rw [this]; exact HC2.out
      · exact HC2.out.any h _
    clear hc2 hg2
    go_wp2_with fail
    go_ret
    exact ⟨rfl, by rw [HB.out]; exact HN.out, HG2.out⟩
  · have t1 : (er != 0) = true := by simpa using h0
    have HB : Hid (bitsS bs er = (0, bs, er)) := by simp [Hid, bitsS, h0]
    clear h0
    go_enter Try.func65, Try.ntmps65
    go_wp2_with fail
    refine (cur_Err g bs er w HC.out).mono ?_
    rintro e w1 ⟨rfl, rfl⟩
    go_wp2_with fail
    go_ret
    exact ⟨by rw [HB.out] <;> rfl, by rw [HB.out]; exact HC.out, World.grownBy.refl _ _⟩
end Go.Proofs.Ytfeddkfpkdjbeaa
