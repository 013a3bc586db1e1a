/- The number that bytes begin with, plain. From the second machine to a law's walk: arguments that came in, and what is left behind. slices.Clone, as operations of the second machine. -/
import Derived.Test.YtkdnbnkbnegckaaGreatBase
import Derived.Test.YtkdnbnkbnegckaaGreatStrA
import Derived.Laws.Bits64b
import Derived.Laws.BitsAllLaws
import Derived.Test.YtkdnbnkbnegckaaGreatEvM
namespace Go.Proofs.YtkdnbnkbnegckaaGreat
open Go.RowKit

/-- The number that bytes begin with, i of them read, which came to n; how many they are; what is wrong. -/
def getG : Nat → Nat → List UInt8 → Nat × Nat × Int
  | _, _, [] => (0, 0, 3)
  | i, n, c :: cs => if i = 9 ∧ 1 < c.toNat then (0, 0, 5) else if 128 ≤ c.toNat then getG (i + 1) (n + (c.toNat - 128) * 2 ^ (7 * i)) cs
    else if c.toNat = 0 ∧ 0 < i then (0, 0, 4) else (n + c.toNat * 2 ^ (7 * i), i + 1, 0)
def getB (bs : List UInt8) : Nat × Nat × Int := getG 0 0 bs

/-- One byte: what its reading comes to. -/
theorem getB_step {bs : List UInt8} {k n : Nat} (hk : k < bs.length) (h : getB bs = getG k n (bs.drop k)) :
    (k = 9 → 1 < bs[k].toNat → getB bs = (0, 0, 5)) ∧ ((k = 9 → bs[k].toNat ≤ 1) → 128 ≤ bs[k].toNat → getB bs = getG (k + 1) (n + (bs[k].toNat - 128) * 2 ^ (7 * k)) (bs.drop (k + 1))) ∧
    ((k = 9 → bs[k].toNat ≤ 1) → bs[k].toNat < 128 → bs[k].toNat = 0 → 0 < k → getB bs = (0, 0, 4)) ∧
    ((k = 9 → bs[k].toNat ≤ 1) → bs[k].toNat < 128 → (bs[k].toNat = 0 → k = 0) → getB bs = (n + bs[k].toNat * 2 ^ (7 * k), k + 1, 0)) := by
  rw [List.drop_eq_getElem_cons hk] at h
  unfold getG at h
  refine ⟨fun h1 h2 => ?_, fun h1 h2 => ?_, fun h1 h2 h3 h4 => ?_, fun h1 h2 h3 => ?_⟩
  · rw [h, if_pos ⟨h1, h2⟩]
  · rw [h, if_neg (by omega), if_pos h2]
  · rw [h, if_neg (by omega), if_neg (by omega), if_pos ⟨h3, h4⟩]
  · rw [h, if_neg (by omega), if_neg (by omega), if_neg (by omega)]

/-- What a reading hands back is in bounds. -/
theorem getG_ok : ∀ (bs : List UInt8) (i n : Nat), i ≤ 9 → n < 2 ^ (7 * i) → (getG i n bs).1 < 18446744073709551616 ∧ (getG i n bs).2.1 ≤ i + bs.length ∧ ((getG i n bs).2.2 = 0 ∨ (getG i n bs).2.2 = 3 ∨ (getG i n bs).2.2 = 4 ∨ (getG i n bs).2.2 = 5) ∧ ((getG i n bs).2.2 ≠ 0 → (getG i n bs).1 = 0 ∧ (getG i n bs).2.1 = 0) := by
  intro bs
  induction bs with
  | nil => intro i n _ _; simp [getG]
  | cons c cs ih =>
    intro i n hi hn
    have hc : c.toNat < 256 := c.toNat_lt
    have h2 : 2 ^ (7 * (i + 1)) = 2 ^ (7 * i) * 128 := by rw [Nat.mul_add, Nat.pow_add]
    unfold getG
    by_cases h1 : i = 9 ∧ 1 < c.toNat
    · rw [if_pos h1]; simp
    · rw [if_neg h1]
      by_cases h128 : 128 ≤ c.toNat
      · rw [if_pos h128]
        obtain ⟨a1, a2, a3, a4⟩ := ih (i + 1) (n + (c.toNat - 128) * 2 ^ (7 * i)) (by omega) (by
          have : (c.toNat - 128) * 2 ^ (7 * i) ≤ 127 * 2 ^ (7 * i) := Nat.mul_le_mul_right _ (by omega)
          rw [h2]; omega)
        exact ⟨a1, by simp only [List.length_cons]; omega, a3, a4⟩
      · rw [if_neg h128]
        by_cases h0 : c.toNat = 0 ∧ 0 < i
        · rw [if_pos h0]; simp
        · rw [if_neg h0]
          refine ⟨?_, by simp only [List.length_cons]; omega, .inl rfl, fun h => absurd rfl h⟩
          show n + c.toNat * 2 ^ (7 * i) < _
          by_cases h9 : i = 9
          · subst h9
            have : c.toNat * 2 ^ (7 * 9) ≤ 1 * 2 ^ (7 * 9) := Nat.mul_le_mul_right _ (by omega)
            omega
          · have h3 : c.toNat * 2 ^ (7 * i) ≤ 127 * 2 ^ (7 * i) := Nat.mul_le_mul_right _ (by omega)
            have h4 : 2 ^ (7 * i) ≤ 2 ^ (7 * 8) := Nat.pow_le_pow_right (by decide) (by omega)
            have h5 : (2 : Nat) ^ (7 * 8) = 72057594037927936 := by decide
            omega
theorem getB_ok (bs : List UInt8) : (getB bs).1 < 18446744073709551616 ∧ (getB bs).2.1 ≤ bs.length ∧ ((getB bs).2.2 = 0 ∨ (getB bs).2.2 = 3 ∨ (getB bs).2.2 = 4 ∨ (getB bs).2.2 = 5) ∧ ((getB bs).2.2 ≠ 0 → (getB bs).1 = 0 ∧ (getB bs).2.1 = 0) := by
  have := getG_ok bs 0 0 (by decide) (by decide)
  simpa [getB] using this

theorem or_hi {n m k : Nat} (hn : n < 2 ^ k) : n ||| (m * 2 ^ k) = n + m * 2 ^ k := by
  rw [Nat.or_comm, Nat.mul_comm, ← Nat.two_pow_add_eq_or_of_lt hn, Nat.add_comm]
theorem getOr {n m k : Nat} (hn : n < 2 ^ (7 * k)) (h : n + m * 2 ^ (7 * k) < 18446744073709551616) : bits .or .u64 (n : Int) (IntKind.u64.wrap ((m : Int) * 2 ^ (7 * k))) = ((n + m * 2 ^ (7 * k) : Nat) : Int) := by
  have e : (m : Int) * 2 ^ (7 * k) = ((m * 2 ^ (7 * k) : Nat) : Int) := by simp
  have e2 : IntKind.u64.wrap ((m : Int) * 2 ^ (7 * k)) = ((m * 2 ^ (7 * k) : Nat) : Int) := by rw [e, IntKind.wrap_u64]; omega
  rw [e2, bits_or_u64_nat _ _ (by omega) (by omega), or_hi hn]
theorem and_127 : ∀ a : Nat, a < 256 → 128 ≤ a → a &&& (255 - 128) = a - 128 := by decide +kernel
theorem andNot128 {c : Nat} (h1 : 128 ≤ c) (h2 : c < 256) : IntKind.u64.wrap (bits .andNot .u8 (c : Int) 128) = ((c - 128 : Nat) : Int) := by
  have e2 : (128 : Int) = ((128 : Nat) : Int) := rfl
  rw [e2, u8_andNot_nat _ _ h2 (by decide), and_127 _ h2 h1, IntKind.wrap_u64]; omega

end Go.Proofs.YtkdnbnkbnegckaaGreat
namespace Go.Proofs.YtkdnbnkbnegckaaGreat
open Go.RowKit

abbrev W0 : Nat → Who := fun _ => .frozen
abbrev L0 : Lay := ⟨id, fun _ => undef⟩
/-- A slice that came in. -/
theorem repC_in {W : World} {sz cap : Nat} {es : List (List C)} {ao : Option Addr} {us : List Value} (h0 : 0 < sz) (hu : ∀ e ∈ es, e.length = sz) (hc : es.length ≤ cap) (hC : Cells W ao us) (hr : RepCs W W0 es.flatten us) : RepC W W0 (.fz sz es) (.slice ao es.length cap) := by
  have hne : es ≠ [] → us ≠ [] := fun he hn => by
    subst hn
    have h1 := hr.1
    rw [flatten_len es hu] at h1
    have : 0 < es.length := List.length_pos_iff.2 he
    have : 0 < es.length * sz := Nat.mul_pos this h0
    simp at h1
    omega
  exact .fz sz cap es ao us hu hc (fun he => hC.addr (hne he)) (fun b off he ha => ⟨rfl, Cells.lt (ha ▸ hC) (hne he)⟩) (fun b off ha j v hj => hC.cell b off ha j v hj) hr.1 hr.2
/-- Of elements that are scalars. -/
theorem repC_scal {W : World} {cap : Nat} {ao : Option Addr} {us : List Value} (hs : ∀ u ∈ us, scalar u = true) (hc : us.length ≤ cap) (hC : Cells W ao us) : RepC W W0 (.fz 1 (us.map fun u => [.v u])) (.slice ao us.length cap) := by
  have := repC_in (W := W) (sz := 1) (cap := cap) (es := us.map fun u => [C.v u]) (ao := ao) (us := us) (by omega) (by simp) (by simpa using hc) hC ?_
  · simpa using this
  · have hf : (us.map fun u => [C.v u]).flatten = us.map C.v := by
      clear hs hc hC
      induction us with
      | nil => rfl
      | cons u us ih => simp [ih]
    rw [hf]
    refine ⟨by simp, fun i c u h1 h2 => ?_⟩
    rw [List.getElem?_map, h2] at h1
    cases h1
    exact .v u (hs u (List.mem_of_getElem? h2))
theorem repT_c {W : World} {c : C} {v : Value} (h : RepC W W0 c v) : RepT W W0 L0 ⟨[], []⟩ ⟨.one, [.c c]⟩ v := ⟨_, rfl, h⟩
theorem repT_bytes {W : World} {cap : Nat} {ao : Option Addr} {b : List UInt8} (hC : Cells W ao (b.map byteC)) (hc : b.length ≤ cap) : RepT W W0 L0 ⟨[], []⟩ ⟨.one, [.c (.fz 1 (b.map fun n => [.v (.int .u8 n.toNat)]))]⟩ (.slice ao b.length cap) := by
  have := repC_scal (W := W) (cap := cap) (us := b.map byteC) (by intro u hu; obtain ⟨x, _, rfl⟩ := List.mem_map.1 hu; rfl) (by simpa using hc) hC
  simp only [List.map_map, List.length_map] at this
  exact repT_c this
/-- A law that holds on the second machine. -/
theorem law_of {P : Program} {A : Ann} {plans : FuncId → Nat → List (Nat × Bool)} {f : FuncId} {args : List T} {h' : Hp} {vs : Array Value} {W : World} (hB : KOk P A.base) (hP : progOk P plans = true)
    (hc : callW P A plans f args ⟨[], []⟩ = some (⟨.one, [.c (.v (.bool true))]⟩, h')) (hl : args.length = vs.size)
    (hr : ∀ (i : Nat) t v, args[i]? = some t → vs[i]? = some v → RepT W W0 L0 ⟨[], []⟩ t v) : Calls P f vs W fun e W' => e = .returned (.bool true) ∧ Ext W W' := by
  have h := (callW_ok (A := A) hB hP f args ⟨[], []⟩ _ h' hc).2 W W0 L0 vs.toList ⟨fun k xs h => by simp at h, fun r ty sz es h => by simp at h, fun r sz es h => by simp at h⟩ (by simpa using hl) (fun i t v h1 h2 => hr i t v h1 (by simpa using h2))
  refine (show Calls P f vs W _ from h).mono fun e W' ⟨v, who', L', he, hv, _, hs⟩ => ?_
  subst he
  obtain ⟨x, hx, hx2⟩ := hv
  cases hx
  have : v = .bool true := by cases hx2; rfl
  subst this
  exact ⟨rfl, hs.os, hs.tape, hs.output, hs.size, fun k hk => (hs.fro k rfl hk).1⟩

/-- What lies above the heap that was is taken for frozen. -/
def whoN (W : World) (who : Nat → Who) : Nat → Who := fun b => if b < W.heap.size then who b else .frozen
theorem ext_frozen {W W' : World} {who : Nat → Who} {L : Lay} {h : Hp} (H : HSim W who L h) (hext : Ext W W') : HSim W' (whoN W who) L h ∧ Step .no W who L h W' (whoN W who) L h := by
  have hw2 : ∀ b, b < W.heap.size → whoN W who b = who b := fun b hb => if_pos hb
  have hsame : ∀ k, k < W.heap.size → W'.heap[k]? = W.heap[k]? := fun k hk => hext.block hk
  have S2 : Step .no W who L h W' (whoN W who) L h :=
    { os := hext.b.os, tape := hext.b.tape, output := hext.b.output, size := hext.size
      fro := fun b hb hlt => ⟨hsame b hlt, (hw2 b hlt).trans hb⟩
      oth := fun b hb hlt => ⟨hsame b hlt, (hw2 b hlt).trans hb⟩
      bx := Nat.le_refl _, box := fun _ _ => rfl
      rw := Nat.le_refl _, row := fun r _ sz es he => ⟨⟨es, he, rfl⟩, rfl⟩
      keepB := fun b hlt k hb _ => ⟨hsame b hlt, (hw2 b hlt).trans hb⟩
      keepR := fun b hlt k hb _ => ⟨hsame b hlt, .inl ((hw2 b hlt).trans hb)⟩ }
  refine ⟨⟨fun k xs hk => ?_, fun r ty sz es hr => ?_, fun r sz es hr => S2.froR (H.frz r sz es hr)⟩, S2⟩
  · have hb := (H.box_lt (List.getElem?_eq_some_iff.1 hk).1).1
    exact box_same S2 H hk (hsame _ hb) (hw2 _ hb)
  · have hmu := H.mu r ty sz es hr
    exact own_same S2 hmu fun g hg => ⟨hsame g (hmu.lt hg), (hw2 g (hmu.lt hg)).trans (hmu.who g hg)⟩
end Go.Proofs.YtkdnbnkbnegckaaGreat
namespace Go.Proofs.YtkdnbnkbnegckaaGreat
open Go.RowKit

def cloneX (sz bound : Nat) (a : List T) (h : Hp) : Option (T × Hp) :=
  match a with
  | [⟨.one, [.c (.fz s es)]⟩] => if s = sz ∧ es.length ≤ bound then some (⟨.one, [.c (.fz s es)]⟩, h) else none
  | [⟨.one, [.c (.v (.slice none 0 0))]⟩] => some (⟨.one, [.c (.v (.slice none 0 0))]⟩, h)
  | _ => none
theorem own_cap {w : World} {base : Nat} {e : TypeId} {size : Nat} {ao : Option Addr} {n m cap : Nat} {xs : List Value} (h : w.ownsRow base e size (.slice ao n cap) m xs) : m ≤ cap := by
  rcases h.2 with ⟨h1, h0⟩ | ⟨g, c, cur, h1, _, _, h2, _⟩
  · omega
  · cases h1; exact h2
/-- What a slice's copy comes to. -/
def Cloned (e : Ending) (w w' : World) (ao : Option Addr) (m : Nat) (us : List Value) : Prop := ∃ ao' cap', e = .returned (.slice ao' m cap') ∧ Cells w' ao' us ∧ Ext w w' ∧ Fresh w.heap.size ao' ∧ m ≤ cap' ∧ (∀ ad, ao' = some ad → ad.block < w'.heap.size) ∧ (ao = none → ao' = none ∧ cap' = 0)
set_option maxRecDepth 20000 in
theorem clone_byte (ao : Option Addr) (cap m : Nat) (us : List Value) (w : World) (hc : Cells w ao us) (h1 : ∀ u ∈ us, u.oneCell' = true) (hm : us.length = m * 1) (hl : m ≤ 140737488351232) :
    Calls Tryz.prog 33 #[.slice ao m cap] w fun e w' => Cloned e w w' ao m us := by
  cases ao with
  | none =>
    obtain rfl : us = [] := by simpa using hc.none_nil
    obtain rfl : m = 0 := by simp at hm; omega
    have he : ∀ w : World, (binOp .eql 22 (.slice none 0 cap) (.slice none 0 0)).run Tryz.prog w = .ok (.bool true) w := fun _ => rfl
    go_enter Tryz.func33, Tryz.ntmps33
    go_wp2_with fail
    go_ret
    exact ⟨none, 0, rfl, Cells.nil _ _, Ext.rf _, (fun _ h => by cases h), Nat.le_refl _, (fun _ h => by cases h), fun _ => ⟨rfl, rfl⟩⟩
  | some ad =>
    have he : ∀ w : World, (binOp .eql 22 (.slice (some ad) m cap) (.slice none 0 0)).run Tryz.prog w = .ok (.bool false) w := fun _ => rfl
    have hx0 := (Ext.rf w).al (.cells #[] 5)
    have own0 := World.ownsRow_lit (base := w.heap.size) (e := 5) (size := 1) w #[] 0 (Nat.le_refl _) (by decide) rfl
    have hc0 := hc.ext hx0
    go_enter Tryz.func33, Tryz.ntmps33
    go_wp2_with (at_builtin; (refine wpList_appendAll rfl (.tmp 5) (.tmp 6) 22 rfl w.heap.size 5 (.int .u8 0) 1 1 Tryz.underlying22 (by kernel_rfl) rfl (by decide) _ 0 _ (some ad) m _ us rfl own0 rfl hc0 hm h1 (by unfold maxLen; omega) (by omega) hx0.size ?_; intro v' w1 hown1 hgr; have hext1 := hx0.push own0 (Nat.le_refl _) hgr; clear hgr own0 hx0))
    simp only [Nat.zero_add, List.nil_append] at hown1
    obtain ⟨ao', cap', rfl, hc', hf'⟩ := own_cells hown1
    go_ret
    exact ⟨ao', cap', rfl, hc', hext1, hf', own_cap hown1, fun ad e => by subst e; exact (hown1.lt _ rfl).2, fun h => by cases h⟩
set_option maxRecDepth 20000 in
theorem clone_Type (ao : Option Addr) (cap m : Nat) (us : List Value) (w : World) (hc : Cells w ao us) (h1 : ∀ u ∈ us, u.oneCell' = true) (hm : us.length = m * 1) (hl : m ≤ 2000000000) :
    Calls Tryz.prog 68 #[.slice ao m cap] w fun e w' => Cloned e w w' ao m us := by
  cases ao with
  | none =>
    obtain rfl : us = [] := by simpa using hc.none_nil
    obtain rfl : m = 0 := by simp at hm; omega
    have he : ∀ w : World, (binOp .eql 25 (.slice none 0 cap) (.slice none 0 0)).run Tryz.prog w = .ok (.bool true) w := fun _ => rfl
    go_enter Tryz.func68, Tryz.ntmps68
    go_wp2_with fail
    go_ret
    exact ⟨none, 0, rfl, Cells.nil _ _, Ext.rf _, (fun _ h => by cases h), Nat.le_refl _, (fun _ h => by cases h), fun _ => ⟨rfl, rfl⟩⟩
  | some ad =>
    have he : ∀ w : World, (binOp .eql 25 (.slice (some ad) m cap) (.slice none 0 0)).run Tryz.prog w = .ok (.bool false) w := fun _ => rfl
    have hx0 := (Ext.rf w).al (.cells #[] 110)
    have own0 := World.ownsRow_lit (base := w.heap.size) (e := 110) (size := 1) w #[] 0 (Nat.le_refl _) (by decide) rfl
    have hc0 := hc.ext hx0
    go_enter Tryz.func68, Tryz.ntmps68
    go_wp2_with (at_builtin; (refine wpList_appendAll rfl (.tmp 5) (.tmp 6) 25 rfl w.heap.size 110 (.int .i64 0) 1 8 Tryz.underlying25 (by kernel_rfl) rfl (by decide) _ 0 _ (some ad) m _ us rfl own0 rfl hc0 hm h1 (by unfold maxLen; omega) (by omega) hx0.size ?_; intro v' w1 hown1 hgr; have hext1 := hx0.push own0 (Nat.le_refl _) hgr; clear hgr own0 hx0))
    simp only [Nat.zero_add, List.nil_append] at hown1
    obtain ⟨ao', cap', rfl, hc', hf'⟩ := own_cells hown1
    go_ret
    exact ⟨ao', cap', rfl, hc', hext1, hf', own_cap hown1, fun ad e => by subst e; exact (hown1.lt _ rfl).2, fun h => by cases h⟩
set_option maxRecDepth 20000 in
theorem clone_Instr (ao : Option Addr) (cap m : Nat) (us : List Value) (w : World) (hc : Cells w ao us) (h1 : ∀ u ∈ us, u.oneCell' = true) (hm : us.length = m * 2) (hl : m ≤ 2000000000) :
    Calls Tryz.prog 69 #[.slice ao m cap] w fun e w' => Cloned e w w' ao m us := by
  cases ao with
  | none =>
    obtain rfl : us = [] := by simpa using hc.none_nil
    obtain rfl : m = 0 := by simp at hm; omega
    have he : ∀ w : World, (binOp .eql 26 (.slice none 0 cap) (.slice none 0 0)).run Tryz.prog w = .ok (.bool true) w := fun _ => rfl
    go_enter Tryz.func69, Tryz.ntmps69
    go_wp2_with fail
    go_ret
    exact ⟨none, 0, rfl, Cells.nil _ _, Ext.rf _, (fun _ h => by cases h), Nat.le_refl _, (fun _ h => by cases h), fun _ => ⟨rfl, rfl⟩⟩
  | some ad =>
    have he : ∀ w : World, (binOp .eql 26 (.slice (some ad) m cap) (.slice none 0 0)).run Tryz.prog w = .ok (.bool false) w := fun _ => rfl
    have hx0 := (Ext.rf w).al (.cells #[] 78)
    have own0 := World.ownsRow_lit (base := w.heap.size) (e := 78) (size := 2) w #[] 0 (Nat.le_refl _) (by decide) rfl
    have hc0 := hc.ext hx0
    go_enter Tryz.func69, Tryz.ntmps69
    go_wp2_with (at_builtin; (refine wpList_appendAll rfl (.tmp 5) (.tmp 6) 26 rfl w.heap.size 78 (.agg #[.int .i64 0, .int .i64 0]) 2 16 Tryz.underlying26 (by kernel_rfl) rfl (by decide) _ 0 _ (some ad) m _ us rfl own0 rfl hc0 hm h1 (by unfold maxLen; omega) (by omega) hx0.size ?_; intro v' w1 hown1 hgr; have hext1 := hx0.push own0 (Nat.le_refl _) hgr; clear hgr own0 hx0))
    simp only [Nat.zero_add, List.nil_append] at hown1
    obtain ⟨ao', cap', rfl, hc', hf'⟩ := own_cells hown1
    go_ret
    exact ⟨ao', cap', rfl, hc', hext1, hf', own_cap hown1, fun ad e => by subst e; exact (hown1.lt _ rfl).2, fun h => by cases h⟩
set_option maxRecDepth 20000 in
theorem clone_Int (ao : Option Addr) (cap m : Nat) (us : List Value) (w : World) (hc : Cells w ao us) (h1 : ∀ u ∈ us, u.oneCell' = true) (hm : us.length = m * 1) (hl : m ≤ 2000000000) :
    Calls Tryz.prog 70 #[.slice ao m cap] w fun e w' => Cloned e w w' ao m us := by
  cases ao with
  | none =>
    obtain rfl : us = [] := by simpa using hc.none_nil
    obtain rfl : m = 0 := by simp at hm; omega
    have he : ∀ w : World, (binOp .eql 27 (.slice none 0 cap) (.slice none 0 0)).run Tryz.prog w = .ok (.bool true) w := fun _ => rfl
    go_enter Tryz.func70, Tryz.ntmps70
    go_wp2_with fail
    go_ret
    exact ⟨none, 0, rfl, Cells.nil _ _, Ext.rf _, (fun _ h => by cases h), Nat.le_refl _, (fun _ h => by cases h), fun _ => ⟨rfl, rfl⟩⟩
  | some ad =>
    have he : ∀ w : World, (binOp .eql 27 (.slice (some ad) m cap) (.slice none 0 0)).run Tryz.prog w = .ok (.bool false) w := fun _ => rfl
    have hx0 := (Ext.rf w).al (.cells #[] 3)
    have own0 := World.ownsRow_lit (base := w.heap.size) (e := 3) (size := 1) w #[] 0 (Nat.le_refl _) (by decide) rfl
    have hc0 := hc.ext hx0
    go_enter Tryz.func70, Tryz.ntmps70
    go_wp2_with (at_builtin; (refine wpList_appendAll rfl (.tmp 5) (.tmp 6) 27 rfl w.heap.size 3 (.int .i64 0) 1 8 Tryz.underlying27 (by kernel_rfl) rfl (by decide) _ 0 _ (some ad) m _ us rfl own0 rfl hc0 hm h1 (by unfold maxLen; omega) (by omega) hx0.size ?_; intro v' w1 hown1 hgr; have hext1 := hx0.push own0 (Nat.le_refl _) hgr; clear hgr own0 hx0))
    simp only [Nat.zero_add, List.nil_append] at hown1
    obtain ⟨ao', cap', rfl, hc', hf'⟩ := own_cells hown1
    go_ret
    exact ⟨ao', cap', rfl, hc', hext1, hf', own_cap hown1, fun ad e => by subst e; exact (hown1.lt _ rfl).2, fun h => by cases h⟩
set_option maxRecDepth 20000 in
theorem clone_Node (ao : Option Addr) (cap m : Nat) (us : List Value) (w : World) (hc : Cells w ao us) (h1 : ∀ u ∈ us, u.oneCell' = true) (hm : us.length = m * 7) (hl : m ≤ 2000000000) :
    Calls Tryz.prog 71 #[.slice ao m cap] w fun e w' => Cloned e w w' ao m us := by
  cases ao with
  | none =>
    obtain rfl : us = [] := by simpa using hc.none_nil
    obtain rfl : m = 0 := by simp at hm; omega
    have he : ∀ w : World, (binOp .eql 28 (.slice none 0 cap) (.slice none 0 0)).run Tryz.prog w = .ok (.bool true) w := fun _ => rfl
    go_enter Tryz.func71, Tryz.ntmps71
    go_wp2_with fail
    go_ret
    exact ⟨none, 0, rfl, Cells.nil _ _, Ext.rf _, (fun _ h => by cases h), Nat.le_refl _, (fun _ h => by cases h), fun _ => ⟨rfl, rfl⟩⟩
  | some ad =>
    have he : ∀ w : World, (binOp .eql 28 (.slice (some ad) m cap) (.slice none 0 0)).run Tryz.prog w = .ok (.bool false) w := fun _ => rfl
    have hx0 := (Ext.rf w).al (.cells #[] 115)
    have own0 := World.ownsRow_lit (base := w.heap.size) (e := 115) (size := 7) w #[] 0 (Nat.le_refl _) (by decide) rfl
    have hc0 := hc.ext hx0
    go_enter Tryz.func71, Tryz.ntmps71
    go_wp2_with (at_builtin; (refine wpList_appendAll rfl (.tmp 5) (.tmp 6) 28 rfl w.heap.size 115 (.agg #[.int .i64 0, .int .i64 0, .int .i64 0, .int .i64 0, .int .i64 0, .int .i64 0, .int .i64 0]) 7 56 Tryz.underlying28 (by kernel_rfl) rfl (by decide) _ 0 _ (some ad) m _ us rfl own0 rfl hc0 hm h1 (by unfold maxLen; omega) (by omega) hx0.size ?_; intro v' w1 hown1 hgr; have hext1 := hx0.push own0 (Nat.le_refl _) hgr; clear hgr own0 hx0))
    simp only [Nat.zero_add, List.nil_append] at hown1
    obtain ⟨ao', cap', rfl, hc', hf'⟩ := own_cells hown1
    go_ret
    exact ⟨ao', cap', rfl, hc', hext1, hf', own_cap hown1, fun ad e => by subst e; exact (hown1.lt _ rfl).2, fun h => by cases h⟩
set_option maxRecDepth 20000 in
theorem clone_Set (ao : Option Addr) (cap m : Nat) (us : List Value) (w : World) (hc : Cells w ao us) (h1 : ∀ u ∈ us, u.oneCell' = true) (hm : us.length = m * 4) (hl : m ≤ 2000000000) :
    Calls Tryz.prog 72 #[.slice ao m cap] w fun e w' => Cloned e w w' ao m us := by
  cases ao with
  | none =>
    obtain rfl : us = [] := by simpa using hc.none_nil
    obtain rfl : m = 0 := by simp at hm; omega
    have he : ∀ w : World, (binOp .eql 29 (.slice none 0 cap) (.slice none 0 0)).run Tryz.prog w = .ok (.bool true) w := fun _ => rfl
    go_enter Tryz.func72, Tryz.ntmps72
    go_wp2_with fail
    go_ret
    exact ⟨none, 0, rfl, Cells.nil _ _, Ext.rf _, (fun _ h => by cases h), Nat.le_refl _, (fun _ h => by cases h), fun _ => ⟨rfl, rfl⟩⟩
  | some ad =>
    have he : ∀ w : World, (binOp .eql 29 (.slice (some ad) m cap) (.slice none 0 0)).run Tryz.prog w = .ok (.bool false) w := fun _ => rfl
    have hx0 := (Ext.rf w).al (.cells #[] 118)
    have own0 := World.ownsRow_lit (base := w.heap.size) (e := 118) (size := 4) w #[] 0 (Nat.le_refl _) (by decide) rfl
    have hc0 := hc.ext hx0
    go_enter Tryz.func72, Tryz.ntmps72
    go_wp2_with (at_builtin; (refine wpList_appendAll rfl (.tmp 5) (.tmp 6) 29 rfl w.heap.size 118 (.agg #[.int .u64 0, .int .u64 0, .int .u64 0, .int .u64 0]) 4 32 Tryz.underlying29 (by kernel_rfl) rfl (by decide) _ 0 _ (some ad) m _ us rfl own0 rfl hc0 hm h1 (by unfold maxLen; omega) (by omega) hx0.size ?_; intro v' w1 hown1 hgr; have hext1 := hx0.push own0 (Nat.le_refl _) hgr; clear hgr own0 hx0))
    simp only [Nat.zero_add, List.nil_append] at hown1
    obtain ⟨ao', cap', rfl, hc', hf'⟩ := own_cells hown1
    go_ret
    exact ⟨ao', cap', rfl, hc', hext1, hf', own_cap hown1, fun ad e => by subst e; exact (hown1.lt _ rfl).2, fun h => by cases h⟩
/-- One more function that is an operation. -/
theorem KOk.more {P : Program} {f0 : FuncId} {g : List T → Hp → Option (T × Hp)} {K : CallFn} (h0 : KOk P fun f a h => if f = f0 then g a h else none) (hK : KOk P K) : KOk P fun f a h => if f = f0 then g a h else K f a h := fun f a h res h' hc => by
  simp only at hc
  by_cases hf : f = f0
  · rw [if_pos hf] at hc
    exact h0 f a h res h' (by simp only; rw [if_pos hf]; exact hc)
  · rw [if_neg hf] at hc
    exact hK f a h res h' hc
theorem clone_ok {P : Program} {f0 : FuncId} {sz bd : Nat} (h0 : 0 < sz) (hf : ∃ fn, P.funcs[f0]? = some fn ∧ fn.body.isSome = true ∧ (fn.name == "runtime.NumGoroutine") = false)
    (hC : ∀ (ao : Option Addr) (cap m : Nat) (us : List Value) (w : World), Cells w ao us → (∀ u ∈ us, u.oneCell' = true) → us.length = m * sz → m ≤ bd → Calls P f0 #[.slice ao m cap] w fun e w' => Cloned e w w' ao m us) :
    KOk P fun f a h => if f = f0 then cloneX sz bd a h else none := fun f a h res h' hc => by
  simp only at hc
  split at hc
  case isFalse => cases hc
  rename_i hf2
  subst hf2
  refine ⟨hf, fun W who L vs H hl R => ?_⟩
  unfold cloneX at hc
  split at hc
  · rename_i s es
    split at hc
    case isFalse => cases hc
    rename_i hle
    obtain ⟨rfl, hle⟩ := hle
    cases hc
    obtain ⟨v, rfl⟩ : ∃ v, vs = [v] := by
      match vs, hl with
      | [v], _ => exact ⟨v, rfl⟩
    obtain ⟨x, hx, hr⟩ := R 0 _ v rfl rfl
    cases hx
    cases hr with
    | fz _ cap _ ao us hu hcap ha hw hrg hlen hrep =>
      have hC1 : Cells W ao us := ⟨fun hne => ha (fun e0 => hne (by subst e0; simpa using hlen.symm)), fun b off e j u hj => hrg b off e j u hj⟩
      have hul : us.length = es.length * s := by rw [← hlen, flatten_len es hu]
      have hus : RepCs W who es.flatten us := ⟨hlen, hrep⟩
      refine (hC ao cap es.length us W hC1 hus.one hul hle).mono fun e W' ⟨ao', cap', he, hC', hx, hfr, hcap', hlt, _⟩ => ?_
      obtain ⟨H', S'⟩ := ext_frozen H hx
      refine ⟨_, _, L, he, ⟨_, rfl, ?_⟩, H', S'.any⟩
      have hne : es ≠ [] → us ≠ [] := fun h1 e0 => h1 (List.eq_nil_of_length_eq_zero (by
        subst e0
        rcases Nat.mul_eq_zero.1 hul.symm with h | h
        · exact h
        · omega))
      refine .fz s cap' es ao' us hu hcap' (fun h0 => hC'.addr (hne h0)) (fun b off h0 e => ?_) (fun b off e j u hj => hC'.cell b off e j u hj) hlen (fun i c u h1 h2 => S'.repC (hrep i c u h1 h2))
      have hb := hlt _ e
      have hb2 := hfr _ e
      exact ⟨if_neg (by simp only at hb2; omega), hb⟩
  · cases hc
    obtain ⟨v, rfl⟩ : ∃ v, vs = [v] := by
      match vs, hl with
      | [v], _ => exact ⟨v, rfl⟩
    obtain ⟨x, hx, hr⟩ := R 0 _ v rfl rfl
    cases hx
    cases hr
    refine (hC none 0 0 [] W (Cells.nil _ _) (by simp) (by simp) (by omega)).mono fun e W' ⟨ao', cap', he, hC', hx, hfr, hcap', hlt, hn⟩ => ?_
    obtain ⟨rfl, rfl⟩ := hn rfl
    obtain ⟨H', S'⟩ := ext_frozen H hx
    exact ⟨_, _, L, he, ⟨_, rfl, .v _ rfl⟩, H', S'.any⟩
  · cases hc
theorem KOk.none {P : Program} : KOk P fun _ _ _ => none := fun f a h res h' hc => by cases hc
def baseC : CallFn := fun f a h =>
  if f = 33 then cloneX 1 140737488351232 a h else
  if f = 68 then cloneX 1 2000000000 a h else
  if f = 69 then cloneX 2 2000000000 a h else
  if f = 70 then cloneX 1 2000000000 a h else
  if f = 71 then cloneX 7 2000000000 a h else
  if f = 72 then cloneX 4 2000000000 a h else
  none
theorem baseC_ok : KOk Tryz.prog baseC :=
  .more (clone_ok (by decide) ⟨_, Tryz.func33, by kernel_rfl, by kernel_rfl⟩ fun ao cap m us w h1 h2 h3 h4 => clone_byte ao cap m us w h1 h2 h3 h4) <|
  .more (clone_ok (by decide) ⟨_, Tryz.func68, by kernel_rfl, by kernel_rfl⟩ fun ao cap m us w h1 h2 h3 h4 => clone_Type ao cap m us w h1 h2 h3 h4) <|
  .more (clone_ok (by decide) ⟨_, Tryz.func69, by kernel_rfl, by kernel_rfl⟩ fun ao cap m us w h1 h2 h3 h4 => clone_Instr ao cap m us w h1 h2 h3 h4) <|
  .more (clone_ok (by decide) ⟨_, Tryz.func70, by kernel_rfl, by kernel_rfl⟩ fun ao cap m us w h1 h2 h3 h4 => clone_Int ao cap m us w h1 h2 h3 h4) <|
  .more (clone_ok (by decide) ⟨_, Tryz.func71, by kernel_rfl, by kernel_rfl⟩ fun ao cap m us w h1 h2 h3 h4 => clone_Node ao cap m us w h1 h2 h3 h4) <|
  .more (clone_ok (by decide) ⟨_, Tryz.func72, by kernel_rfl, by kernel_rfl⟩ fun ao cap m us w h1 h2 h3 h4 => clone_Set ao cap m us w h1 h2 h3 h4) <|
  .none
end Go.Proofs.YtkdnbnkbnegckaaGreat
