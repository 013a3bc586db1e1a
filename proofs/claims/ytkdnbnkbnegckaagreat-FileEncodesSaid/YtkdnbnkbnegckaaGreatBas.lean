/- slices.Clone, as operations of the second machine. Whether no name stands twice: names.Unlike, by a map that counts. names.Unlike, as an operation of the second machine; all operations. -/
import Derived.Test.YtkdnbnkbnegckaaGreatEvQ
import Derived.Test.YtkdnbnkbnegckaaGreatBase
import Derived.Test.YtkdnbnkbnegckaaGreatStrA
import Derived.Maps.OwnSet
import Derived.Maps.OwnOps
import Derived.WalkKit
import Derived.StringKeys
namespace Go.Proofs.YtkdnbnkbnegckaaGreat
open Go.RowKit

def cloneX (sz bound : Nat) (a : List T) (h : Hp) : Option (T × Hp) :=
  match a with
  | [⟨.one, [.c (.fz s es)]⟩] => if s = sz ∧ es.length ≤ bound then some (⟨.one, [.c (.fz s es)]⟩, h) else none
  | [⟨.one, [.c (.v (.slice none 0 0))]⟩] => some (⟨.one, [.c (.v (.slice none 0 0))]⟩, h)
  | _ => none
theorem own_cap {w : World} {base : Nat} {e : TypeId} {size : Nat} {ao : Option Addr} {n m cap : Nat} {xs : List Value} (h : w.ownsRow base e size (.slice ao n cap) m xs) : m ≤ cap := by
  rcases h.2 with ⟨h1, h0⟩ | ⟨g, c, cur, h1, _, _, h2, _⟩
  · omega
  · cases h1; exact h2
/-- What a slice's copy comes to. -/
def Cloned (e : Ending) (w w' : World) (ao : Option Addr) (m : Nat) (us : List Value) : Prop := ∃ ao' cap', e = .returned (.slice ao' m cap') ∧ Cells w' ao' us ∧ Ext w w' ∧ Fresh w.heap.size ao' ∧ m ≤ cap' ∧ (∀ ad, ao' = some ad → ad.block < w'.heap.size) ∧ (ao = none → ao' = none ∧ cap' = 0)
set_option maxRecDepth 20000 in
theorem clone_byte (ao : Option Addr) (cap m : Nat) (us : List Value) (w : World) (hc : Cells w ao us) (h1 : ∀ u ∈ us, u.oneCell' = true) (hm : us.length = m * 1) (hl : m ≤ 140737488351232) :
    Calls Tryz.prog 33 #[.slice ao m cap] w fun e w' => Cloned e w w' ao m us := by
  cases ao with
  | none =>
    obtain rfl : us = [] := by simpa using hc.none_nil
    obtain rfl : m = 0 := by simp at hm; omega
    have he : ∀ w : World, (binOp .eql 22 (.slice none 0 cap) (.slice none 0 0)).run Tryz.prog w = .ok (.bool true) w := fun _ => rfl
    go_enter Tryz.func33, Tryz.ntmps33
    go_wp2_with fail
    go_ret
    exact ⟨none, 0, rfl, Cells.nil _ _, Ext.rf _, (fun _ h => by cases h), Nat.le_refl _, (fun _ h => by cases h), fun _ => ⟨rfl, rfl⟩⟩
  | some ad =>
    have he : ∀ w : World, (binOp .eql 22 (.slice (some ad) m cap) (.slice none 0 0)).run Tryz.prog w = .ok (.bool false) w := fun _ => rfl
    have hx0 := (Ext.rf w).al (.cells #[] 5)
    have own0 := World.ownsRow_lit (base := w.heap.size) (e := 5) (size := 1) w #[] 0 (Nat.le_refl _) (by decide) rfl
    have hc0 := hc.ext hx0
    go_enter Tryz.func33, Tryz.ntmps33
    go_wp2_with (at_builtin; (refine wpList_appendAll rfl (.tmp 5) (.tmp 6) 22 rfl w.heap.size 5 (.int .u8 0) 1 1 Tryz.underlying22 (by kernel_rfl) rfl (by decide) _ 0 _ (some ad) m _ us rfl own0 rfl hc0 hm h1 (by unfold maxLen; omega) (by omega) hx0.size ?_; intro v' w1 hown1 hgr; have hext1 := hx0.push own0 (Nat.le_refl _) hgr; clear hgr own0 hx0))
    simp only [Nat.zero_add, List.nil_append] at hown1
    obtain ⟨ao', cap', rfl, hc', hf'⟩ := own_cells hown1
    go_ret
    exact ⟨ao', cap', rfl, hc', hext1, hf', own_cap hown1, fun ad e => by subst e; exact (hown1.lt _ rfl).2, fun h => by cases h⟩
set_option maxRecDepth 20000 in
theorem clone_Type (ao : Option Addr) (cap m : Nat) (us : List Value) (w : World) (hc : Cells w ao us) (h1 : ∀ u ∈ us, u.oneCell' = true) (hm : us.length = m * 1) (hl : m ≤ 2000000000) :
    Calls Tryz.prog 68 #[.slice ao m cap] w fun e w' => Cloned e w w' ao m us := by
  cases ao with
  | none =>
    obtain rfl : us = [] := by simpa using hc.none_nil
    obtain rfl : m = 0 := by simp at hm; omega
    have he : ∀ w : World, (binOp .eql 25 (.slice none 0 cap) (.slice none 0 0)).run Tryz.prog w = .ok (.bool true) w := fun _ => rfl
    go_enter Tryz.func68, Tryz.ntmps68
    go_wp2_with fail
    go_ret
    exact ⟨none, 0, rfl, Cells.nil _ _, Ext.rf _, (fun _ h => by cases h), Nat.le_refl _, (fun _ h => by cases h), fun _ => ⟨rfl, rfl⟩⟩
  | some ad =>
    have he : ∀ w : World, (binOp .eql 25 (.slice (some ad) m cap) (.slice none 0 0)).run Tryz.prog w = .ok (.bool false) w := fun _ => rfl
    have hx0 := (Ext.rf w).al (.cells #[] 110)
    have own0 := World.ownsRow_lit (base := w.heap.size) (e := 110) (size := 1) w #[] 0 (Nat.le_refl _) (by decide) rfl
    have hc0 := hc.ext hx0
    go_enter Tryz.func68, Tryz.ntmps68
    go_wp2_with (at_builtin; (refine wpList_appendAll rfl (.tmp 5) (.tmp 6) 25 rfl w.heap.size 110 (.int .i64 0) 1 8 Tryz.underlying25 (by kernel_rfl) rfl (by decide) _ 0 _ (some ad) m _ us rfl own0 rfl hc0 hm h1 (by unfold maxLen; omega) (by omega) hx0.size ?_; intro v' w1 hown1 hgr; have hext1 := hx0.push own0 (Nat.le_refl _) hgr; clear hgr own0 hx0))
    simp only [Nat.zero_add, List.nil_append] at hown1
    obtain ⟨ao', cap', rfl, hc', hf'⟩ := own_cells hown1
    go_ret
    exact ⟨ao', cap', rfl, hc', hext1, hf', own_cap hown1, fun ad e => by subst e; exact (hown1.lt _ rfl).2, fun h => by cases h⟩
set_option maxRecDepth 20000 in
theorem clone_Instr (ao : Option Addr) (cap m : Nat) (us : List Value) (w : World) (hc : Cells w ao us) (h1 : ∀ u ∈ us, u.oneCell' = true) (hm : us.length = m * 2) (hl : m ≤ 2000000000) :
    Calls Tryz.prog 69 #[.slice ao m cap] w fun e w' => Cloned e w w' ao m us := by
  cases ao with
  | none =>
    obtain rfl : us = [] := by simpa using hc.none_nil
    obtain rfl : m = 0 := by simp at hm; omega
    have he : ∀ w : World, (binOp .eql 26 (.slice none 0 cap) (.slice none 0 0)).run Tryz.prog w = .ok (.bool true) w := fun _ => rfl
    go_enter Tryz.func69, Tryz.ntmps69
    go_wp2_with fail
    go_ret
    exact ⟨none, 0, rfl, Cells.nil _ _, Ext.rf _, (fun _ h => by cases h), Nat.le_refl _, (fun _ h => by cases h), fun _ => ⟨rfl, rfl⟩⟩
  | some ad =>
    have he : ∀ w : World, (binOp .eql 26 (.slice (some ad) m cap) (.slice none 0 0)).run Tryz.prog w = .ok (.bool false) w := fun _ => rfl
    have hx0 := (Ext.rf w).al (.cells #[] 78)
    have own0 := World.ownsRow_lit (base := w.heap.size) (e := 78) (size := 2) w #[] 0 (Nat.le_refl _) (by decide) rfl
    have hc0 := hc.ext hx0
    go_enter Tryz.func69, Tryz.ntmps69
    go_wp2_with (at_builtin; (refine wpList_appendAll rfl (.tmp 5) (.tmp 6) 26 rfl w.heap.size 78 (.agg #[.int .i64 0, .int .i64 0]) 2 16 Tryz.underlying26 (by kernel_rfl) rfl (by decide) _ 0 _ (some ad) m _ us rfl own0 rfl hc0 hm h1 (by unfold maxLen; omega) (by omega) hx0.size ?_; intro v' w1 hown1 hgr; have hext1 := hx0.push own0 (Nat.le_refl _) hgr; clear hgr own0 hx0))
    simp only [Nat.zero_add, List.nil_append] at hown1
    obtain ⟨ao', cap', rfl, hc', hf'⟩ := own_cells hown1
    go_ret
    exact ⟨ao', cap', rfl, hc', hext1, hf', own_cap hown1, fun ad e => by subst e; exact (hown1.lt _ rfl).2, fun h => by cases h⟩
set_option maxRecDepth 20000 in
theorem clone_Int (ao : Option Addr) (cap m : Nat) (us : List Value) (w : World) (hc : Cells w ao us) (h1 : ∀ u ∈ us, u.oneCell' = true) (hm : us.length = m * 1) (hl : m ≤ 2000000000) :
    Calls Tryz.prog 70 #[.slice ao m cap] w fun e w' => Cloned e w w' ao m us := by
  cases ao with
  | none =>
    obtain rfl : us = [] := by simpa using hc.none_nil
    obtain rfl : m = 0 := by simp at hm; omega
    have he : ∀ w : World, (binOp .eql 27 (.slice none 0 cap) (.slice none 0 0)).run Tryz.prog w = .ok (.bool true) w := fun _ => rfl
    go_enter Tryz.func70, Tryz.ntmps70
    go_wp2_with fail
    go_ret
    exact ⟨none, 0, rfl, Cells.nil _ _, Ext.rf _, (fun _ h => by cases h), Nat.le_refl _, (fun _ h => by cases h), fun _ => ⟨rfl, rfl⟩⟩
  | some ad =>
    have he : ∀ w : World, (binOp .eql 27 (.slice (some ad) m cap) (.slice none 0 0)).run Tryz.prog w = .ok (.bool false) w := fun _ => rfl
    have hx0 := (Ext.rf w).al (.cells #[] 3)
    have own0 := World.ownsRow_lit (base := w.heap.size) (e := 3) (size := 1) w #[] 0 (Nat.le_refl _) (by decide) rfl
    have hc0 := hc.ext hx0
    go_enter Tryz.func70, Tryz.ntmps70
    go_wp2_with (at_builtin; (refine wpList_appendAll rfl (.tmp 5) (.tmp 6) 27 rfl w.heap.size 3 (.int .i64 0) 1 8 Tryz.underlying27 (by kernel_rfl) rfl (by decide) _ 0 _ (some ad) m _ us rfl own0 rfl hc0 hm h1 (by unfold maxLen; omega) (by omega) hx0.size ?_; intro v' w1 hown1 hgr; have hext1 := hx0.push own0 (Nat.le_refl _) hgr; clear hgr own0 hx0))
    simp only [Nat.zero_add, List.nil_append] at hown1
    obtain ⟨ao', cap', rfl, hc', hf'⟩ := own_cells hown1
    go_ret
    exact ⟨ao', cap', rfl, hc', hext1, hf', own_cap hown1, fun ad e => by subst e; exact (hown1.lt _ rfl).2, fun h => by cases h⟩
set_option maxRecDepth 20000 in
theorem clone_Node (ao : Option Addr) (cap m : Nat) (us : List Value) (w : World) (hc : Cells w ao us) (h1 : ∀ u ∈ us, u.oneCell' = true) (hm : us.length = m * 7) (hl : m ≤ 2000000000) :
    Calls Tryz.prog 71 #[.slice ao m cap] w fun e w' => Cloned e w w' ao m us := by
  cases ao with
  | none =>
    obtain rfl : us = [] := by simpa using hc.none_nil
    obtain rfl : m = 0 := by simp at hm; omega
    have he : ∀ w : World, (binOp .eql 28 (.slice none 0 cap) (.slice none 0 0)).run Tryz.prog w = .ok (.bool true) w := fun _ => rfl
    go_enter Tryz.func71, Tryz.ntmps71
    go_wp2_with fail
    go_ret
    exact ⟨none, 0, rfl, Cells.nil _ _, Ext.rf _, (fun _ h => by cases h), Nat.le_refl _, (fun _ h => by cases h), fun _ => ⟨rfl, rfl⟩⟩
  | some ad =>
    have he : ∀ w : World, (binOp .eql 28 (.slice (some ad) m cap) (.slice none 0 0)).run Tryz.prog w = .ok (.bool false) w := fun _ => rfl
    have hx0 := (Ext.rf w).al (.cells #[] 115)
    have own0 := World.ownsRow_lit (base := w.heap.size) (e := 115) (size := 7) w #[] 0 (Nat.le_refl _) (by decide) rfl
    have hc0 := hc.ext hx0
    go_enter Tryz.func71, Tryz.ntmps71
    go_wp2_with (at_builtin; (refine wpList_appendAll rfl (.tmp 5) (.tmp 6) 28 rfl w.heap.size 115 (.agg #[.int .i64 0, .int .i64 0, .int .i64 0, .int .i64 0, .int .i64 0, .int .i64 0, .int .i64 0]) 7 56 Tryz.underlying28 (by kernel_rfl) rfl (by decide) _ 0 _ (some ad) m _ us rfl own0 rfl hc0 hm h1 (by unfold maxLen; omega) (by omega) hx0.size ?_; intro v' w1 hown1 hgr; have hext1 := hx0.push own0 (Nat.le_refl _) hgr; clear hgr own0 hx0))
    simp only [Nat.zero_add, List.nil_append] at hown1
    obtain ⟨ao', cap', rfl, hc', hf'⟩ := own_cells hown1
    go_ret
    exact ⟨ao', cap', rfl, hc', hext1, hf', own_cap hown1, fun ad e => by subst e; exact (hown1.lt _ rfl).2, fun h => by cases h⟩
set_option maxRecDepth 20000 in
theorem clone_Set (ao : Option Addr) (cap m : Nat) (us : List Value) (w : World) (hc : Cells w ao us) (h1 : ∀ u ∈ us, u.oneCell' = true) (hm : us.length = m * 4) (hl : m ≤ 2000000000) :
    Calls Tryz.prog 72 #[.slice ao m cap] w fun e w' => Cloned e w w' ao m us := by
  cases ao with
  | none =>
    obtain rfl : us = [] := by simpa using hc.none_nil
    obtain rfl : m = 0 := by simp at hm; omega
    have he : ∀ w : World, (binOp .eql 29 (.slice none 0 cap) (.slice none 0 0)).run Tryz.prog w = .ok (.bool true) w := fun _ => rfl
    go_enter Tryz.func72, Tryz.ntmps72
    go_wp2_with fail
    go_ret
    exact ⟨none, 0, rfl, Cells.nil _ _, Ext.rf _, (fun _ h => by cases h), Nat.le_refl _, (fun _ h => by cases h), fun _ => ⟨rfl, rfl⟩⟩
  | some ad =>
    have he : ∀ w : World, (binOp .eql 29 (.slice (some ad) m cap) (.slice none 0 0)).run Tryz.prog w = .ok (.bool false) w := fun _ => rfl
    have hx0 := (Ext.rf w).al (.cells #[] 118)
    have own0 := World.ownsRow_lit (base := w.heap.size) (e := 118) (size := 4) w #[] 0 (Nat.le_refl _) (by decide) rfl
    have hc0 := hc.ext hx0
    go_enter Tryz.func72, Tryz.ntmps72
    go_wp2_with (at_builtin; (refine wpList_appendAll rfl (.tmp 5) (.tmp 6) 29 rfl w.heap.size 118 (.agg #[.int .u64 0, .int .u64 0, .int .u64 0, .int .u64 0]) 4 32 Tryz.underlying29 (by kernel_rfl) rfl (by decide) _ 0 _ (some ad) m _ us rfl own0 rfl hc0 hm h1 (by unfold maxLen; omega) (by omega) hx0.size ?_; intro v' w1 hown1 hgr; have hext1 := hx0.push own0 (Nat.le_refl _) hgr; clear hgr own0 hx0))
    simp only [Nat.zero_add, List.nil_append] at hown1
    obtain ⟨ao', cap', rfl, hc', hf'⟩ := own_cells hown1
    go_ret
    exact ⟨ao', cap', rfl, hc', hext1, hf', own_cap hown1, fun ad e => by subst e; exact (hown1.lt _ rfl).2, fun h => by cases h⟩
/-- One more function that is an operation. -/
theorem KOk.more {P : Program} {f0 : FuncId} {g : List T → Hp → Option (T × Hp)} {K : CallFn} (h0 : KOk P fun f a h => if f = f0 then g a h else none) (hK : KOk P K) : KOk P fun f a h => if f = f0 then g a h else K f a h := fun f a h res h' hc => by
  simp only at hc
  by_cases hf : f = f0
  · rw [if_pos hf] at hc
    exact h0 f a h res h' (by simp only; rw [if_pos hf]; exact hc)
  · rw [if_neg hf] at hc
    exact hK f a h res h' hc
theorem clone_ok {P : Program} {f0 : FuncId} {sz bd : Nat} (h0 : 0 < sz) (hf : ∃ fn, P.funcs[f0]? = some fn ∧ fn.body.isSome = true ∧ (fn.name == "runtime.NumGoroutine") = false)
    (hC : ∀ (ao : Option Addr) (cap m : Nat) (us : List Value) (w : World), Cells w ao us → (∀ u ∈ us, u.oneCell' = true) → us.length = m * sz → m ≤ bd → Calls P f0 #[.slice ao m cap] w fun e w' => Cloned e w w' ao m us) :
    KOk P fun f a h => if f = f0 then cloneX sz bd a h else none := fun f a h res h' hc => by
  simp only at hc
  split at hc
  case isFalse => cases hc
  rename_i hf2
  subst hf2
  refine ⟨hf, fun W who L vs H hl R => ?_⟩
  unfold cloneX at hc
  split at hc
  · rename_i s es
    split at hc
    case isFalse => cases hc
    rename_i hle
    obtain ⟨rfl, hle⟩ := hle
    cases hc
    obtain ⟨v, rfl⟩ : ∃ v, vs = [v] := by
      match vs, hl with
      | [v], _ => exact ⟨v, rfl⟩
    obtain ⟨x, hx, hr⟩ := R 0 _ v rfl rfl
    cases hx
    cases hr with
    | fz _ cap _ ao us hu hcap ha hw hrg hlen hrep =>
      have hC1 : Cells W ao us := ⟨fun hne => ha (fun e0 => hne (by subst e0; simpa using hlen.symm)), fun b off e j u hj => hrg b off e j u hj⟩
      have hul : us.length = es.length * s := by rw [← hlen, flatten_len es hu]
      have hus : RepCs W who es.flatten us := ⟨hlen, hrep⟩
      refine (hC ao cap es.length us W hC1 hus.one hul hle).mono fun e W' ⟨ao', cap', he, hC', hx, hfr, hcap', hlt, _⟩ => ?_
      obtain ⟨H', S'⟩ := ext_frozen H hx
      refine ⟨_, _, L, he, ⟨_, rfl, ?_⟩, H', S'.any⟩
      have hne : es ≠ [] → us ≠ [] := fun h1 e0 => h1 (List.eq_nil_of_length_eq_zero (by
        subst e0
        rcases Nat.mul_eq_zero.1 hul.symm with h | h
        · exact h
        · omega))
      refine .fz s cap' es ao' us hu hcap' (fun h0 => hC'.addr (hne h0)) (fun b off h0 e => ?_) (fun b off e j u hj => hC'.cell b off e j u hj) hlen (fun i c u h1 h2 => S'.repC (hrep i c u h1 h2))
      have hb := hlt _ e
      have hb2 := hfr _ e
      exact ⟨if_neg (by simp only at hb2; omega), hb⟩
  · cases hc
    obtain ⟨v, rfl⟩ : ∃ v, vs = [v] := by
      match vs, hl with
      | [v], _ => exact ⟨v, rfl⟩
    obtain ⟨x, hx, hr⟩ := R 0 _ v rfl rfl
    cases hx
    cases hr
    refine (hC none 0 0 [] W (Cells.nil _ _) (by simp) (by simp) (by omega)).mono fun e W' ⟨ao', cap', he, hC', hx, hfr, hcap', hlt, hn⟩ => ?_
    obtain ⟨rfl, rfl⟩ := hn rfl
    obtain ⟨H', S'⟩ := ext_frozen H hx
    exact ⟨_, _, L, he, ⟨_, rfl, .v _ rfl⟩, H', S'.any⟩
  · cases hc
theorem KOk.none {P : Program} : KOk P fun _ _ _ => none := fun f a h res h' hc => by cases hc
def baseC : CallFn := fun f a h =>
  if f = 33 then cloneX 1 140737488351232 a h else
  if f = 68 then cloneX 1 2000000000 a h else
  if f = 69 then cloneX 2 2000000000 a h else
  if f = 70 then cloneX 1 2000000000 a h else
  if f = 71 then cloneX 7 2000000000 a h else
  if f = 72 then cloneX 4 2000000000 a h else
  none
theorem baseC_ok : KOk Tryz.prog baseC :=
  .more (clone_ok (by decide) ⟨_, Tryz.func33, by kernel_rfl, by kernel_rfl⟩ fun ao cap m us w h1 h2 h3 h4 => clone_byte ao cap m us w h1 h2 h3 h4) <|
  .more (clone_ok (by decide) ⟨_, Tryz.func68, by kernel_rfl, by kernel_rfl⟩ fun ao cap m us w h1 h2 h3 h4 => clone_Type ao cap m us w h1 h2 h3 h4) <|
  .more (clone_ok (by decide) ⟨_, Tryz.func69, by kernel_rfl, by kernel_rfl⟩ fun ao cap m us w h1 h2 h3 h4 => clone_Instr ao cap m us w h1 h2 h3 h4) <|
  .more (clone_ok (by decide) ⟨_, Tryz.func70, by kernel_rfl, by kernel_rfl⟩ fun ao cap m us w h1 h2 h3 h4 => clone_Int ao cap m us w h1 h2 h3 h4) <|
  .more (clone_ok (by decide) ⟨_, Tryz.func71, by kernel_rfl, by kernel_rfl⟩ fun ao cap m us w h1 h2 h3 h4 => clone_Node ao cap m us w h1 h2 h3 h4) <|
  .more (clone_ok (by decide) ⟨_, Tryz.func72, by kernel_rfl, by kernel_rfl⟩ fun ao cap m us w h1 h2 h3 h4 => clone_Set ao cap m us w h1 h2 h3 h4) <|
  .none
end Go.Proofs.YtkdnbnkbnegckaaGreat
namespace Go.Proofs.YtkdnbnkbnegckaaGreat
open Go.RowKit Go.Maps Go.WideMaps Go.ChangeMaps
/-- A count, as a map's datum. -/
abbrev i64D (n : Int) : DataW Unit := .lit (.int .i64 n)

def strV (b : List UInt8) : Value := .string ⟨⟨b⟩⟩
def keyL (b : List UInt8) : Lit := .string b
theorem keyOf_str {b : List UInt8} (h : b.length ≤ maxLen) : keyOf Tryz.prog 9 (strV b) = some (keyL b) := keyOf_string_mk Tryz.underlying9 (s := ⟨⟨b⟩⟩) h
theorem keyL_key (b : List UInt8) : WideAt.IsKeyLit (keyL b) := by simp [keyL, WideAt.IsKeyLit]
theorem keyL_ne {a b : List UInt8} (h : a ≠ b) : keyL a ≠ keyL b := fun e => h (by simpa [keyL] using e)
theorem lawS : Keyed Tryz.prog 9 := string_keyed Tryz.underlying9
theorem zeroS (w : World) : (zeroValue 3).run Tryz.prog w = .ok (.int .i64 0) w := by kernel_rfl
/-- How often each name was met. -/
structure MetI (l : List (List UInt8)) (k : Nat) (D : DataW Unit) : Prop where
  at' : ∀ s, D.atKey (keyL s) (i64D 0) = i64D ((l.take k).count s)
  has : ∀ s, Maps.has D (keyL s) = decide (s ∈ l.take k)
  tidy : Tidy D
  size : (l.take k).Nodup → Maps.size D = k
theorem metI_zero (l : List (List UInt8)) : MetI l 0 (.map []) := ⟨fun s => by simp [DataW.atKey], fun s => by simp [Maps.has], tidy_empty, fun _ => rfl⟩
theorem MetI.step {l : List (List UInt8)} {k : Nat} {D : DataW Unit} (h : MetI l k D) (hk : k < l.length) (hl : l.length < 9223372036854775807) {c : Int} (hat : D.atKey (keyL l[k]) (i64D 0) = i64D c) : MetI l (k + 1) (D.put (keyL l[k]) (i64D (wrap64 (c + 1)))) := by
  have hc : c = ((l.take k).count l[k] : Nat) := by
    rw [h.at'] at hat
    simp [i64D] at hat
    omega
  have hle : (l.take k).count l[k] ≤ k := Nat.le_trans List.count_le_length (by simp; omega)
  have hw : wrap64 (c + 1) = (((l.take k).count l[k] + 1 : Nat) : Int) := by unfold wrap64; omega
  have ht : l.take (k + 1) = l.take k ++ [l[k]] := List.take_succ_eq_append_getElem hk
  have hm : ∀ s, s ∈ l.take (k + 1) ↔ s ∈ l.take k ∨ s = l[k] := fun s => by rw [ht, List.mem_append, List.mem_singleton]
  refine ⟨fun s => ?_, fun s => ?_, h.tidy.put (keyL_key _) _, fun hn => ?_⟩
  · rw [ht, hw]
    by_cases e : s = l[k]
    · subst e
      have h2 : List.count l[k] (l.take k ++ [l[k]]) = List.count l[k] (l.take k) + 1 := by rw [List.count_append]; simp
      rw [atKey_put_same h.tidy.isMap (keyL_key _), h2]
    · rw [atKey_put_other (keyL_ne e), h.at', List.count_append]
      have : List.count s [l[k]] = 0 := by simp [List.count_cons]; exact fun e2 => e e2.symm
      rw [this, Nat.add_zero]
  · by_cases e : s = l[k]
    · subst e
      rw [has_put_same h.tidy.isMap (keyL_key _)]
      exact (decide_eq_true ((hm _).2 (.inr rfl))).symm
    · rw [has_put_other (keyL_ne e), h.has]
      exact decide_eq_decide.2 ⟨fun h1 => (hm s).2 (.inl h1), fun h1 => ((hm s).1 h1).resolve_right e⟩
  · rw [ht, List.nodup_append] at hn
    rw [size_put h.tidy, h.has, h.size hn.1]
    have : l[k] ∉ l.take k := fun hm => hn.2.2 _ hm _ (by simp) rfl
    simp [this]
set_option maxRecDepth 100000 in
theorem met_none (ao : Option Addr) (cap : Nat) (w : World) :
    Calls Tryz.prog 127 #[.slice ao 0 cap] w fun e w' => ∃ B D, e = .returned (.map (some B)) ∧ w.heap.size ≤ B ∧ w'.ownsMap Tryz.prog 9 (plainElem Tryz.prog 3) B 0 D ∧ MetI [] 0 D ∧ Ext w w' := by
  have hmm := @run_makeMap Tryz.prog
  go_enter Tryz.func127, Tryz.ntmps127
  go_wp2
  refine wp_loop_rounds 1 ?_
  rw [rounds_succ]
  go_wp2
  go_ret
  exact ⟨w.heap.size, .map [], rfl, Nat.le_refl _, World.ownsMap_made _ _ _ _, metI_zero [], (Ext.rf w).al _⟩
set_option maxRecDepth 100000 in
theorem met_some (b off cap : Nat) (l : List (List UInt8)) (w : World) (hb : b < w.heap.size) (hc : ∀ j (h : j < l.length), w.cell? ⟨b, off + j, none⟩ = some (strV l[j])) (hl : l.length ≤ 1000000) (hs : ∀ s ∈ l, s.length ≤ 1000000) :
    Calls Tryz.prog 127 #[.slice (some ⟨b, off, none⟩) l.length cap] w fun e w' => ∃ B D, e = .returned (.map (some B)) ∧ w.heap.size ≤ B ∧ w'.ownsMap Tryz.prog 9 (plainElem Tryz.prog 3) B l.length D ∧ MetI l l.length D ∧ Ext w w' := by
  have hmm := @run_makeMap Tryz.prog
  go_enter Tryz.func127, Tryz.ntmps127
  go_wp2
  go_loopw [9] (fun i wr => ∃ (k : Nat) (D : DataW Unit), k ≤ l.length ∧ i = .int .i64 k ∧ wr.ownsMap Tryz.prog 9 (plainElem Tryz.prog 3) w.heap.size k D ∧ MetI l k D ∧ Ext w wr)
    (fun i _ => l.length - (intOf i).toNat)
  case atStart => exact ⟨0, .map [], Nat.zero_le _, rfl, World.ownsMap_made _ _ _ _, metI_zero l, (Ext.rf w).al _⟩
  case round =>
    obtain ⟨k, D, hk, rfl, hown, hI, hnx⟩ := hrel
    by_cases hlt : k < l.length
    · obtain ⟨s, hsk⟩ : ∃ s, s = l[k] := ⟨_, rfl⟩
      have hcx : wr.cell? ⟨b, off + k, none⟩ = some (strV s) := by rw [hsk]; exact (hnx.b.cell hb).trans (hc k hlt)
      have hkey : keyOf Tryz.prog 9 (strV s) = some (keyL s) := keyOf_str (by rw [hsk]; have := hs _ (List.getElem_mem hlt); unfold maxLen; omega)
      have HI := Lib.hid (fun (c : Int) (hat : D.atKey (keyL s) (i64D 0) = i64D c) => by rw [hsk] at hat ⊢; exact hI.step hlt (by omega) hat : ∀ c : Int, D.atKey (keyL s) (i64D 0) = i64D c → MetI l (k + 1) (D.put (keyL s) (i64D (wrap64 (c + 1)))))
      have hltB : decide ((k : Int) < (l.length : Int)) = true := decide_eq_true (by omega)
      clear hsk hI
      obtain ⟨c, hrun, hat, hwc⟩ := hown.lookup_int lawS Tryz.underlying166 Tryz.underlying3 (zeroS _) hkey
      go_wp2_with (first
        | (at_mapUpdate; refine wpList_mapUpdate_own _ rfl _ _ _ 166 rfl 9 3 lawS Tryz.underlying166 _ w.heap.size k _ rfl hown (by unfold maxLen; omega) _ _ _ rfl rfl hkey _ [] (plainElem_int Tryz.underlying3 (wrap64_wf _)) ?_)
        | go_in)
      intro w1 hown1 hgrow1
      have R1 := HI.out _ hat
      have R2 : Ext w w1 := hnx.b.grown hgrow1 hnx.size (fun j hj => by cases hj; exact Nat.le_refl _)
      clear hgrow1 hown hrun hat hcx HI
      go_wp2
      go_roundw
      case rel => exact ⟨k + 1, _, by omega, by go_num, hown1, R1, R2⟩
      case measure => simp [intOf]; omega
    · have hkl : k = l.length := by omega
      subst hkl
      go_wp2
      go_ret
      exact ⟨_, D, rfl, Nat.le_refl _, hown, hI, hnx⟩
theorem nodup_of_count {α : Type} [BEq α] [LawfulBEq α] : ∀ {l : List α}, (∀ a ∈ l, l.count a ≤ 1) → l.Nodup
  | [], _ => List.nodup_nil
  | x :: l, h => by
    have h1 := h x (by simp)
    rw [List.count_cons_self] at h1
    have h2 : x ∉ l := fun hm => by have := List.count_pos_iff.2 hm; omega
    refine List.nodup_cons.2 ⟨h2, nodup_of_count fun a ha => ?_⟩
    have h3 := h a (by simp [ha])
    exact Nat.le_trans (List.count_le_count_cons) h3
theorem count_of_nodup {α : Type} [BEq α] [LawfulBEq α] : ∀ {l : List α}, l.Nodup → ∀ a, l.count a ≤ 1
  | [], _, a => by simp
  | x :: l, h, a => by
    obtain ⟨h1, h2⟩ := List.nodup_cons.1 h
    by_cases e : x = a
    · subst e
      rw [List.count_cons_self, List.count_eq_zero.2 h1]
      exact Nat.le_refl _
    · rw [List.count_cons_of_ne e]
      exact count_of_nodup h2 a
/-- What is left of the counts when some names were met again. -/
structure LeftI (l : List (List UInt8)) (k : Nat) (D : DataW Unit) : Prop where
  at' : ∀ s, D.atKey (keyL s) (i64D 0) = i64D (if s ∈ l.take k then 0 else l.count s : Nat)
  has : ∀ s, Maps.has D (keyL s) = decide (s ∈ l ∧ s ∉ l.take k)
  tidy : Tidy D
  size : l.Nodup → Maps.size D + k = l.length
  once : ∀ s ∈ l.take k, l.count s ≤ 1
theorem MetI.left {l : List (List UInt8)} {D : DataW Unit} (h : MetI l l.length D) : LeftI l 0 D := by
  have ht := List.take_of_length_le (Nat.le_refl l.length)
  refine ⟨fun s => ?_, fun s => ?_, h.tidy, fun hn => ?_, fun s hs => by simp at hs⟩
  · rw [h.at', ht]; simp
  · rw [h.has, ht]; simp
  · rw [h.size (by rw [ht]; exact hn)]; rfl
theorem LeftI.one {l : List (List UInt8)} {k : Nat} {D : DataW Unit} (h : LeftI l k D) (hk : k < l.length) {c : Int} (hat : D.atKey (keyL l[k]) (i64D 0) = i64D c) : (1 < c → ¬l.Nodup) ∧ (¬1 < c → LeftI l (k + 1) (D.del (keyL l[k]))) := by
  have hc : c = ((if l[k] ∈ l.take k then 0 else l.count l[k] : Nat) : Int) := by
    rw [h.at'] at hat
    simp only [i64D, DataW.lit.injEq, Lit.int.injEq, true_and] at hat
    exact hat.symm
  have ht : l.take (k + 1) = l.take k ++ [l[k]] := List.take_succ_eq_append_getElem hk
  have hm : ∀ s, s ∈ l.take (k + 1) ↔ s ∈ l.take k ∨ s = l[k] := fun s => by rw [ht, List.mem_append, List.mem_singleton]
  refine ⟨fun h1 hn => ?_, fun h1 => ⟨fun s => ?_, fun s => ?_, h.tidy.del _, fun hn => ?_, fun s hs => ?_⟩⟩
  · have := count_of_nodup hn l[k]
    split at hc <;> omega
  · by_cases e : s = l[k]
    · subst e
      rw [atKey_del_same, if_pos ((hm _).2 (.inr rfl))]
      rfl
    · rw [atKey_del_other (keyL_ne e), h.at']
      congr 2
      by_cases h2 : s ∈ l.take k
      · rw [if_pos h2, if_pos ((hm s).2 (.inl h2))]
      · rw [if_neg h2, if_neg fun h3 => ((hm s).1 h3).elim h2 e]
  · by_cases e : s = l[k]
    · subst e
      rw [has_del_same]
      exact (decide_eq_false fun h2 => h2.2 ((hm _).2 (.inr rfl))).symm
    · rw [has_del_other (keyL_ne e), h.has]
      exact decide_eq_decide.2 ⟨fun h2 => ⟨h2.1, fun h3 => ((hm s).1 h3).elim h2.2 e⟩, fun h2 => ⟨h2.1, fun h3 => h2.2 ((hm s).2 (.inl h3))⟩⟩
  · have h2 := h.size hn
    have h3 := size_del (k := keyL l[k]) h.tidy
    have h4 : l[k] ∉ l.take k := fun h5 => by
      obtain ⟨j, hj, e⟩ := List.getElem_of_mem h5
      rw [List.getElem_take] at e
      have hjk : j < k := by simp at hj; omega
      have := (List.nodup_iff_pairwise_ne.1 hn)
      exact absurd e ((List.pairwise_iff_getElem.1 this) j k (by omega) hk hjk)
    rw [h.has, decide_eq_true (show l[k] ∈ l ∧ l[k] ∉ l.take k from ⟨List.getElem_mem hk, h4⟩), if_pos rfl] at h3
    omega
  · rcases (hm s).1 hs with h2 | h2
    · exact h.once s h2
    · subst h2
      by_cases h3 : l[k] ∈ l.take k
      · exact h.once _ h3
      · rw [if_neg h3] at hc
        omega
theorem LeftI.end' {l : List (List UInt8)} {D : DataW Unit} (h : LeftI l l.length D) : l.Nodup ∧ Maps.size D = 0 := by
  have ht := List.take_of_length_le (Nat.le_refl l.length)
  have hn : l.Nodup := nodup_of_count fun a ha => h.once a (by rw [ht]; exact ha)
  have := h.size hn
  exact ⟨hn, by omega⟩
set_option maxRecDepth 100000 in
theorem unlike_none (ao : Option Addr) (cap : Nat) (w : World) :
    Calls Tryz.prog 76 #[.slice ao 0 cap] w fun e w' => e = .returned (.bool true) ∧ Ext w w' := by
  go_enter Tryz.func76, Tryz.ntmps76
  go_wp2_with fail
  refine (met_none ao cap w).mono ?_
  rintro e w1 ⟨B, D, rfl, hB, hown, hI, hx⟩
  have hs : Maps.size D = 0 := hI.size List.nodup_nil
  have hsE : ((Maps.size D : Int) == 0) = true := by rw [hs]; rfl
  go_wp2_with fail
  refine wp_loop_rounds 1 ?_
  rw [rounds_succ]
  go_wp2_with (at_len; refine wpList_len_own _ rfl _ 166 rfl 9 3 Tryz.underlying166 _ B 0 D rfl hown ?_)
  go_ret
  exact ⟨by simp [hs], hx⟩
set_option maxRecDepth 100000 in
theorem unlike_some (b off cap : Nat) (l : List (List UInt8)) (w : World) (hb : b < w.heap.size) (hc : ∀ j (h : j < l.length), w.cell? ⟨b, off + j, none⟩ = some (strV l[j])) (hl : l.length ≤ 1000000) (hs : ∀ s ∈ l, s.length ≤ 1000000) :
    Calls Tryz.prog 76 #[.slice (some ⟨b, off, none⟩) l.length cap] w fun e w' => e = .returned (.bool (decide l.Nodup)) ∧ Ext w w' := by
  go_enter Tryz.func76, Tryz.ntmps76
  go_wp2_with fail
  refine (met_some b off cap l w hb hc hl hs).mono ?_
  rintro e w1 ⟨B, D0, rfl, hB, hown0, hI0, hx0⟩
  have hL0 := hI0.left
  clear hI0
  go_wp2_with fail
  go_loopw [10] (fun i wr => ∃ (k : Nat) (D : DataW Unit), k ≤ l.length ∧ i = .int .i64 k ∧ wr.ownsMap Tryz.prog 9 (plainElem Tryz.prog 3) B l.length D ∧ LeftI l k D ∧ Ext w wr)
    (fun i _ => l.length - (intOf i).toNat)
  case atStart => exact ⟨0, D0, Nat.zero_le _, rfl, hown0, hL0, hx0⟩
  case round =>
    obtain ⟨k, D, hk, rfl, hown, hI, hnx⟩ := hrel
    clear hown0 hL0
    by_cases hlt : k < l.length
    · obtain ⟨s, hsk⟩ : ∃ s, s = l[k] := ⟨_, rfl⟩
      have hcx : wr.cell? ⟨b, off + k, none⟩ = some (strV s) := by rw [hsk]; exact (hnx.b.cell hb).trans (hc k hlt)
      have hkey : keyOf Tryz.prog 9 (strV s) = some (keyL s) := keyOf_str (by rw [hsk]; have := hs _ (List.getElem_mem hlt); unfold maxLen; omega)
      have HI := Lib.hid (fun (c : Int) (hat : D.atKey (keyL s) (i64D 0) = i64D c) => by rw [hsk] at hat ⊢; exact hI.one hlt hat : ∀ c : Int, D.atKey (keyL s) (i64D 0) = i64D c → (1 < c → ¬l.Nodup) ∧ (¬1 < c → LeftI l (k + 1) (D.del (keyL s))))
      have hltB : decide ((k : Int) < (l.length : Int)) = true := decide_eq_true (by omega)
      clear hsk hI
      obtain ⟨c, hrun, hat, hwc⟩ := hown.lookup_int lawS Tryz.underlying166 Tryz.underlying3 (zeroS _) hkey
      obtain ⟨h1, h2⟩ := HI.out _ hat
      clear HI hat
      by_cases hgt : 1 < c
      · have hn := h1 hgt
        have hgB : decide (1 < c) = true := decide_eq_true hgt
        go_wp2_with fail
        go_ret
        exact ⟨by first | rfl | simp [hn], hnx⟩
      · have R1 := Lib.hid (h2 hgt)
        have hgB : decide (1 < c) = false := decide_eq_false hgt
        clear h1 h2
        go_wp2_with (first
          | (at_delete; refine wpList_delete_own _ rfl _ _ 166 9 rfl 3 lawS Tryz.underlying166 _ B l.length D rfl hown _ _ rfl hkey ?_; intro w1 hown1 hturn1)
          | go_in)
        have R2 : Ext w w1 := hnx.b.grown hturn1.grown hnx.size (fun j hj => by cases hj; exact hB)
        clear hturn1 hown hrun hcx
        go_wp2
        go_roundw
        case rel => exact ⟨k + 1, _, by omega, by go_num, hown1, R1.out, R2⟩
        case measure => simp [intOf]; omega
    · have hkl : k = l.length := by omega
      subst hkl
      obtain ⟨hn, hz⟩ := hI.end'
      have hltB : decide ((l.length : Int) < (l.length : Int)) = false := decide_eq_false (by omega)
      go_wp2_with (at_len; refine wpList_len_own _ rfl _ 166 rfl 9 3 Tryz.underlying166 _ B l.length D rfl hown ?_)
      go_ret
      exact ⟨by simp [hz, hn], hnx⟩
end Go.Proofs.YtkdnbnkbnegckaaGreat
namespace Go.Proofs.YtkdnbnkbnegckaaGreat
open Go.RowKit

def strsOf : List (List C) → Option (List (List UInt8))
  | [] => some []
  | [.v (.string b)] :: es => (strsOf es).map (b.data.toList :: ·)
  | _ => none
theorem strsOf_get : ∀ {es : List (List C)} {l : List (List UInt8)}, strsOf es = some l → es.length = l.length ∧ (∀ e ∈ es, e.length = 1) ∧ ∀ j (h : j < l.length), es.flatten[j]? = some (.v (strV l[j]))
  | [], l, h => by simp only [strsOf, Option.some.injEq] at h; subst h; simp
  | e :: es, l, h => by
    unfold strsOf at h
    split at h
    · rename_i h0; cases h0
    · rename_i b es' h0
      cases h0
      cases hr : strsOf es with
      | none => rw [hr] at h; cases h
      | some r =>
        rw [hr] at h
        cases h
        obtain ⟨h1, h2, h3⟩ := strsOf_get hr
        refine ⟨by simp [h1], by simpa using h2, fun j hj => ?_⟩
        cases j with
        | zero => rfl
        | succ j => simpa using h3 j (by simpa using hj)
    · cases h
def unlikeX (a : List T) (h : Hp) : Option (T × Hp) :=
  match a with
  | [⟨.one, [.c (.fz 1 es)]⟩] =>
    match strsOf es with
    | some l => if l.length ≤ 1000000 ∧ (l.all fun s => decide (s.length ≤ 1000000)) = true then some (⟨.one, [.c (.v (.bool (decide l.Nodup)))]⟩, h) else none
    | none => none
  | [⟨.one, [.c (.v (.slice none 0 0))]⟩] => some (⟨.one, [.c (.v (.bool true))]⟩, h)
  | _ => none
theorem unlike_ok : KOk Tryz.prog fun f a h => if f = 76 then unlikeX a h else none := fun f a h res h' hc => by
  simp only at hc
  split at hc
  case isFalse => cases hc
  rename_i hf
  subst hf
  refine ⟨⟨_, Tryz.func76, by kernel_rfl, by kernel_rfl⟩, fun W who L vs H hl R => ?_⟩
  unfold unlikeX at hc
  split at hc
  · rename_i es
    cases hs : strsOf es with
    | none => rw [hs] at hc; cases hc
    | some l =>
      rw [hs] at hc
      simp only at hc
      split at hc
      case isFalse => cases hc
      rename_i hle
      obtain ⟨hle, hall⟩ := hle
      cases hc
      obtain ⟨v, rfl⟩ : ∃ v, vs = [v] := by
        match vs, hl with
        | [v], _ => exact ⟨v, rfl⟩
      obtain ⟨x, hx, hr⟩ := R 0 _ v rfl rfl
      cases hx
      obtain ⟨s1, s2, s3⟩ := strsOf_get hs
      have hal : ∀ s ∈ l, s.length ≤ 1000000 := fun s hm => by simpa using List.all_eq_true.1 hall s hm
      have fin : ∀ {e : Ending} {W' : World}, e = .returned (.bool (decide l.Nodup)) ∧ Ext W W' → ∃ v who' L', e = .returned v ∧ RepT W' who' L' h ⟨.one, [.c (.v (.bool (decide l.Nodup)))]⟩ v ∧ HSim W' who' L' h ∧ Step .all W who L h W' who' L' h := fun {e W'} ⟨he, hx⟩ => by
        obtain ⟨H', S'⟩ := ext_frozen H hx
        exact ⟨_, _, L, he, ⟨_, rfl, .v _ rfl⟩, H', S'.any⟩
      cases hr with
      | fz _ cap _ ao us hu hcap ha hw hrg hlen hrep =>
        rw [s1]
        cases l with
        | nil => exact (unlike_none ao cap W).mono fun e W' hh => fin (by simpa using hh)
        | cons s l =>
          have hne : es ≠ [] := fun e0 => by subst e0; simp at s1
          obtain ⟨b, off, rfl⟩ := ha hne
          obtain ⟨-, hb⟩ := hw b off hne rfl
          refine (unlike_some b off cap (s :: l) W hb (fun j hj => ?_) hle hal).mono fun e W' hh => fin hh
          have h1 := s3 j hj
          have h2 : j < us.length := by rw [← hlen]; exact (List.getElem?_eq_some_iff.1 h1).1
          have h3 := hrg b off rfl j us[j] (List.getElem?_eq_getElem h2)
          have h4 := hrep j _ _ h1 (List.getElem?_eq_getElem h2)
          generalize us[j] = u at *
          cases h4
          exact h3
  · cases hc
    obtain ⟨v, rfl⟩ : ∃ v, vs = [v] := by
      match vs, hl with
      | [v], _ => exact ⟨v, rfl⟩
    obtain ⟨x, hx, hr⟩ := R 0 _ v rfl rfl
    cases hx
    cases hr
    refine (unlike_none none 0 W).mono fun e W' ⟨he, hx⟩ => ?_
    obtain ⟨H', S'⟩ := ext_frozen H hx
    exact ⟨_, _, L, he, ⟨_, rfl, .v _ rfl⟩, H', S'.any⟩
  · cases hc
def baseX : CallFn := fun f a h => if f = 76 then unlikeX a h else baseC f a h
theorem baseX_ok : KOk Tryz.prog baseX := .more unlike_ok baseC_ok
end Go.Proofs.YtkdnbnkbnegckaaGreat
