/- slices.Clone, as operations of the second machine. -/
import Derived.Test.YtkdnbnkbnegckaaGreatEvQ
namespace Go.Proofs.YtkdnbnkbnegckaaGreat
open Go.RowKit

def cloneX (sz bound : Nat) (a : List T) (h : Hp) : Option (T × Hp) :=
  match a with
  | [⟨.one, [.c (.fz s es)]⟩] => if s = sz ∧ es.length ≤ bound then some (⟨.one, [.c (.fz s es)]⟩, h) else none
  | [⟨.one, [.c (.v (.slice none 0 0))]⟩] => some (⟨.one, [.c (.v (.slice none 0 0))]⟩, h)
  | _ => none
theorem own_cap {w : World} {base : Nat} {e : TypeId} {size : Nat} {ao : Option Addr} {n m cap : Nat} {xs : List Value} (h : w.ownsRow base e size (.slice ao n cap) m xs) : m ≤ cap := by
  rcases h.2 with ⟨h1, h0⟩ | ⟨g, c, cur, h1, _, _, h2, _⟩
  · omega
  · cases h1; exact h2
/-- What a slice's copy comes to. -/
def Cloned (e : Ending) (w w' : World) (ao : Option Addr) (m : Nat) (us : List Value) : Prop := ∃ ao' cap', e = .returned (.slice ao' m cap') ∧ Cells w' ao' us ∧ Ext w w' ∧ Fresh w.heap.size ao' ∧ m ≤ cap' ∧ (∀ ad, ao' = some ad → ad.block < w'.heap.size) ∧ (ao = none → ao' = none ∧ cap' = 0)
set_option maxRecDepth 20000 in
theorem clone_byte (ao : Option Addr) (cap m : Nat) (us : List Value) (w : World) (hc : Cells w ao us) (h1 : ∀ u ∈ us, u.oneCell' = true) (hm : us.length = m * 1) (hl : m ≤ 140737488351232) :
    Calls Tryz.prog 33 #[.slice ao m cap] w fun e w' => Cloned e w w' ao m us := by
  cases ao with
  | none =>
    obtain rfl : us = [] := by simpa using hc.none_nil
    obtain rfl : m = 0 := by simp at hm; omega
    have he : ∀ w : World, (binOp .eql 22 (.slice none 0 cap) (.slice none 0 0)).run Tryz.prog w = .ok (.bool true) w := fun _ => rfl
    go_enter Tryz.func33, Tryz.ntmps33
    go_wp2_with fail
    go_ret
    exact ⟨none, 0, rfl, Cells.nil _ _, Ext.rf _, (fun _ h => by cases h), Nat.le_refl _, (fun _ h => by cases h), fun _ => ⟨rfl, rfl⟩⟩
  | some ad =>
    have he : ∀ w : World, (binOp .eql 22 (.slice (some ad) m cap) (.slice none 0 0)).run Tryz.prog w = .ok (.bool false) w := fun _ => rfl
    have hx0 := (Ext.rf w).al (.cells #[] 5)
    have own0 := World.ownsRow_lit (base := w.heap.size) (e := 5) (size := 1) w #[] 0 (Nat.le_refl _) (by decide) rfl
    have hc0 := hc.ext hx0
    go_enter Tryz.func33, Tryz.ntmps33
    go_wp2_with (at_builtin; (refine wpList_appendAll rfl (.tmp 5) (.tmp 6) 22 rfl w.heap.size 5 (.int .u8 0) 1 1 Tryz.underlying22 (by kernel_rfl) rfl (by decide) _ 0 _ (some ad) m _ us rfl own0 rfl hc0 hm h1 (by unfold maxLen; omega) (by omega) hx0.size ?_; intro v' w1 hown1 hgr; have hext1 := hx0.push own0 (Nat.le_refl _) hgr; clear hgr own0 hx0))
    simp only [Nat.zero_add, List.nil_append] at hown1
    obtain ⟨ao', cap', rfl, hc', hf'⟩ := own_cells hown1
    go_ret
    exact ⟨ao', cap', rfl, hc', hext1, hf', own_cap hown1, fun ad e => by subst e; exact (hown1.lt _ rfl).2, fun h => by cases h⟩
set_option maxRecDepth 20000 in
theorem clone_Type (ao : Option Addr) (cap m : Nat) (us : List Value) (w : World) (hc : Cells w ao us) (h1 : ∀ u ∈ us, u.oneCell' = true) (hm : us.length = m * 1) (hl : m ≤ 2000000000) :
    Calls Tryz.prog 68 #[.slice ao m cap] w fun e w' => Cloned e w w' ao m us := by
  cases ao with
  | none =>
    obtain rfl : us = [] := by simpa using hc.none_nil
    obtain rfl : m = 0 := by simp at hm; omega
    have he : ∀ w : World, (binOp .eql 25 (.slice none 0 cap) (.slice none 0 0)).run Tryz.prog w = .ok (.bool true) w := fun _ => rfl
    go_enter Tryz.func68, Tryz.ntmps68
    go_wp2_with fail
    go_ret
    exact ⟨none, 0, rfl, Cells.nil _ _, Ext.rf _, (fun _ h => by cases h), Nat.le_refl _, (fun _ h => by cases h), fun _ => ⟨rfl, rfl⟩⟩
  | some ad =>
    have he : ∀ w : World, (binOp .eql 25 (.slice (some ad) m cap) (.slice none 0 0)).run Tryz.prog w = .ok (.bool false) w := fun _ => rfl
    have hx0 := (Ext.rf w).al (.cells #[] 110)
    have own0 := World.ownsRow_lit (base := w.heap.size) (e := 110) (size := 1) w #[] 0 (Nat.le_refl _) (by decide) rfl
    have hc0 := hc.ext hx0
    go_enter Tryz.func68, Tryz.ntmps68
    go_wp2_with (at_builtin; (refine wpList_appendAll rfl (.tmp 5) (.tmp 6) 25 rfl w.heap.size 110 (.int .i64 0) 1 8 Tryz.underlying25 (by kernel_rfl) rfl (by decide) _ 0 _ (some ad) m _ us rfl own0 rfl hc0 hm h1 (by unfold maxLen; omega) (by omega) hx0.size ?_; intro v' w1 hown1 hgr; have hext1 := hx0.push own0 (Nat.le_refl _) hgr; clear hgr own0 hx0))
    simp only [Nat.zero_add, List.nil_append] at hown1
    obtain ⟨ao', cap', rfl, hc', hf'⟩ := own_cells hown1
    go_ret
    exact ⟨ao', cap', rfl, hc', hext1, hf', own_cap hown1, fun ad e => by subst e; exact (hown1.lt _ rfl).2, fun h => by cases h⟩
set_option maxRecDepth 20000 in
theorem clone_Instr (ao : Option Addr) (cap m : Nat) (us : List Value) (w : World) (hc : Cells w ao us) (h1 : ∀ u ∈ us, u.oneCell' = true) (hm : us.length = m * 2) (hl : m ≤ 2000000000) :
    Calls Tryz.prog 69 #[.slice ao m cap] w fun e w' => Cloned e w w' ao m us := by
  cases ao with
  | none =>
    obtain rfl : us = [] := by simpa using hc.none_nil
    obtain rfl : m = 0 := by simp at hm; omega
    have he : ∀ w : World, (binOp .eql 26 (.slice none 0 cap) (.slice none 0 0)).run Tryz.prog w = .ok (.bool true) w := fun _ => rfl
    go_enter Tryz.func69, Tryz.ntmps69
    go_wp2_with fail
    go_ret
    exact ⟨none, 0, rfl, Cells.nil _ _, Ext.rf _, (fun _ h => by cases h), Nat.le_refl _, (fun _ h => by cases h), fun _ => ⟨rfl, rfl⟩⟩
  | some ad =>
    have he : ∀ w : World, (binOp .eql 26 (.slice (some ad) m cap) (.slice none 0 0)).run Tryz.prog w = .ok (.bool false) w := fun _ => rfl
    have hx0 := (Ext.rf w).al (.cells #[] 78)
    have own0 := World.ownsRow_lit (base := w.heap.size) (e := 78) (size := 2) w #[] 0 (Nat.le_refl _) (by decide) rfl
    have hc0 := hc.ext hx0
    go_enter Tryz.func69, Tryz.ntmps69
    go_wp2_with (at_builtin; (refine wpList_appendAll rfl (.tmp 5) (.tmp 6) 26 rfl w.heap.size 78 (.agg #[.int .i64 0, .int .i64 0]) 2 16 Tryz.underlying26 (by kernel_rfl) rfl (by decide) _ 0 _ (some ad) m _ us rfl own0 rfl hc0 hm h1 (by unfold maxLen; omega) (by omega) hx0.size ?_; intro v' w1 hown1 hgr; have hext1 := hx0.push own0 (Nat.le_refl _) hgr; clear hgr own0 hx0))
    simp only [Nat.zero_add, List.nil_append] at hown1
    obtain ⟨ao', cap', rfl, hc', hf'⟩ := own_cells hown1
    go_ret
    exact ⟨ao', cap', rfl, hc', hext1, hf', own_cap hown1, fun ad e => by subst e; exact (hown1.lt _ rfl).2, fun h => by cases h⟩
set_option maxRecDepth 20000 in
theorem clone_Int (ao : Option Addr) (cap m : Nat) (us : List Value) (w : World) (hc : Cells w ao us) (h1 : ∀ u ∈ us, u.oneCell' = true) (hm : us.length = m * 1) (hl : m ≤ 2000000000) :
    Calls Tryz.prog 70 #[.slice ao m cap] w fun e w' => Cloned e w w' ao m us := by
  cases ao with
  | none =>
    obtain rfl : us = [] := by simpa using hc.none_nil
    obtain rfl : m = 0 := by simp at hm; omega
    have he : ∀ w : World, (binOp .eql 27 (.slice none 0 cap) (.slice none 0 0)).run Tryz.prog w = .ok (.bool true) w := fun _ => rfl
    go_enter Tryz.func70, Tryz.ntmps70
    go_wp2_with fail
    go_ret
    exact ⟨none, 0, rfl, Cells.nil _ _, Ext.rf _, (fun _ h => by cases h), Nat.le_refl _, (fun _ h => by cases h), fun _ => ⟨rfl, rfl⟩⟩
  | some ad =>
    have he : ∀ w : World, (binOp .eql 27 (.slice (some ad) m cap) (.slice none 0 0)).run Tryz.prog w = .ok (.bool false) w := fun _ => rfl
    have hx0 := (Ext.rf w).al (.cells #[] 3)
    have own0 := World.ownsRow_lit (base := w.heap.size) (e := 3) (size := 1) w #[] 0 (Nat.le_refl _) (by decide) rfl
    have hc0 := hc.ext hx0
    go_enter Tryz.func70, Tryz.ntmps70
    go_wp2_with (at_builtin; (refine wpList_appendAll rfl (.tmp 5) (.tmp 6) 27 rfl w.heap.size 3 (.int .i64 0) 1 8 Tryz.underlying27 (by kernel_rfl) rfl (by decide) _ 0 _ (some ad) m _ us rfl own0 rfl hc0 hm h1 (by unfold maxLen; omega) (by omega) hx0.size ?_; intro v' w1 hown1 hgr; have hext1 := hx0.push own0 (Nat.le_refl _) hgr; clear hgr own0 hx0))
    simp only [Nat.zero_add, List.nil_append] at hown1
    obtain ⟨ao', cap', rfl, hc', hf'⟩ := own_cells hown1
    go_ret
    exact ⟨ao', cap', rfl, hc', hext1, hf', own_cap hown1, fun ad e => by subst e; exact (hown1.lt _ rfl).2, fun h => by cases h⟩
set_option maxRecDepth 20000 in
theorem clone_Node (ao : Option Addr) (cap m : Nat) (us : List Value) (w : World) (hc : Cells w ao us) (h1 : ∀ u ∈ us, u.oneCell' = true) (hm : us.length = m * 7) (hl : m ≤ 2000000000) :
    Calls Tryz.prog 71 #[.slice ao m cap] w fun e w' => Cloned e w w' ao m us := by
  cases ao with
  | none =>
    obtain rfl : us = [] := by simpa using hc.none_nil
    obtain rfl : m = 0 := by simp at hm; omega
    have he : ∀ w : World, (binOp .eql 28 (.slice none 0 cap) (.slice none 0 0)).run Tryz.prog w = .ok (.bool true) w := fun _ => rfl
    go_enter Tryz.func71, Tryz.ntmps71
    go_wp2_with fail
    go_ret
    exact ⟨none, 0, rfl, Cells.nil _ _, Ext.rf _, (fun _ h => by cases h), Nat.le_refl _, (fun _ h => by cases h), fun _ => ⟨rfl, rfl⟩⟩
  | some ad =>
    have he : ∀ w : World, (binOp .eql 28 (.slice (some ad) m cap) (.slice none 0 0)).run Tryz.prog w = .ok (.bool false) w := fun _ => rfl
    have hx0 := (Ext.rf w).al (.cells #[] 115)
    have own0 := World.ownsRow_lit (base := w.heap.size) (e := 115) (size := 7) w #[] 0 (Nat.le_refl _) (by decide) rfl
    have hc0 := hc.ext hx0
    go_enter Tryz.func71, Tryz.ntmps71
    go_wp2_with (at_builtin; (refine wpList_appendAll rfl (.tmp 5) (.tmp 6) 28 rfl w.heap.size 115 (.agg #[.int .i64 0, .int .i64 0, .int .i64 0, .int .i64 0, .int .i64 0, .int .i64 0, .int .i64 0]) 7 56 Tryz.underlying28 (by kernel_rfl) rfl (by decide) _ 0 _ (some ad) m _ us rfl own0 rfl hc0 hm h1 (by unfold maxLen; omega) (by omega) hx0.size ?_; intro v' w1 hown1 hgr; have hext1 := hx0.push own0 (Nat.le_refl _) hgr; clear hgr own0 hx0))
    simp only [Nat.zero_add, List.nil_append] at hown1
    obtain ⟨ao', cap', rfl, hc', hf'⟩ := own_cells hown1
    go_ret
    exact ⟨ao', cap', rfl, hc', hext1, hf', own_cap hown1, fun ad e => by subst e; exact (hown1.lt _ rfl).2, fun h => by cases h⟩
set_option maxRecDepth 20000 in
theorem clone_Set (ao : Option Addr) (cap m : Nat) (us : List Value) (w : World) (hc : Cells w ao us) (h1 : ∀ u ∈ us, u.oneCell' = true) (hm : us.length = m * 4) (hl : m ≤ 2000000000) :
    Calls Tryz.prog 72 #[.slice ao m cap] w fun e w' => Cloned e w w' ao m us := by
  cases ao with
  | none =>
    obtain rfl : us = [] := by simpa using hc.none_nil
    obtain rfl : m = 0 := by simp at hm; omega
    have he : ∀ w : World, (binOp .eql 29 (.slice none 0 cap) (.slice none 0 0)).run Tryz.prog w = .ok (.bool true) w := fun _ => rfl
    go_enter Tryz.func72, Tryz.ntmps72
    go_wp2_with fail
    go_ret
    exact ⟨none, 0, rfl, Cells.nil _ _, Ext.rf _, (fun _ h => by cases h), Nat.le_refl _, (fun _ h => by cases h), fun _ => ⟨rfl, rfl⟩⟩
  | some ad =>
    have he : ∀ w : World, (binOp .eql 29 (.slice (some ad) m cap) (.slice none 0 0)).run Tryz.prog w = .ok (.bool false) w := fun _ => rfl
    have hx0 := (Ext.rf w).al (.cells #[] 118)
    have own0 := World.ownsRow_lit (base := w.heap.size) (e := 118) (size := 4) w #[] 0 (Nat.le_refl _) (by decide) rfl
    have hc0 := hc.ext hx0
    go_enter Tryz.func72, Tryz.ntmps72
    go_wp2_with (at_builtin; (refine wpList_appendAll rfl (.tmp 5) (.tmp 6) 29 rfl w.heap.size 118 (.agg #[.int .u64 0, .int .u64 0, .int .u64 0, .int .u64 0]) 4 32 Tryz.underlying29 (by kernel_rfl) rfl (by decide) _ 0 _ (some ad) m _ us rfl own0 rfl hc0 hm h1 (by unfold maxLen; omega) (by omega) hx0.size ?_; intro v' w1 hown1 hgr; have hext1 := hx0.push own0 (Nat.le_refl _) hgr; clear hgr own0 hx0))
    simp only [Nat.zero_add, List.nil_append] at hown1
    obtain ⟨ao', cap', rfl, hc', hf'⟩ := own_cells hown1
    go_ret
    exact ⟨ao', cap', rfl, hc', hext1, hf', own_cap hown1, fun ad e => by subst e; exact (hown1.lt _ rfl).2, fun h => by cases h⟩
/-- One more function that is an operation. -/
theorem KOk.more {P : Program} {f0 : FuncId} {g : List T → Hp → Option (T × Hp)} {K : CallFn} (h0 : KOk P fun f a h => if f = f0 then g a h else none) (hK : KOk P K) : KOk P fun f a h => if f = f0 then g a h else K f a h := fun f a h res h' hc => by
  simp only at hc
  by_cases hf : f = f0
  · rw [if_pos hf] at hc
    exact h0 f a h res h' (by simp only; rw [if_pos hf]; exact hc)
  · rw [if_neg hf] at hc
    exact hK f a h res h' hc
theorem clone_ok {P : Program} {f0 : FuncId} {sz bd : Nat} (h0 : 0 < sz) (hf : ∃ fn, P.funcs[f0]? = some fn ∧ fn.body.isSome = true ∧ (fn.name == "runtime.NumGoroutine") = false)
    (hC : ∀ (ao : Option Addr) (cap m : Nat) (us : List Value) (w : World), Cells w ao us → (∀ u ∈ us, u.oneCell' = true) → us.length = m * sz → m ≤ bd → Calls P f0 #[.slice ao m cap] w fun e w' => Cloned e w w' ao m us) :
    KOk P fun f a h => if f = f0 then cloneX sz bd a h else none := fun f a h res h' hc => by
  simp only at hc
  split at hc
  case isFalse => cases hc
  rename_i hf2
  subst hf2
  refine ⟨hf, fun W who L vs H hl R => ?_⟩
  unfold cloneX at hc
  split at hc
  · rename_i s es
    split at hc
    case isFalse => cases hc
    rename_i hle
    obtain ⟨rfl, hle⟩ := hle
    cases hc
    obtain ⟨v, rfl⟩ : ∃ v, vs = [v] := by
      match vs, hl with
      | [v], _ => exact ⟨v, rfl⟩
    obtain ⟨x, hx, hr⟩ := R 0 _ v rfl rfl
    cases hx
    cases hr with
    | fz _ cap _ ao us hu hcap ha hw hrg hlen hrep =>
      have hC1 : Cells W ao us := ⟨fun hne => ha (fun e0 => hne (by subst e0; simpa using hlen.symm)), fun b off e j u hj => hrg b off e j u hj⟩
      have hul : us.length = es.length * s := by rw [← hlen, flatten_len es hu]
      have hus : RepCs W who es.flatten us := ⟨hlen, hrep⟩
      refine (hC ao cap es.length us W hC1 hus.one hul hle).mono fun e W' ⟨ao', cap', he, hC', hx, hfr, hcap', hlt, _⟩ => ?_
      obtain ⟨H', S'⟩ := ext_frozen H hx
      refine ⟨_, _, L, he, ⟨_, rfl, ?_⟩, H', S'.any⟩
      have hne : es ≠ [] → us ≠ [] := fun h1 e0 => h1 (List.eq_nil_of_length_eq_zero (by
        subst e0
        rcases Nat.mul_eq_zero.1 hul.symm with h | h
        · exact h
        · omega))
      refine .fz s cap' es ao' us hu hcap' (fun h0 => hC'.addr (hne h0)) (fun b off h0 e => ?_) (fun b off e j u hj => hC'.cell b off e j u hj) hlen (fun i c u h1 h2 => S'.repC (hrep i c u h1 h2))
      have hb := hlt _ e
      have hb2 := hfr _ e
      exact ⟨if_neg (by simp only at hb2; omega), hb⟩
  · cases hc
    obtain ⟨v, rfl⟩ : ∃ v, vs = [v] := by
      match vs, hl with
      | [v], _ => exact ⟨v, rfl⟩
    obtain ⟨x, hx, hr⟩ := R 0 _ v rfl rfl
    cases hx
    cases hr
    refine (hC none 0 0 [] W (Cells.nil _ _) (by simp) (by simp) (by omega)).mono fun e W' ⟨ao', cap', he, hC', hx, hfr, hcap', hlt, hn⟩ => ?_
    obtain ⟨rfl, rfl⟩ := hn rfl
    obtain ⟨H', S'⟩ := ext_frozen H hx
    exact ⟨_, _, L, he, ⟨_, rfl, .v _ rfl⟩, H', S'.any⟩
  · cases hc
theorem KOk.none {P : Program} : KOk P fun _ _ _ => none := fun f a h res h' hc => by cases hc
def baseC : CallFn := fun f a h =>
  if f = 33 then cloneX 1 140737488351232 a h else
  if f = 68 then cloneX 1 2000000000 a h else
  if f = 69 then cloneX 2 2000000000 a h else
  if f = 70 then cloneX 1 2000000000 a h else
  if f = 71 then cloneX 7 2000000000 a h else
  if f = 72 then cloneX 4 2000000000 a h else
  none
theorem baseC_ok : KOk Tryz.prog baseC :=
  .more (clone_ok (by decide) ⟨_, Tryz.func33, by kernel_rfl, by kernel_rfl⟩ fun ao cap m us w h1 h2 h3 h4 => clone_byte ao cap m us w h1 h2 h3 h4) <|
  .more (clone_ok (by decide) ⟨_, Tryz.func68, by kernel_rfl, by kernel_rfl⟩ fun ao cap m us w h1 h2 h3 h4 => clone_Type ao cap m us w h1 h2 h3 h4) <|
  .more (clone_ok (by decide) ⟨_, Tryz.func69, by kernel_rfl, by kernel_rfl⟩ fun ao cap m us w h1 h2 h3 h4 => clone_Instr ao cap m us w h1 h2 h3 h4) <|
  .more (clone_ok (by decide) ⟨_, Tryz.func70, by kernel_rfl, by kernel_rfl⟩ fun ao cap m us w h1 h2 h3 h4 => clone_Int ao cap m us w h1 h2 h3 h4) <|
  .more (clone_ok (by decide) ⟨_, Tryz.func71, by kernel_rfl, by kernel_rfl⟩ fun ao cap m us w h1 h2 h3 h4 => clone_Node ao cap m us w h1 h2 h3 h4) <|
  .more (clone_ok (by decide) ⟨_, Tryz.func72, by kernel_rfl, by kernel_rfl⟩ fun ao cap m us w h1 h2 h3 h4 => clone_Set ao cap m us w h1 h2 h3 h4) <|
  .none
end Go.Proofs.YtkdnbnkbnegckaaGreat
