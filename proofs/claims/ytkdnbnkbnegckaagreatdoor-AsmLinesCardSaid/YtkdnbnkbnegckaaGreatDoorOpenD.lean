/- How data that came in are opened, whatever their type: a relation between an element's cells and a value of Lean's, put together along the type. How data that came in are opened: bytes with their capacity and their weight, pairs of ints with their bounds, texts. How data that came in are opened, with their weights: what a machine can reach bounds each slice and each text. How data that came in are opened, as the second machine's data: along their type. -/
import Derived.Test.YtkdnbnkbnegckaaGreatDoorBase
import Derived.Test.YtkdnbnkbnegckaaGreatDoorStrA
import Derived.ProofKit
import Derived.Deep.Slices
import Derived.SizedLaws
import Derived.Test.YtkdnbnkbnegckaaGreatDoorData
import Derived.Test.YtkdnbnkbnegckaaGreatDoorSigP
import Derived.OpenShut
namespace Go.Proofs.YtkdnbnkbnegckaaGreatDoor
open Go.RowKit Go.WideShapes

/-- Whatever reads as data of type t stands in the relation R to some value. -/
def Opens (P : Program) (t : TypeId) {α : Type} (R : World → List Value → α → Prop) : Prop :=
  ∀ (H : Type) (enc : TypeId × Value → H) (w : World) (base : Nat) (spare : Nat → Bool) (held : Bool) (fuel : Nat) (cs : List Value) (x : DataW H × List MemPlace),
    DataW.trod enc P w base spare held fuel t cs = some x → ∃ a, R w cs a

def ConsR {α β : Type} (n : Nat) (R : World → List Value → α → Prop) (S : World → List Value → β → Prop) : World → List Value → α × β → Prop :=
  fun w cs a => ∃ c d, cs = c ++ d ∧ c.length = n ∧ R w c a.1 ∧ S w d a.2

/-- Lists of elements' cells stand in the relation R to a list, one by one. -/
def AllR {α : Type} (size : Nat) (R : World → List Value → α → Prop) (w : World) : List (List Value) → List α → Prop
  | [], [] => True
  | c :: cs, x :: xs => c.length = size ∧ R w c x ∧ AllR size R w cs xs
  | _, _ => False

section
variable {P : Program} {t : TypeId}

theorem Opens.mono {α β : Type} {R : World → List Value → α → Prop} {S : World → List Value → β → Prop} (h : Opens P t R) (g : α → β) (hg : ∀ w cs a, R w cs a → S w cs (g a)) : Opens P t S :=
  fun H enc w base spare held fuel cs x hx => let ⟨a, ha⟩ := h H enc w base spare held fuel cs x hx; ⟨g a, hg w cs a ha⟩

/-- The fields of a struct, from one on. -/
def OpensF (P : Program) (fs : List Field) (off : Nat) {α : Type} (R : World → List Value → α → Prop) : Prop :=
  ∀ (H : Type) (enc : TypeId × Value → H) (w : World) (base : Nat) (spare : Nat → Bool) (held : Bool) (fuel : Nat) (cs : List Value),
    (∀ (i : Nat) (f : Field), fs[i]? = some f → ∃ x, DataW.trod enc P w base spare held fuel f.type ((cs.drop f.offset).take (P.cellsOf f.type)) = some x) → ∃ a, R w (cs.drop off) a

theorem OpensF.cons {f : Field} {fs : List Field} {off n : Nat} {α β : Type} {R : World → List Value → α → Prop} {S : World → List Value → β → Prop} (ho : f.offset = off) (hn : P.cellsOf f.type = n)
    (hR : Opens P f.type R) (hlen : ∀ w c a, R w c a → c.length = n) (hS : OpensF P fs (off + n) S) : OpensF P (f :: fs) off (ConsR n R S) := by
  intro H enc w base spare held fuel cs h
  obtain ⟨x, hx⟩ := h 0 f rfl
  obtain ⟨a, ha⟩ := hR H enc w base spare held fuel _ x hx
  obtain ⟨b, hb⟩ := hS H enc w base spare held fuel cs (fun i g hg => h (i + 1) g (by simpa using hg))
  have hl := hlen _ _ _ ha
  refine ⟨(a, b), _, _, ?_, hl, ha, hb⟩
  rw [ho, hn, ← List.drop_drop]
  exact (List.take_append_drop n _).symm

theorem OpensF.nil {off : Nat} (m : Nat) (hm : m = off) : OpensF P [] off (fun _ cs (_ : Unit) => ∀ (c : Nat), c ≤ m → cs.length = c - off → cs = []) := by
  intro H enc w base spare held fuel cs _
  exact ⟨(), fun c hc hl => List.eq_nil_of_length_eq_zero (by omega)⟩

theorem AllR.map {α β : Type} {size : Nat} {R : World → List Value → α → Prop} {S : World → List Value → β → Prop} {w : World} {g : α → β} (hg : ∀ cs a, R w cs a → S w cs (g a)) :
    ∀ {ecs : List (List Value)} {xs : List α}, AllR size R w ecs xs → AllR size S w ecs (xs.map g)
  | [], [], _ => trivial
  | _ :: _, _ :: _, ⟨hl, h, hs⟩ => ⟨hl, hg _ _ h, AllR.map hg hs⟩

theorem getElem?_flatten {size : Nat} : ∀ (ecs : List (List Value)) (_ : ∀ c ∈ ecs, c.length = size) (j : Nat) (u : Value), ecs.flatten[j]? = some u →
    0 < size ∧ j / size < ecs.length ∧ ∃ c, ecs[j / size]? = some c ∧ c[j % size]? = some u := by
  intro ecs
  induction ecs with
  | nil => intro _ j u h; simp at h
  | cons c ecs ih =>
    intro hs j u h
    have hc := hs c (by simp)
    rw [List.flatten_cons] at h
    by_cases hj : j < size
    · rw [List.getElem?_append_left (by omega)] at h
      have h1 : j / size = 0 := Nat.div_eq_of_lt hj
      have h2 : j % size = j := Nat.mod_eq_of_lt hj
      exact ⟨by omega, by rw [h1]; simp, c, by rw [h1]; rfl, by rw [h2]; exact h⟩
    · rw [List.getElem?_append_right (by omega), hc] at h
      obtain ⟨h0, h1, c', h2, h3⟩ := ih (fun c hc => hs c (by simp [hc])) (j - size) u h
      have hd : j / size = (j - size) / size + 1 := by rw [← Nat.sub_add_cancel (show size ≤ j by omega), Nat.add_div_right _ h0]; simp
      have hm : j % size = (j - size) % size := by rw [Nat.mod_eq_sub_mod (by omega)]
      exact ⟨h0, by rw [hd]; simp; exact h1, c', by rw [hd]; simpa using h2, by rw [hm]; exact h3⟩

end
theorem AllR.flat {α : Type} {size : Nat} {enc : α → List Value} {w : World} : ∀ {ecs : List (List Value)} {xs : List α}, AllR size (fun _ cs a => cs = enc a) w ecs xs → ecs.flatten = xs.flatMap enc
  | [], [], _ => rfl
  | _ :: _, _ :: _, ⟨_, h, hs⟩ => by rw [List.flatten_cons, List.flatMap_cons, h, AllR.flat hs]

end Go.Proofs.YtkdnbnkbnegckaaGreatDoor
namespace Go.Proofs.YtkdnbnkbnegckaaGreatDoor
open Go.RowKit Go.WideShapes

end Go.Proofs.YtkdnbnkbnegckaaGreatDoor
namespace Go.Proofs.YtkdnbnkbnegckaaGreatDoor
open Go.RowKit Go.WideShapes

/-- Whatever reads as data of type t, and weighs no more than can be reached, stands in the relation R to some value. -/
def OpensW (P : Program) (t : TypeId) {α : Type} (R : World → List Value → α → Prop) : Prop :=
  ∀ (H : Type) (enc : TypeId × Value → H) (w : World) (base : Nat) (spare : Nat → Bool) (held : Bool) (fuel : Nat) (cs : List Value) (x : DataW H × List MemPlace),
    DataW.trod enc P w base spare held fuel t cs = some x → (∀ n ∈ x.1.weights P t, n ≤ reachBytes) → ∃ a, R w cs a

section
variable {P : Program} {t : TypeId}

theorem OpensW.mono {α β : Type} {R : World → List Value → α → Prop} {S : World → List Value → β → Prop} (h : OpensW P t R) (g : α → β) (hg : ∀ w cs a, R w cs a → S w cs (g a)) : OpensW P t S :=
  fun H enc w base spare held fuel cs x hx hw => let ⟨a, ha⟩ := h H enc w base spare held fuel cs x hx hw; ⟨g a, hg w cs a ha⟩
/-- The fields of a struct, from one on. -/
def OpensFW (P : Program) (fs : List Field) (off : Nat) {α : Type} (R : World → List Value → α → Prop) : Prop :=
  ∀ (H : Type) (enc : TypeId × Value → H) (w : World) (base : Nat) (spare : Nat → Bool) (held : Bool) (fuel : Nat) (cs : List Value) (xs : List (DataW H × List MemPlace)),
    xs.length = fs.length → (∀ (i : Nat) (f : Field), fs[i]? = some f → DataW.trod enc P w base spare held fuel f.type ((cs.drop f.offset).take (P.cellsOf f.type)) = xs[i]?) →
    (∀ n ∈ DataW.weightsEach P (fs.map (·.type)) (xs.map (·.1)), n ≤ reachBytes) → ∃ a, R w (cs.drop off) a

theorem OpensFW.cons {f : Field} {fs : List Field} {off n : Nat} {α β : Type} {R : World → List Value → α → Prop} {S : World → List Value → β → Prop} (ho : f.offset = off) (hn : P.cellsOf f.type = n)
    (hR : OpensW P f.type R) (hlen : ∀ w c a, R w c a → c.length = n) (hS : OpensFW P fs (off + n) S) : OpensFW P (f :: fs) off (ConsR n R S) := by
  intro H enc w base spare held fuel cs xs hl h hw
  match xs, hl with
  | x :: xs, hl =>
    have h0 := h 0 f rfl
    simp only [List.getElem?_cons_zero] at h0
    simp only [List.map_cons, DataW.weightsEach, List.mem_append] at hw
    obtain ⟨a, ha⟩ := hR H enc w base spare held fuel _ x h0 (fun n hn => hw n (.inl hn))
    obtain ⟨b, hb⟩ := hS H enc w base spare held fuel cs xs (by simpa using hl) (fun i g hg => by simpa using h (i + 1) g (by simpa using hg)) (fun n hn => hw n (.inr hn))
    have hl := hlen _ _ _ ha
    refine ⟨(a, b), _, _, ?_, hl, ha, hb⟩
    rw [ho, hn, ← List.drop_drop]
    exact (List.take_append_drop n _).symm

theorem OpensFW.nil {off : Nat} : OpensFW P [] off (fun _ _ (_ : Unit) => True) := by
  intro H enc w base spare held fuel cs xs _ _ _
  exact ⟨(), trivial⟩

end
end Go.Proofs.YtkdnbnkbnegckaaGreatDoor
namespace Go.Proofs.YtkdnbnkbnegckaaGreatDoor
open Go.RowKit Go.WideShapes

def okI : (k : IntKind) → DI k → Prop
  | .i64, n => I64 n
  | .u64, n => (0 : Int) ≤ n ∧ n < 18446744073709551616
  | _, _ => True
/-- Numbers of a word, texts and rows that a machine can reach. -/
def OkD : (τ : Ty) → Data τ → Prop
  | .int k, x => okI k x
  | .bool, _ => True
  | .str, x => x.length ≤ 140737488351232
  | .sl _ e, x => x.length ≤ 140737488351232 ∧ ∀ y ∈ x, OkD e y
  | .nul, _ => True
  | .pr a b, x => OkD a x.1 ∧ OkD b x.2
def DatR (τ : Ty) : World → List Value → Data τ → Prop := fun w cs x => RepCs w W0 (enc τ x) cs ∧ OkD τ x
theorem DatR.len {τ : Ty} {w : World} {cs : List Value} {x : Data τ} (h : DatR τ w cs x) : cs.length = width τ := by rw [← h.1.1, enc_len]
theorem repCs_one {w : World} {c : C} {v : Value} (h : RepC w W0 c v) : RepCs w W0 [c] [v] := ⟨rfl, fun i c' u h1 h2 => by
  cases i with
  | zero => cases h1; cases h2; exact h
  | succ i => simp at h1⟩
section
variable {P : Program} {t : TypeId}
end
theorem repCs_xs {w : World} {cs : List C} {us : List Value} (h : RepCs w W0 cs us) : RepXs w W0 L0 ⟨[], []⟩ (cs.map .c) us := ⟨by simpa using h.1, fun i x u h1 h2 => by
  rw [List.getElem?_map] at h1
  cases hc : cs[i]? with
  | none => rw [hc] at h1; cases h1
  | some c =>
    rw [hc] at h1
    cases h1
    exact ⟨h.2 i c u hc h2, h.one u (List.mem_of_getElem? h2)⟩⟩
end Go.Proofs.YtkdnbnkbnegckaaGreatDoor
