/- How data that came in are opened, whatever their type: a relation between an element's cells and a value of Lean's, put together along the type. How data that came in are opened: bytes with their capacity and their weight, pairs of ints with their bounds, texts. -/
import Derived.Test.YtkdnbnkbnegckaaBase
import Derived.Test.YtkdnbnkbnegckaaStrA
import Derived.ProofKit
import Derived.Deep.Slices
import Derived.SizedLaws
namespace Go.Proofs.Ytkdnbnkbnegckaa
open Go.RowKit Go.WideShapes

/-- Whatever reads as data of type t stands in the relation R to some value. -/
def Opens (P : Program) (t : TypeId) {α : Type} (R : World → List Value → α → Prop) : Prop :=
  ∀ (H : Type) (enc : TypeId × Value → H) (w : World) (base : Nat) (spare : Nat → Bool) (held : Bool) (fuel : Nat) (cs : List Value) (x : DataW H × List MemPlace),
    DataW.trod enc P w base spare held fuel t cs = some x → ∃ a, R w cs a

def IntR (k : IntKind) : World → List Value → Int → Prop := fun _ cs n => cs = [.int k n] ∧ (Lit.int k n).wf = true
def BoolR : World → List Value → Bool → Prop := fun _ cs b => cs = [.bool b]
def ConsR {α β : Type} (n : Nat) (R : World → List Value → α → Prop) (S : World → List Value → β → Prop) : World → List Value → α × β → Prop :=
  fun w cs a => ∃ c d, cs = c ++ d ∧ c.length = n ∧ R w c a.1 ∧ S w d a.2

/-- Lists of elements' cells stand in the relation R to a list, one by one. -/
def AllR {α : Type} (size : Nat) (R : World → List Value → α → Prop) (w : World) : List (List Value) → List α → Prop
  | [], [] => True
  | c :: cs, x :: xs => c.length = size ∧ R w c x ∧ AllR size R w cs xs
  | _, _ => False

theorem add_add (a : Addr) (q r : Nat) : (a.add q).add r = a.add (q + r) := by
  unfold Addr.add
  repeat' split
  all_goals simp_all [Nat.add_assoc]

section
variable {P : Program} {t : TypeId}

theorem Opens.mono {α β : Type} {R : World → List Value → α → Prop} {S : World → List Value → β → Prop} (h : Opens P t R) (g : α → β) (hg : ∀ w cs a, R w cs a → S w cs (g a)) : Opens P t S :=
  fun H enc w base spare held fuel cs x hx => let ⟨a, ha⟩ := h H enc w base spare held fuel cs x hx; ⟨g a, hg w cs a ha⟩

theorem opens_int {k : IntKind} (ht : P.underlying t = some (.int k)) : Opens P t (IntR k) :=
  fun _ _ _ _ _ _ _ _ _ h => let ⟨n, e, _, hw⟩ := DataW.trod_int ht h; ⟨n, e, hw⟩
theorem opens_bool (ht : P.underlying t = some .bool) : Opens P t BoolR :=
  fun _ _ _ _ _ _ _ _ _ h => let ⟨b, e, _⟩ := DataW.trod_bool ht h; ⟨b, e⟩
/-- The fields of a struct, from one on. -/
def OpensF (P : Program) (fs : List Field) (off : Nat) {α : Type} (R : World → List Value → α → Prop) : Prop :=
  ∀ (H : Type) (enc : TypeId × Value → H) (w : World) (base : Nat) (spare : Nat → Bool) (held : Bool) (fuel : Nat) (cs : List Value),
    (∀ (i : Nat) (f : Field), fs[i]? = some f → ∃ x, DataW.trod enc P w base spare held fuel f.type ((cs.drop f.offset).take (P.cellsOf f.type)) = some x) → ∃ a, R w (cs.drop off) a

theorem OpensF.cons {f : Field} {fs : List Field} {off n : Nat} {α β : Type} {R : World → List Value → α → Prop} {S : World → List Value → β → Prop} (ho : f.offset = off) (hn : P.cellsOf f.type = n)
    (hR : Opens P f.type R) (hlen : ∀ w c a, R w c a → c.length = n) (hS : OpensF P fs (off + n) S) : OpensF P (f :: fs) off (ConsR n R S) := by
  intro H enc w base spare held fuel cs h
  obtain ⟨x, hx⟩ := h 0 f rfl
  obtain ⟨a, ha⟩ := hR H enc w base spare held fuel _ x hx
  obtain ⟨b, hb⟩ := hS H enc w base spare held fuel cs (fun i g hg => h (i + 1) g (by simpa using hg))
  have hl := hlen _ _ _ ha
  refine ⟨(a, b), _, _, ?_, hl, ha, hb⟩
  rw [ho, hn, ← List.drop_drop]
  exact (List.take_append_drop n _).symm

theorem OpensF.nil {off : Nat} (m : Nat) (hm : m = off) : OpensF P [] off (fun _ cs (_ : Unit) => ∀ (c : Nat), c ≤ m → cs.length = c - off → cs = []) := by
  intro H enc w base spare held fuel cs _
  exact ⟨(), fun c hc hl => List.eq_nil_of_length_eq_zero (by omega)⟩

theorem AllR.map {α β : Type} {size : Nat} {R : World → List Value → α → Prop} {S : World → List Value → β → Prop} {w : World} {g : α → β} (hg : ∀ cs a, R w cs a → S w cs (g a)) :
    ∀ {ecs : List (List Value)} {xs : List α}, AllR size R w ecs xs → AllR size S w ecs (xs.map g)
  | [], [], _ => trivial
  | _ :: _, _ :: _, ⟨hl, h, hs⟩ => ⟨hl, hg _ _ h, AllR.map hg hs⟩

theorem allR_of {α : Type} {size : Nat} {R : World → List Value → α → Prop} {w : World} (E : Nat → List Value) : ∀ (n : Nat), (∀ i, i < n → (E i).length = size ∧ ∃ a, R w (E i) a) →
    ∃ xs : List α, xs.length = n ∧ AllR size R w ((List.range n).map E) xs := by
  intro n
  induction n generalizing E with
  | zero => intro _; exact ⟨[], rfl, trivial⟩
  | succ n ih =>
    intro h
    obtain ⟨xs, hl, hx⟩ := ih (fun i => E (i + 1)) (fun i hi => h (i + 1) (by omega))
    obtain ⟨h0, a, ha⟩ := h 0 (by omega)
    refine ⟨a :: xs, by simp [hl], ?_⟩
    rw [List.range_succ_eq_map]
    simp only [List.map_cons, List.map_map]
    exact ⟨h0, ha, hx⟩

theorem getElem?_flatten {size : Nat} : ∀ (ecs : List (List Value)) (_ : ∀ c ∈ ecs, c.length = size) (j : Nat) (u : Value), ecs.flatten[j]? = some u →
    0 < size ∧ j / size < ecs.length ∧ ∃ c, ecs[j / size]? = some c ∧ c[j % size]? = some u := by
  intro ecs
  induction ecs with
  | nil => intro _ j u h; simp at h
  | cons c ecs ih =>
    intro hs j u h
    have hc := hs c (by simp)
    rw [List.flatten_cons] at h
    by_cases hj : j < size
    · rw [List.getElem?_append_left (by omega)] at h
      have h1 : j / size = 0 := Nat.div_eq_of_lt hj
      have h2 : j % size = j := Nat.mod_eq_of_lt hj
      exact ⟨by omega, by rw [h1]; simp, c, by rw [h1]; rfl, by rw [h2]; exact h⟩
    · rw [List.getElem?_append_right (by omega), hc] at h
      obtain ⟨h0, h1, c', h2, h3⟩ := ih (fun c hc => hs c (by simp [hc])) (j - size) u h
      have hd : j / size = (j - size) / size + 1 := by rw [← Nat.sub_add_cancel (show size ≤ j by omega), Nat.add_div_right _ h0]; simp
      have hm : j % size = (j - size) % size := by rw [Nat.mod_eq_sub_mod (by omega)]
      exact ⟨h0, by rw [hd]; simp; exact h1, c', by rw [hd]; simpa using h2, by rw [hm]; exact h3⟩

theorem AllR.lens {α : Type} {size : Nat} {R : World → List Value → α → Prop} {w : World} : ∀ {ecs : List (List Value)} {xs : List α}, AllR size R w ecs xs → ecs.length = xs.length ∧ ∀ c ∈ ecs, c.length = size
  | [], [], _ => ⟨rfl, by simp⟩
  | _ :: _, _ :: _, ⟨hl, _, hs⟩ => by
    obtain ⟨h1, h2⟩ := AllR.lens hs
    refine ⟨by simp [h1], ?_⟩
    intro c hc
    rcases List.mem_cons.1 hc with rfl | hc
    · exact hl
    · exact h2 c hc

end
theorem AllR.flat {α : Type} {size : Nat} {enc : α → List Value} {w : World} : ∀ {ecs : List (List Value)} {xs : List α}, AllR size (fun _ cs a => cs = enc a) w ecs xs → ecs.flatten = xs.flatMap enc
  | [], [], _ => rfl
  | _ :: _, _ :: _, ⟨_, h, hs⟩ => by rw [List.flatten_cons, List.flatMap_cons, h, AllR.flat hs]

end Go.Proofs.Ytkdnbnkbnegckaa
namespace Go.Proofs.Ytkdnbnkbnegckaa
open Go.RowKit Go.WideShapes

theorem wf_i64 {n : Int} (h : (Lit.int .i64 n).wf = true) : -9223372036854775808 ≤ n ∧ n ≤ 9223372036854775807 := by
  simp [Lit.wf, IntKind.min, IntKind.max, IntKind.signed, IntKind.bits] at h
  omega
end Go.Proofs.Ytkdnbnkbnegckaa
