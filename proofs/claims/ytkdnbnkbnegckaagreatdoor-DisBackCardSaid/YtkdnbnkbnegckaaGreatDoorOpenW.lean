/- How data that came in are opened, whatever their type: a relation between an element's cells and a value of Lean's, put together along the type. How data that came in are opened: bytes with their capacity and their weight, pairs of ints with their bounds, texts. How data that came in are opened, with their weights: what a machine can reach bounds each slice and each text. -/
import Derived.Test.YtkdnbnkbnegckaaGreatDoorBase
import Derived.Test.YtkdnbnkbnegckaaGreatDoorStrA
import Derived.ProofKit
import Derived.Deep.Slices
import Derived.SizedLaws
import Derived.Test.YtkdnbnkbnegckaaGreatDoorCurW
namespace Go.Proofs.YtkdnbnkbnegckaaGreatDoor
open Go.RowKit Go.WideShapes

/-- Whatever reads as data of type t stands in the relation R to some value. -/
def Opens (P : Program) (t : TypeId) {α : Type} (R : World → List Value → α → Prop) : Prop :=
  ∀ (H : Type) (enc : TypeId × Value → H) (w : World) (base : Nat) (spare : Nat → Bool) (held : Bool) (fuel : Nat) (cs : List Value) (x : DataW H × List MemPlace),
    DataW.trod enc P w base spare held fuel t cs = some x → ∃ a, R w cs a

def IntR (k : IntKind) : World → List Value → Int → Prop := fun _ cs n => cs = [.int k n] ∧ (Lit.int k n).wf = true
def BoolR : World → List Value → Bool → Prop := fun _ cs b => cs = [.bool b]
def ConsR {α β : Type} (n : Nat) (R : World → List Value → α → Prop) (S : World → List Value → β → Prop) : World → List Value → α × β → Prop :=
  fun w cs a => ∃ c d, cs = c ++ d ∧ c.length = n ∧ R w c a.1 ∧ S w d a.2

/-- Lists of elements' cells stand in the relation R to a list, one by one. -/
def AllR {α : Type} (size : Nat) (R : World → List Value → α → Prop) (w : World) : List (List Value) → List α → Prop
  | [], [] => True
  | c :: cs, x :: xs => c.length = size ∧ R w c x ∧ AllR size R w cs xs
  | _, _ => False

theorem add_add (a : Addr) (q r : Nat) : (a.add q).add r = a.add (q + r) := by
  unfold Addr.add
  repeat' split
  all_goals simp_all [Nat.add_assoc]

section
variable {P : Program} {t : TypeId}

theorem Opens.mono {α β : Type} {R : World → List Value → α → Prop} {S : World → List Value → β → Prop} (h : Opens P t R) (g : α → β) (hg : ∀ w cs a, R w cs a → S w cs (g a)) : Opens P t S :=
  fun H enc w base spare held fuel cs x hx => let ⟨a, ha⟩ := h H enc w base spare held fuel cs x hx; ⟨g a, hg w cs a ha⟩

theorem opens_int {k : IntKind} (ht : P.underlying t = some (.int k)) : Opens P t (IntR k) :=
  fun _ _ _ _ _ _ _ _ _ h => let ⟨n, e, _, hw⟩ := DataW.trod_int ht h; ⟨n, e, hw⟩
theorem opens_bool (ht : P.underlying t = some .bool) : Opens P t BoolR :=
  fun _ _ _ _ _ _ _ _ _ h => let ⟨b, e, _⟩ := DataW.trod_bool ht h; ⟨b, e⟩
/-- The fields of a struct, from one on. -/
def OpensF (P : Program) (fs : List Field) (off : Nat) {α : Type} (R : World → List Value → α → Prop) : Prop :=
  ∀ (H : Type) (enc : TypeId × Value → H) (w : World) (base : Nat) (spare : Nat → Bool) (held : Bool) (fuel : Nat) (cs : List Value),
    (∀ (i : Nat) (f : Field), fs[i]? = some f → ∃ x, DataW.trod enc P w base spare held fuel f.type ((cs.drop f.offset).take (P.cellsOf f.type)) = some x) → ∃ a, R w (cs.drop off) a

theorem OpensF.cons {f : Field} {fs : List Field} {off n : Nat} {α β : Type} {R : World → List Value → α → Prop} {S : World → List Value → β → Prop} (ho : f.offset = off) (hn : P.cellsOf f.type = n)
    (hR : Opens P f.type R) (hlen : ∀ w c a, R w c a → c.length = n) (hS : OpensF P fs (off + n) S) : OpensF P (f :: fs) off (ConsR n R S) := by
  intro H enc w base spare held fuel cs h
  obtain ⟨x, hx⟩ := h 0 f rfl
  obtain ⟨a, ha⟩ := hR H enc w base spare held fuel _ x hx
  obtain ⟨b, hb⟩ := hS H enc w base spare held fuel cs (fun i g hg => h (i + 1) g (by simpa using hg))
  have hl := hlen _ _ _ ha
  refine ⟨(a, b), _, _, ?_, hl, ha, hb⟩
  rw [ho, hn, ← List.drop_drop]
  exact (List.take_append_drop n _).symm

theorem OpensF.nil {off : Nat} (m : Nat) (hm : m = off) : OpensF P [] off (fun _ cs (_ : Unit) => ∀ (c : Nat), c ≤ m → cs.length = c - off → cs = []) := by
  intro H enc w base spare held fuel cs _
  exact ⟨(), fun c hc hl => List.eq_nil_of_length_eq_zero (by omega)⟩

theorem AllR.map {α β : Type} {size : Nat} {R : World → List Value → α → Prop} {S : World → List Value → β → Prop} {w : World} {g : α → β} (hg : ∀ cs a, R w cs a → S w cs (g a)) :
    ∀ {ecs : List (List Value)} {xs : List α}, AllR size R w ecs xs → AllR size S w ecs (xs.map g)
  | [], [], _ => trivial
  | _ :: _, _ :: _, ⟨hl, h, hs⟩ => ⟨hl, hg _ _ h, AllR.map hg hs⟩

theorem allR_of {α : Type} {size : Nat} {R : World → List Value → α → Prop} {w : World} (E : Nat → List Value) : ∀ (n : Nat), (∀ i, i < n → (E i).length = size ∧ ∃ a, R w (E i) a) →
    ∃ xs : List α, xs.length = n ∧ AllR size R w ((List.range n).map E) xs := by
  intro n
  induction n generalizing E with
  | zero => intro _; exact ⟨[], rfl, trivial⟩
  | succ n ih =>
    intro h
    obtain ⟨xs, hl, hx⟩ := ih (fun i => E (i + 1)) (fun i hi => h (i + 1) (by omega))
    obtain ⟨h0, a, ha⟩ := h 0 (by omega)
    refine ⟨a :: xs, by simp [hl], ?_⟩
    rw [List.range_succ_eq_map]
    simp only [List.map_cons, List.map_map]
    exact ⟨h0, ha, hx⟩

theorem getElem?_flatten {size : Nat} : ∀ (ecs : List (List Value)) (_ : ∀ c ∈ ecs, c.length = size) (j : Nat) (u : Value), ecs.flatten[j]? = some u →
    0 < size ∧ j / size < ecs.length ∧ ∃ c, ecs[j / size]? = some c ∧ c[j % size]? = some u := by
  intro ecs
  induction ecs with
  | nil => intro _ j u h; simp at h
  | cons c ecs ih =>
    intro hs j u h
    have hc := hs c (by simp)
    rw [List.flatten_cons] at h
    by_cases hj : j < size
    · rw [List.getElem?_append_left (by omega)] at h
      have h1 : j / size = 0 := Nat.div_eq_of_lt hj
      have h2 : j % size = j := Nat.mod_eq_of_lt hj
      exact ⟨by omega, by rw [h1]; simp, c, by rw [h1]; rfl, by rw [h2]; exact h⟩
    · rw [List.getElem?_append_right (by omega), hc] at h
      obtain ⟨h0, h1, c', h2, h3⟩ := ih (fun c hc => hs c (by simp [hc])) (j - size) u h
      have hd : j / size = (j - size) / size + 1 := by rw [← Nat.sub_add_cancel (show size ≤ j by omega), Nat.add_div_right _ h0]; simp
      have hm : j % size = (j - size) % size := by rw [Nat.mod_eq_sub_mod (by omega)]
      exact ⟨h0, by rw [hd]; simp; exact h1, c', by rw [hd]; simpa using h2, by rw [hm]; exact h3⟩

theorem AllR.lens {α : Type} {size : Nat} {R : World → List Value → α → Prop} {w : World} : ∀ {ecs : List (List Value)} {xs : List α}, AllR size R w ecs xs → ecs.length = xs.length ∧ ∀ c ∈ ecs, c.length = size
  | [], [], _ => ⟨rfl, by simp⟩
  | _ :: _, _ :: _, ⟨hl, _, hs⟩ => by
    obtain ⟨h1, h2⟩ := AllR.lens hs
    refine ⟨by simp [h1], ?_⟩
    intro c hc
    rcases List.mem_cons.1 hc with rfl | hc
    · exact hl
    · exact h2 c hc

end
theorem AllR.flat {α : Type} {size : Nat} {enc : α → List Value} {w : World} : ∀ {ecs : List (List Value)} {xs : List α}, AllR size (fun _ cs a => cs = enc a) w ecs xs → ecs.flatten = xs.flatMap enc
  | [], [], _ => rfl
  | _ :: _, _ :: _, ⟨_, h, hs⟩ => by rw [List.flatten_cons, List.flatMap_cons, h, AllR.flat hs]

end Go.Proofs.YtkdnbnkbnegckaaGreatDoor
namespace Go.Proofs.YtkdnbnkbnegckaaGreatDoor
open Go.RowKit Go.WideShapes

theorem wf_i64 {n : Int} (h : (Lit.int .i64 n).wf = true) : -9223372036854775808 ≤ n ∧ n ≤ 9223372036854775807 := by
  simp [Lit.wf, IntKind.min, IntKind.max, IntKind.signed, IntKind.bits] at h
  omega
end Go.Proofs.YtkdnbnkbnegckaaGreatDoor
namespace Go.Proofs.YtkdnbnkbnegckaaGreatDoor
open Go.RowKit Go.WideShapes

/-- Whatever reads as data of type t, and weighs no more than can be reached, stands in the relation R to some value. -/
def OpensW (P : Program) (t : TypeId) {α : Type} (R : World → List Value → α → Prop) : Prop :=
  ∀ (H : Type) (enc : TypeId × Value → H) (w : World) (base : Nat) (spare : Nat → Bool) (held : Bool) (fuel : Nat) (cs : List Value) (x : DataW H × List MemPlace),
    DataW.trod enc P w base spare held fuel t cs = some x → (∀ n ∈ x.1.weights P t, n ≤ reachBytes) → ∃ a, R w cs a

def StrRW : World → List Value → ByteArray → Prop := fun _ cs s => cs = [.string s] ∧ s.size ≤ 140737488351232
def SliceRW {α : Type} (size by' : Nat) (R : World → List Value → α → Prop) : World → List Value → (List α × Option Addr × Nat) → Prop :=
  fun w cs x => ∃ ecs, cs = [.slice x.2.1 x.1.length x.2.2] ∧ x.1.length ≤ x.2.2 ∧ x.1.length * by' ≤ 140737488351232 ∧ Cells w x.2.1 ecs.flatten ∧ AllR size R w ecs x.1

section
variable {P : Program} {t : TypeId}

theorem OpensW.mono {α β : Type} {R : World → List Value → α → Prop} {S : World → List Value → β → Prop} (h : OpensW P t R) (g : α → β) (hg : ∀ w cs a, R w cs a → S w cs (g a)) : OpensW P t S :=
  fun H enc w base spare held fuel cs x hx hw => let ⟨a, ha⟩ := h H enc w base spare held fuel cs x hx hw; ⟨g a, hg w cs a ha⟩
theorem opensW_of {α : Type} {R : World → List Value → α → Prop} (h : Opens P t R) : OpensW P t R :=
  fun H enc w base spare held fuel cs x hx _ => h H enc w base spare held fuel cs x hx
theorem opensW_str (ht : P.underlying t = some .string) : OpensW P t StrRW :=
  fun _ _ _ _ _ _ _ _ x h hw => by
    obtain ⟨s, e, hx, hs⟩ := DataW.trod_string ht h
    refine ⟨s, e, ?_⟩
    have := hw s.data.toList.length (by rw [hx]; simp [DataW.weights])
    simpa [reachBytes] using this

/-- The fields of a struct, from one on. -/
def OpensFW (P : Program) (fs : List Field) (off : Nat) {α : Type} (R : World → List Value → α → Prop) : Prop :=
  ∀ (H : Type) (enc : TypeId × Value → H) (w : World) (base : Nat) (spare : Nat → Bool) (held : Bool) (fuel : Nat) (cs : List Value) (xs : List (DataW H × List MemPlace)),
    xs.length = fs.length → (∀ (i : Nat) (f : Field), fs[i]? = some f → DataW.trod enc P w base spare held fuel f.type ((cs.drop f.offset).take (P.cellsOf f.type)) = xs[i]?) →
    (∀ n ∈ DataW.weightsEach P (fs.map (·.type)) (xs.map (·.1)), n ≤ reachBytes) → ∃ a, R w (cs.drop off) a

theorem OpensFW.cons {f : Field} {fs : List Field} {off n : Nat} {α β : Type} {R : World → List Value → α → Prop} {S : World → List Value → β → Prop} (ho : f.offset = off) (hn : P.cellsOf f.type = n)
    (hR : OpensW P f.type R) (hlen : ∀ w c a, R w c a → c.length = n) (hS : OpensFW P fs (off + n) S) : OpensFW P (f :: fs) off (ConsR n R S) := by
  intro H enc w base spare held fuel cs xs hl h hw
  match xs, hl with
  | x :: xs, hl =>
    have h0 := h 0 f rfl
    simp only [List.getElem?_cons_zero] at h0
    simp only [List.map_cons, DataW.weightsEach, List.mem_append] at hw
    obtain ⟨a, ha⟩ := hR H enc w base spare held fuel _ x h0 (fun n hn => hw n (.inl hn))
    obtain ⟨b, hb⟩ := hS H enc w base spare held fuel cs xs (by simpa using hl) (fun i g hg => by simpa using h (i + 1) g (by simpa using hg)) (fun n hn => hw n (.inr hn))
    have hl := hlen _ _ _ ha
    refine ⟨(a, b), _, _, ?_, hl, ha, hb⟩
    rw [ho, hn, ← List.drop_drop]
    exact (List.take_append_drop n _).symm

theorem OpensFW.nil {off : Nat} : OpensFW P [] off (fun _ _ (_ : Unit) => True) := by
  intro H enc w base spare held fuel cs xs _ _ _
  exact ⟨(), trivial⟩

theorem opensW_struct {fs : Array Field} {α : Type} {R : World → List Value → α → Prop} (ht : P.underlying t = some (.struct fs)) (h : OpensFW P fs.toList 0 R) :
    OpensW P t (fun w cs a => cs.length = P.cellsOf t ∧ R w cs a) := by
  intro H enc w base spare held fuel cs x hx hw
  obtain ⟨xs, n, _, hxe, hl, hlen, hf⟩ := DataW.trod_struct ht hx
  rw [hxe] at hw
  simp only [DataW.weights, ht] at hw
  obtain ⟨a, ha⟩ := h H enc w base spare held n cs xs (by simpa using hlen) (fun i f hf' => hf i f (by simpa using hf')) hw
  exact ⟨a, hl, by simpa using ha⟩

theorem opensW_slice {e : TypeId} {size by' : Nat} {α : Type} {R : World → List Value → α → Prop} (ht : P.underlying t = some (.slice e)) (hc : P.cellsOf e = size) (hby : P.bytesOf e = by') (he : OpensW P e R) : OpensW P t (SliceRW size by' R) := by
  intro H enc w base spare held fuel cs x hx hw
  rcases Deep.open_slice ht hx with ⟨rfl, _⟩ | ⟨a, len, cap, m, n, D, Pl, rfl, hb, hl, hm, hmm, hxe, hel⟩
  · exact ⟨([], none, 0), [], rfl, Nat.le_refl _, by simp, Cells.nil _ _, trivial⟩
  · have hlm : len ≤ m := by rw [hmm]; split <;> omega
    rw [hc] at hel
    rw [hxe] at hw
    simp only [DataW.weights, ht, List.mem_cons, List.mem_append, hby] at hw
    have hw0 := hw _ (.inl rfl)
    have hwe : ∀ i, i < len → ∀ n ∈ (D i).weights P e, n ≤ reachBytes := fun i hi n hn => hw n (.inr (.inl (by
      have : ∀ (l : List (DataW H)) (d : DataW H), d ∈ l → ∀ n ∈ d.weights P e, n ∈ DataW.weightsAll P e l := by
        intro l
        induction l with
        | nil => intro d h; simp at h
        | cons c l ih =>
          intro d h n hn
          simp only [DataW.weightsAll, List.mem_append]
          rcases List.mem_cons.1 h with rfl | h
          · exact .inl hn
          · exact .inr (ih d h n hn)
      exact this _ (D i) (List.mem_map.2 ⟨i, by simpa using hi, rfl⟩) n hn)))
    obtain ⟨E, hE⟩ := Deep.choose_lt (α := List Value) (p := fun i cs' => w.cells? base (a.add (i * size)) size = some cs' ∧ ∃ y, DataW.trod enc P w base spare held n e cs' = some y ∧ y.1 = D i)
      (fun i (hi : i < len) => let ⟨cs', h1, h2⟩ := hel i (by omega); ⟨cs', h1, _, h2, rfl⟩)
    obtain ⟨xs, hxl, hall⟩ := allR_of (size := size) (R := R) (w := w) E len (fun i hi => by
      obtain ⟨h1, y, h2, h3⟩ := hE i hi
      exact ⟨(World.cells?_some h1).2.1, he H enc w base spare held n _ y h2 (by rw [h3]; exact hwe i hi)⟩)
    refine ⟨(xs, some a, cap), (List.range len).map E, by simp only [hxl], by simp only; omega, ?_, ?_, hall⟩
    · simp only [List.length_map, List.length_range, reachBytes] at hw0
      simp only [hxl]
      exact Nat.le_trans (Nat.mul_le_mul_right _ (Nat.le_add_right _ _)) (by simpa using hw0)
    have hcell : ∀ j u, ((List.range len).map E).flatten[j]? = some u → w.cell? (a.add j) = some u := by
      intro j u hu
      obtain ⟨h0, hlt, c, hc1, hc2⟩ := getElem?_flatten _ (AllR.lens hall).2 j u hu
      simp only [List.length_map, List.length_range] at hlt
      simp only [List.getElem?_map, List.getElem?_range hlt, Option.map_some, Option.some.injEq] at hc1
      subst hc1
      have h3 := (World.cells?_some (hE _ hlt).1).2.2 (j % size) (Nat.mod_lt _ h0)
      rw [hc2] at h3
      rw [← h3]
      congr 1
      have hj : j / size * size + j % size = j := by rw [Nat.mul_comm]; exact Nat.div_add_mod _ _
      generalize j / size * size = q at hj
      generalize j % size = r at hj
      subst hj
      exact (add_add a q r).symm
    refine ⟨fun hne => ?_, fun b off e2 j u hu => ?_⟩
    · cases hfl : ((List.range len).map E).flatten with
      | nil => exact absurd hfl hne
      | cons u us =>
        have := hcell 0 u (by rw [hfl]; rfl)
        obtain ⟨b, off, sp⟩ := a
        have hsp : sp = none := by
          simp only [World.cell?, Addr.add] at this
          cases sp with
          | none => rfl
          | some v => simp at this; split at this <;> simp_all
        exact ⟨b, off, by rw [hsp]⟩
    · obtain rfl := Option.some.inj e2
      have := hcell j u hu
      rwa [Addr.add_lit] at this

end
theorem opensW_int {P : Program} {t : TypeId} (ht : P.underlying t = some (.int .i64)) : OpensW P t (fun _ cs (n : Int) => cs = [Value.int .i64 n] ∧ I64 n) :=
  fun H enc w base spare held fuel cs x hx _ => by
    obtain ⟨n, e, hw⟩ := opens_int ht H enc w base spare held fuel cs x hx
    exact ⟨n, e, wf_i64 hw⟩
theorem opensW_bool {P : Program} {t : TypeId} (ht : P.underlying t = some .bool) : OpensW P t (fun _ cs (b : Bool) => cs = [Value.bool b]) :=
  opensW_of (opens_bool ht)
end Go.Proofs.YtkdnbnkbnegckaaGreatDoor
