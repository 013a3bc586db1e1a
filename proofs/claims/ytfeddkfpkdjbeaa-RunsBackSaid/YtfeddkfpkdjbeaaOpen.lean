/- How data that came in are opened, whatever their type: a relation between an element's cells and a value of Lean's, put together along the type. -/
import Derived.Test.YtfeddkfpkdjbeaaBase
import Derived.Test.YtfeddkfpkdjbeaaUvarP
import Derived.ProofKit
import Derived.Deep.Slices
namespace Go.Proofs.Ytfeddkfpkdjbeaa
open Go.RowKit Go.WideShapes

/-- Whatever reads as data of type t stands in the relation R to some value. -/
def Opens (P : Program) (t : TypeId) {α : Type} (R : World → List Value → α → Prop) : Prop :=
  ∀ (H : Type) (enc : TypeId × Value → H) (w : World) (base : Nat) (spare : Nat → Bool) (held : Bool) (fuel : Nat) (cs : List Value) (x : DataW H × List MemPlace),
    DataW.trod enc P w base spare held fuel t cs = some x → ∃ a, R w cs a

def IntR (k : IntKind) : World → List Value → Int → Prop := fun _ cs n => cs = [.int k n] ∧ (Lit.int k n).wf = true
def BoolR : World → List Value → Bool → Prop := fun _ cs b => cs = [.bool b]
def StrR : World → List Value → ByteArray → Prop := fun _ cs s => cs = [.string s] ∧ s.size ≤ maxLen
def NilR : World → List Value → Unit → Prop := fun _ cs _ => cs = []
def ConsR {α β : Type} (n : Nat) (R : World → List Value → α → Prop) (S : World → List Value → β → Prop) : World → List Value → α × β → Prop :=
  fun w cs a => ∃ c d, cs = c ++ d ∧ c.length = n ∧ R w c a.1 ∧ S w d a.2

/-- Lists of elements' cells stand in the relation R to a list, one by one. -/
def AllR {α : Type} (size : Nat) (R : World → List Value → α → Prop) (w : World) : List (List Value) → List α → Prop
  | [], [] => True
  | c :: cs, x :: xs => c.length = size ∧ R w c x ∧ AllR size R w cs xs
  | _, _ => False

def SliceR {α : Type} (size : Nat) (R : World → List Value → α → Prop) : World → List Value → List α → Prop :=
  fun w cs xs => ∃ ao cap ecs, cs = [.slice ao xs.length cap] ∧ xs.length ≤ cap ∧ cap ≤ maxLen ∧ Cells w ao ecs.flatten ∧ AllR size R w ecs xs

theorem add_add (a : Addr) (q r : Nat) : (a.add q).add r = a.add (q + r) := by
  unfold Addr.add
  repeat' split
  all_goals simp_all [Nat.add_assoc]

section
variable {P : Program} {t : TypeId}

theorem Opens.mono {α β : Type} {R : World → List Value → α → Prop} {S : World → List Value → β → Prop} (h : Opens P t R) (g : α → β) (hg : ∀ w cs a, R w cs a → S w cs (g a)) : Opens P t S :=
  fun H enc w base spare held fuel cs x hx => let ⟨a, ha⟩ := h H enc w base spare held fuel cs x hx; ⟨g a, hg w cs a ha⟩

theorem opens_int {k : IntKind} (ht : P.underlying t = some (.int k)) : Opens P t (IntR k) :=
  fun _ _ _ _ _ _ _ _ _ h => let ⟨n, e, _, hw⟩ := DataW.trod_int ht h; ⟨n, e, hw⟩
theorem opens_bool (ht : P.underlying t = some .bool) : Opens P t BoolR :=
  fun _ _ _ _ _ _ _ _ _ h => let ⟨b, e, _⟩ := DataW.trod_bool ht h; ⟨b, e⟩
theorem opens_str (ht : P.underlying t = some .string) : Opens P t StrR :=
  fun _ _ _ _ _ _ _ _ _ h => let ⟨s, e, _, hs⟩ := DataW.trod_string ht h; ⟨s, e, hs⟩

/-- The fields of a struct, from one on. -/
def OpensF (P : Program) (fs : List Field) (off : Nat) {α : Type} (R : World → List Value → α → Prop) : Prop :=
  ∀ (H : Type) (enc : TypeId × Value → H) (w : World) (base : Nat) (spare : Nat → Bool) (held : Bool) (fuel : Nat) (cs : List Value),
    (∀ (i : Nat) (f : Field), fs[i]? = some f → ∃ x, DataW.trod enc P w base spare held fuel f.type ((cs.drop f.offset).take (P.cellsOf f.type)) = some x) → ∃ a, R w (cs.drop off) a

theorem OpensF.cons {f : Field} {fs : List Field} {off n : Nat} {α β : Type} {R : World → List Value → α → Prop} {S : World → List Value → β → Prop} (ho : f.offset = off) (hn : P.cellsOf f.type = n)
    (hR : Opens P f.type R) (hlen : ∀ w c a, R w c a → c.length = n) (hS : OpensF P fs (off + n) S) : OpensF P (f :: fs) off (ConsR n R S) := by
  intro H enc w base spare held fuel cs h
  obtain ⟨x, hx⟩ := h 0 f rfl
  obtain ⟨a, ha⟩ := hR H enc w base spare held fuel _ x hx
  obtain ⟨b, hb⟩ := hS H enc w base spare held fuel cs (fun i g hg => h (i + 1) g (by simpa using hg))
  have hl := hlen _ _ _ ha
  refine ⟨(a, b), _, _, ?_, hl, ha, hb⟩
  rw [ho, hn, ← List.drop_drop]
  exact (List.take_append_drop n _).symm

theorem OpensF.nil {off : Nat} (m : Nat) (hm : m = off) : OpensF P [] off (fun _ cs (_ : Unit) => ∀ (c : Nat), c ≤ m → cs.length = c - off → cs = []) := by
  intro H enc w base spare held fuel cs _
  exact ⟨(), fun c hc hl => List.eq_nil_of_length_eq_zero (by omega)⟩

theorem opens_struct {fs : Array Field} {α : Type} {R : World → List Value → α → Prop} (ht : P.underlying t = some (.struct fs)) (h : OpensF P fs.toList 0 R) :
    Opens P t (fun w cs a => cs.length = P.cellsOf t ∧ R w cs a) := by
  intro H enc w base spare held fuel cs x hx
  obtain ⟨xs, n, _, _, hl, hlen, hf⟩ := DataW.trod_struct ht hx
  obtain ⟨a, ha⟩ := h H enc w base spare held n cs (fun i f hf' => by
    have hi : i < xs.length := by
      have := (List.getElem?_eq_some_iff.1 hf').1
      rw [hlen]; simpa using this
    exact ⟨xs[i], by rw [hf i f (by simpa using hf')]; simp [hi]⟩)
  exact ⟨a, hl, by simpa using ha⟩

theorem AllR.map {α β : Type} {size : Nat} {R : World → List Value → α → Prop} {S : World → List Value → β → Prop} {w : World} {g : α → β} (hg : ∀ cs a, R w cs a → S w cs (g a)) :
    ∀ {ecs : List (List Value)} {xs : List α}, AllR size R w ecs xs → AllR size S w ecs (xs.map g)
  | [], [], _ => trivial
  | _ :: _, _ :: _, ⟨hl, h, hs⟩ => ⟨hl, hg _ _ h, AllR.map hg hs⟩

theorem allR_of {α : Type} {size : Nat} {R : World → List Value → α → Prop} {w : World} (E : Nat → List Value) : ∀ (n : Nat), (∀ i, i < n → (E i).length = size ∧ ∃ a, R w (E i) a) →
    ∃ xs : List α, xs.length = n ∧ AllR size R w ((List.range n).map E) xs := by
  intro n
  induction n generalizing E with
  | zero => intro _; exact ⟨[], rfl, trivial⟩
  | succ n ih =>
    intro h
    obtain ⟨xs, hl, hx⟩ := ih (fun i => E (i + 1)) (fun i hi => h (i + 1) (by omega))
    obtain ⟨h0, a, ha⟩ := h 0 (by omega)
    refine ⟨a :: xs, by simp [hl], ?_⟩
    rw [List.range_succ_eq_map]
    simp only [List.map_cons, List.map_map]
    exact ⟨h0, ha, hx⟩

theorem getElem?_flatten {size : Nat} : ∀ (ecs : List (List Value)) (_ : ∀ c ∈ ecs, c.length = size) (j : Nat) (u : Value), ecs.flatten[j]? = some u →
    0 < size ∧ j / size < ecs.length ∧ ∃ c, ecs[j / size]? = some c ∧ c[j % size]? = some u := by
  intro ecs
  induction ecs with
  | nil => intro _ j u h; simp at h
  | cons c ecs ih =>
    intro hs j u h
    have hc := hs c (by simp)
    rw [List.flatten_cons] at h
    by_cases hj : j < size
    · rw [List.getElem?_append_left (by omega)] at h
      have h1 : j / size = 0 := Nat.div_eq_of_lt hj
      have h2 : j % size = j := Nat.mod_eq_of_lt hj
      exact ⟨by omega, by rw [h1]; simp, c, by rw [h1]; rfl, by rw [h2]; exact h⟩
    · rw [List.getElem?_append_right (by omega), hc] at h
      obtain ⟨h0, h1, c', h2, h3⟩ := ih (fun c hc => hs c (by simp [hc])) (j - size) u h
      have hd : j / size = (j - size) / size + 1 := by rw [← Nat.sub_add_cancel (show size ≤ j by omega), Nat.add_div_right _ h0]; simp
      have hm : j % size = (j - size) % size := by rw [Nat.mod_eq_sub_mod (by omega)]
      exact ⟨h0, by rw [hd]; simp; exact h1, c', by rw [hd]; simpa using h2, by rw [hm]; exact h3⟩

theorem AllR.lens {α : Type} {size : Nat} {R : World → List Value → α → Prop} {w : World} : ∀ {ecs : List (List Value)} {xs : List α}, AllR size R w ecs xs → ecs.length = xs.length ∧ ∀ c ∈ ecs, c.length = size
  | [], [], _ => ⟨rfl, by simp⟩
  | _ :: _, _ :: _, ⟨hl, _, hs⟩ => by
    obtain ⟨h1, h2⟩ := AllR.lens hs
    refine ⟨by simp [h1], ?_⟩
    intro c hc
    rcases List.mem_cons.1 hc with rfl | hc
    · exact hl
    · exact h2 c hc

theorem opens_slice {e : TypeId} {size : Nat} {α : Type} {R : World → List Value → α → Prop} (ht : P.underlying t = some (.slice e)) (hc : P.cellsOf e = size) (he : Opens P e R) : Opens P t (SliceR size R) := by
  intro H enc w base spare held fuel cs x hx
  rcases Deep.open_slice ht hx with ⟨rfl, _⟩ | ⟨a, len, cap, m, n, D, Pl, rfl, hb, hl, hm, hmm, _, hel⟩
  · exact ⟨[], none, 0, [], rfl, Nat.le_refl _, Nat.zero_le _, Cells.nil _ _, trivial⟩
  · have hlm : len ≤ m := by rw [hmm]; split <;> omega
    rw [hc] at hel
    obtain ⟨E, hE⟩ := Deep.choose_lt (α := List Value) (p := fun i cs' => w.cells? base (a.add (i * size)) size = some cs' ∧ ∃ y, DataW.trod enc P w base spare held n e cs' = some y)
      (fun i (hi : i < len) => let ⟨cs', h1, h2⟩ := hel i (by omega); ⟨cs', h1, _, h2⟩)
    obtain ⟨xs, hxl, hall⟩ := allR_of (size := size) (R := R) (w := w) E len (fun i hi => by
      obtain ⟨h1, y, h2⟩ := hE i hi
      exact ⟨(World.cells?_some h1).2.1, he H enc w base spare held n _ y h2⟩)
    refine ⟨xs, some a, cap, (List.range len).map E, by rw [hxl], by omega, hm, ?_, hall⟩
    have hcell : ∀ j u, ((List.range len).map E).flatten[j]? = some u → w.cell? (a.add j) = some u := by
      intro j u hu
      obtain ⟨h0, hlt, c, hc1, hc2⟩ := getElem?_flatten _ (AllR.lens hall).2 j u hu
      simp only [List.length_map, List.length_range] at hlt
      simp only [List.getElem?_map, List.getElem?_range hlt, Option.map_some, Option.some.injEq] at hc1
      subst hc1
      have h3 := (World.cells?_some (hE _ hlt).1).2.2 (j % size) (Nat.mod_lt _ h0)
      rw [hc2] at h3
      rw [← h3]
      congr 1
      have hj : j / size * size + j % size = j := by rw [Nat.mul_comm]; exact Nat.div_add_mod _ _
      generalize j / size * size = q at hj
      generalize j % size = r at hj
      subst hj
      exact (add_add a q r).symm
    refine ⟨fun hne => ?_, fun b off e2 j u hu => ?_⟩
    · cases hfl : ((List.range len).map E).flatten with
      | nil => exact absurd hfl hne
      | cons u us =>
        have := hcell 0 u (by rw [hfl]; rfl)
        obtain ⟨b, off, sp⟩ := a
        have hsp : sp = none := by
          simp only [World.cell?, Addr.add] at this
          cases sp with
          | none => rfl
          | some v => simp at this; split at this <;> simp_all
        exact ⟨b, off, by rw [hsp]⟩
    · obtain rfl := Option.some.inj e2
      have := hcell j u hu
      rwa [Addr.add_lit] at this

end
theorem AllR.flat {α : Type} {size : Nat} {enc : α → List Value} {w : World} : ∀ {ecs : List (List Value)} {xs : List α}, AllR size (fun _ cs a => cs = enc a) w ecs xs → ecs.flatten = xs.flatMap enc
  | [], [], _ => rfl
  | _ :: _, _ :: _, ⟨_, h, hs⟩ => by rw [List.flatten_cons, List.flatMap_cons, h, AllR.flat hs]

/-- A slice whose elements' cells are a function of what they are. -/
theorem open_flat {P : Program} {t : TypeId} {α : Type} {size : Nat} {E : α → List Value} (ho : Opens P t (SliceR size (fun _ cs a => cs = E a))) {H : Type} {enc : TypeId × Value → H} {w : World} {base : Nat} {spare : Nat → Bool} {held : Bool}
    {a : Option Addr} {len cap : Nat} {d : DataW H} {p : List MemPlace} (h : DataW.Trod enc P w base spare held t (.slice a len cap) d p) : ∃ z : List α, len = z.length ∧ Cells w a (z.flatMap E) := by
  obtain ⟨fuel, hf⟩ := h
  obtain ⟨xs, ao, cap', ecs, h1, _, _, hc, hall⟩ := ho H enc w base spare held fuel _ _ hf
  simp [Value.cells] at h1
  obtain ⟨rfl, rfl, rfl⟩ := h1
  exact ⟨xs, rfl, by rw [← AllR.flat hall]; exact hc⟩

/-- A slice of ints. -/
theorem open_ints_flat {P : Program} {t e : TypeId} {k : IntKind} (ht : P.underlying t = some (.slice e)) (he : P.underlying e = some (.int k)) (hc : P.cellsOf e = 1) {H : Type} {enc : TypeId × Value → H} {w : World} {base : Nat} {spare : Nat → Bool} {held : Bool}
    {a : Option Addr} {len cap : Nat} {d : DataW H} {p : List MemPlace} (h : DataW.Trod enc P w base spare held t (.slice a len cap) d p) : ∃ z : List Int, len = z.length ∧ Cells w a (z.map (.int k)) ∧ ∀ n ∈ z, (Lit.int k n).wf = true := by
  obtain ⟨fuel, hf⟩ := h
  obtain ⟨xs, ao, cap', ecs, h1, _, _, hc, hall⟩ := opens_slice ht hc (opens_int he) H enc w base spare held fuel _ _ hf
  simp [Value.cells] at h1
  obtain ⟨rfl, rfl, rfl⟩ := h1
  have key : ∀ {ecs : List (List Value)} {xs : List Int}, AllR 1 (IntR k) w ecs xs → ecs.flatten = xs.map (.int k) ∧ ∀ n ∈ xs, (Lit.int k n).wf = true := by
    intro ecs
    induction ecs with
    | nil => intro xs h; cases xs with | nil => exact ⟨rfl, by simp⟩ | cons => exact h.elim
    | cons c ecs ih =>
      intro xs h
      cases xs with
      | nil => exact h.elim
      | cons x xs =>
        obtain ⟨_, ⟨rfl, hw⟩, hs⟩ := h
        obtain ⟨h1, h2⟩ := ih hs
        exact ⟨by rw [List.flatten_cons, h1]; rfl, by simpa using ⟨hw, h2⟩⟩
  obtain ⟨k1, k2⟩ := key hall
  exact ⟨xs, rfl, by rw [← k1]; exact hc, k2⟩

theorem ints_bounds {l : List Int} (h : ∀ n ∈ l, (Lit.int .i64 n).wf = true) : ∀ n ∈ l, -9223372036854775808 ≤ n ∧ n ≤ 9223372036854775807 := by
  intro n hn
  have := h n hn
  simp [Lit.wf, IntKind.min, IntKind.max, IntKind.signed, IntKind.bits] at this
  omega

/-- A slice of bytes. -/
theorem open_bytes_flat {P : Program} {t e : TypeId} (ht : P.underlying t = some (.slice e)) (he : P.underlying e = some (.int .u8)) (hc : P.cellsOf e = 1) {H : Type} {enc : TypeId × Value → H} {w : World} {base : Nat} {spare : Nat → Bool} {held : Bool}
    {a : Option Addr} {len cap : Nat} {d : DataW H} {p : List MemPlace} (h : DataW.Trod enc P w base spare held t (.slice a len cap) d p) : ∃ z : List UInt8, len = z.length ∧ Cells w a (z.map byteC) := by
  obtain ⟨z, hz, hcells, hwf⟩ := open_ints_flat ht he hc h
  refine ⟨z.map fun n => UInt8.ofNat n.toNat, by simpa using hz, ?_⟩
  have e : (z.map fun n => UInt8.ofNat n.toNat).map byteC = z.map (.int .u8) := by
    rw [List.map_map]
    refine List.map_congr_left fun n hn => ?_
    have := hwf n hn
    simp [Lit.wf, IntKind.min, IntKind.max, IntKind.signed, IntKind.bits] at this
    simp only [Function.comp, byteC, UInt8.toNat_ofNat']
    congr 1
    omega
  rw [e]; exact hcells

/-- Slices of structs of two ints. -/
theorem opens_pair {P : Program} {t f g : TypeId} {a b : Field} (ht : P.underlying t = some (.struct #[a, b])) (h2 : P.cellsOf t = 2) (ha : a.type = f ∧ a.offset = 0) (hb : b.type = g ∧ b.offset = 1)
    (hf : P.underlying f = some (.int .i64)) (hg : P.underlying g = some (.int .i64)) (hcf : P.cellsOf f = 1) (hcg : P.cellsOf g = 1) :
    Opens P t (fun _ cs (p : Int × Int) => cs = pairC p) := by
  intro H enc w base spare held fuel cs x hx
  obtain ⟨y0, y1, n, _, hl, h0, h1⟩ := ChangeShapes.trod_struct2 ht hx
  rw [ha.1, ha.2, hcf] at h0
  rw [hb.1, hb.2, hcg] at h1
  rw [h2] at hl
  obtain ⟨c0, c1, rfl⟩ : ∃ c0 c1, cs = [c0, c1] := by match cs, hl with | [c0, c1], _ => exact ⟨_, _, rfl⟩
  obtain ⟨n0, e0, _⟩ := DataW.trod_int hf h0
  obtain ⟨n1, e1, _⟩ := DataW.trod_int hg h1
  simp at e0 e1
  subst e0 e1
  exact ⟨(n0, n1), rfl⟩
end Go.Proofs.Ytfeddkfpkdjbeaa
