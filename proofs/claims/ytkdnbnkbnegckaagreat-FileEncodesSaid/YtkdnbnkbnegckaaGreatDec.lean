/- How long the parts of a function are that bytes begin with. How data that came in are opened, whatever their type: a relation between an element's cells and a value of Lean's, put together along the type. How data that came in are opened: bytes with their capacity and their weight, pairs of ints with their bounds, texts. How data that came in are opened, with their weights: what a machine can reach bounds each slice and each text. How data that came in are opened, as the second machine's data: along their type. file.Decode: what gives up, and the calls that it makes. -/
import Derived.Test.YtkdnbnkbnegckaaGreatSpF
import Derived.Test.YtkdnbnkbnegckaaGreatBase
import Derived.Test.YtkdnbnkbnegckaaGreatStrA
import Derived.ProofKit
import Derived.Deep.Slices
import Derived.SizedLaws
import Derived.Test.YtkdnbnkbnegckaaGreatSpP
import Derived.Test.YtkdnbnkbnegckaaGreatEvQ
import Derived.OpenShut
import Derived.Test.YtkdnbnkbnegckaaGreatSpB
import Derived.Recover
import Derived.Tactics2
namespace Go.Proofs.YtkdnbnkbnegckaaGreat
open Go.RowKit
set_option maxRecDepth 8000
theorem headP_outer {l l' : List UInt8} {name : List UInt8} {inner : Bool} {outer params results locals : List Int} {fl : UInt8} (h : headP l = .ok ((name, (inner, (outer, (params, (results, (locals, fl)))))), l')) : outer.length ≤ 4 := by
  unfold headP at h
  split at h
  · cases h
  · split at h
    · cases h
    · split at h
      · cases h
      · split at h
        · cases h
        · split at h
          · cases h
          · rename_i outer' l3 h3
            have i3 : outer'.length ≤ 4 := by
              split at h3
              · have := (sigP_len (by omega) h3).2; omega
              · cases h3; simp
            split at h
            · cases h
            · split at h
              · cases h
              · split at h
                · cases h
                · split at h
                  · cases h
                  · cases h
                    exact i3
theorem mapsG_len {k : Nat} : ∀ {f n : Nat} {last : Option St} {l l' : List UInt8} {x : List St}, mapsG k f n last l = .ok (x, l') → l'.length ≤ l.length ∧ x.length = n
  | f, 0, last, l, l', x, h => by simp only [mapsG, Except.ok.injEq, Prod.mk.injEq] at h; obtain ⟨rfl, rfl⟩ := h; simp
  | 0, n + 1, last, l, l', x, h => by simp [mapsG] at h
  | f + 1, n + 1, last, l, l', x, h => by
    simp only [mapsG] at h
    cases hr : groupP ((n + 1 : Nat) : Int) k last l with
    | error e => rw [hr] at h; cases h
    | ok p =>
      obtain ⟨⟨u, v⟩, l2⟩ := p
      rw [hr] at h
      obtain ⟨h1, h2, h3⟩ := groupP_len hr
      simp only at h h2 h3
      split at h
      · rename_i r l3 hq
        have := mapsG_len hq
        cases h
        simp; omega
      · cases h
theorem codeP_len {l l' : List UInt8} {n : Int} {code : List (Int × Int)} {lines : List Int} (h : codeP l = .ok ((n, (code, lines)), l')) : (code.length : Int) = n ∧ (lines.length : Int) = n := by
  unfold codeP at h
  split at h
  · cases h
  · rename_i u l1 h1
    have i1 := numP_ok h1
    split at h
    · cases h
    · split at h
      · cases h
      · rename_i c l2 h2
        have i2 := instrsP_len h2
        split at h
        · cases h
        · rename_i r l3 h3
          have i3 := runsP_len h3
          cases h
          exact ⟨by omega, by omega⟩
theorem tablesP_len {fl : UInt8} {n : Int} {k : Nat} {l l' : List UInt8} {nodes : List Nd} {at' : List Int} {live : List St} (hn : 0 ≤ n) (h : tablesP fl n k l = .ok ((nodes, (at', live)), l')) : l'.length ≤ l.length ∧ nodes.length ≤ 120 ∧ (at'.length : Int) ≤ n ∧ (live.length : Int) ≤ n := by
  unfold tablesP at h
  split at h
  · cases h; simp; omega
  · split at h
    · cases h
    · rename_i nd l1 h1
      have i1 := treeP_len h1
      split at h
      · cases h
      · rename_i a l2 h2
        have i2 := runsP_len h2
        split at h
        · cases h
        · rename_i m l3 h3
          have i3 := mapsG_len h3
          cases h
          exact ⟨by omega, by omega, by omega, by omega⟩
theorem fncP_ok {l l' : List UInt8} {name : List UInt8} {inner : Bool} {outer params results locals lines at' : List Int} {code : List (Int × Int)} {nodes : List Nd} {live : List St}
    (h : fncP l = .ok ((name, inner, outer, params, results, locals, code, lines, nodes, at', live), l')) :
    l'.length ≤ l.length ∧ outer.length ≤ 4 ∧ params.length + results.length + locals.length ≤ 256 ∧ code.length ≤ 2000 ∧ lines.length ≤ 2000 ∧ nodes.length ≤ 120 ∧ at'.length ≤ 2000 ∧ live.length ≤ 2000 := by
  unfold fncP at h
  split at h
  · cases h
  · rename_i nm inn ou pa re lo fl l1 h1
    have i1 := headP_ok h1
    have o1 := headP_outer h1
    split at h
    · cases h
    · rename_i n c li l2 h2
      have i2 := codeP_ok h2
      have o2 := codeP_len h2
      split at h
      · cases h
      · rename_i nd a m l3 h3
        have i3 := tablesP_len (by omega) h3
        cases h
        exact ⟨by omega, o1, i1.2.2, by omega, by omega, by omega, by omega, by omega⟩
end Go.Proofs.YtkdnbnkbnegckaaGreat
namespace Go.Proofs.YtkdnbnkbnegckaaGreat
open Go.RowKit Go.WideShapes

/-- Whatever reads as data of type t stands in the relation R to some value. -/
def Opens (P : Program) (t : TypeId) {α : Type} (R : World → List Value → α → Prop) : Prop :=
  ∀ (H : Type) (enc : TypeId × Value → H) (w : World) (base : Nat) (spare : Nat → Bool) (held : Bool) (fuel : Nat) (cs : List Value) (x : DataW H × List MemPlace),
    DataW.trod enc P w base spare held fuel t cs = some x → ∃ a, R w cs a

def IntR (k : IntKind) : World → List Value → Int → Prop := fun _ cs n => cs = [.int k n] ∧ (Lit.int k n).wf = true
def BoolR : World → List Value → Bool → Prop := fun _ cs b => cs = [.bool b]
def ConsR {α β : Type} (n : Nat) (R : World → List Value → α → Prop) (S : World → List Value → β → Prop) : World → List Value → α × β → Prop :=
  fun w cs a => ∃ c d, cs = c ++ d ∧ c.length = n ∧ R w c a.1 ∧ S w d a.2

/-- Lists of elements' cells stand in the relation R to a list, one by one. -/
def AllR {α : Type} (size : Nat) (R : World → List Value → α → Prop) (w : World) : List (List Value) → List α → Prop
  | [], [] => True
  | c :: cs, x :: xs => c.length = size ∧ R w c x ∧ AllR size R w cs xs
  | _, _ => False

theorem add_add (a : Addr) (q r : Nat) : (a.add q).add r = a.add (q + r) := by
  unfold Addr.add
  repeat' split
  all_goals simp_all [Nat.add_assoc]

section
variable {P : Program} {t : TypeId}

theorem Opens.mono {α β : Type} {R : World → List Value → α → Prop} {S : World → List Value → β → Prop} (h : Opens P t R) (g : α → β) (hg : ∀ w cs a, R w cs a → S w cs (g a)) : Opens P t S :=
  fun H enc w base spare held fuel cs x hx => let ⟨a, ha⟩ := h H enc w base spare held fuel cs x hx; ⟨g a, hg w cs a ha⟩

theorem opens_int {k : IntKind} (ht : P.underlying t = some (.int k)) : Opens P t (IntR k) :=
  fun _ _ _ _ _ _ _ _ _ h => let ⟨n, e, _, hw⟩ := DataW.trod_int ht h; ⟨n, e, hw⟩
theorem opens_bool (ht : P.underlying t = some .bool) : Opens P t BoolR :=
  fun _ _ _ _ _ _ _ _ _ h => let ⟨b, e, _⟩ := DataW.trod_bool ht h; ⟨b, e⟩
/-- The fields of a struct, from one on. -/
def OpensF (P : Program) (fs : List Field) (off : Nat) {α : Type} (R : World → List Value → α → Prop) : Prop :=
  ∀ (H : Type) (enc : TypeId × Value → H) (w : World) (base : Nat) (spare : Nat → Bool) (held : Bool) (fuel : Nat) (cs : List Value),
    (∀ (i : Nat) (f : Field), fs[i]? = some f → ∃ x, DataW.trod enc P w base spare held fuel f.type ((cs.drop f.offset).take (P.cellsOf f.type)) = some x) → ∃ a, R w (cs.drop off) a

theorem OpensF.cons {f : Field} {fs : List Field} {off n : Nat} {α β : Type} {R : World → List Value → α → Prop} {S : World → List Value → β → Prop} (ho : f.offset = off) (hn : P.cellsOf f.type = n)
    (hR : Opens P f.type R) (hlen : ∀ w c a, R w c a → c.length = n) (hS : OpensF P fs (off + n) S) : OpensF P (f :: fs) off (ConsR n R S) := by
  intro H enc w base spare held fuel cs h
  obtain ⟨x, hx⟩ := h 0 f rfl
  obtain ⟨a, ha⟩ := hR H enc w base spare held fuel _ x hx
  obtain ⟨b, hb⟩ := hS H enc w base spare held fuel cs (fun i g hg => h (i + 1) g (by simpa using hg))
  have hl := hlen _ _ _ ha
  refine ⟨(a, b), _, _, ?_, hl, ha, hb⟩
  rw [ho, hn, ← List.drop_drop]
  exact (List.take_append_drop n _).symm

theorem OpensF.nil {off : Nat} (m : Nat) (hm : m = off) : OpensF P [] off (fun _ cs (_ : Unit) => ∀ (c : Nat), c ≤ m → cs.length = c - off → cs = []) := by
  intro H enc w base spare held fuel cs _
  exact ⟨(), fun c hc hl => List.eq_nil_of_length_eq_zero (by omega)⟩

theorem AllR.map {α β : Type} {size : Nat} {R : World → List Value → α → Prop} {S : World → List Value → β → Prop} {w : World} {g : α → β} (hg : ∀ cs a, R w cs a → S w cs (g a)) :
    ∀ {ecs : List (List Value)} {xs : List α}, AllR size R w ecs xs → AllR size S w ecs (xs.map g)
  | [], [], _ => trivial
  | _ :: _, _ :: _, ⟨hl, h, hs⟩ => ⟨hl, hg _ _ h, AllR.map hg hs⟩

theorem allR_of {α : Type} {size : Nat} {R : World → List Value → α → Prop} {w : World} (E : Nat → List Value) : ∀ (n : Nat), (∀ i, i < n → (E i).length = size ∧ ∃ a, R w (E i) a) →
    ∃ xs : List α, xs.length = n ∧ AllR size R w ((List.range n).map E) xs := by
  intro n
  induction n generalizing E with
  | zero => intro _; exact ⟨[], rfl, trivial⟩
  | succ n ih =>
    intro h
    obtain ⟨xs, hl, hx⟩ := ih (fun i => E (i + 1)) (fun i hi => h (i + 1) (by omega))
    obtain ⟨h0, a, ha⟩ := h 0 (by omega)
    refine ⟨a :: xs, by simp [hl], ?_⟩
    rw [List.range_succ_eq_map]
    simp only [List.map_cons, List.map_map]
    exact ⟨h0, ha, hx⟩

theorem getElem?_flatten {size : Nat} : ∀ (ecs : List (List Value)) (_ : ∀ c ∈ ecs, c.length = size) (j : Nat) (u : Value), ecs.flatten[j]? = some u →
    0 < size ∧ j / size < ecs.length ∧ ∃ c, ecs[j / size]? = some c ∧ c[j % size]? = some u := by
  intro ecs
  induction ecs with
  | nil => intro _ j u h; simp at h
  | cons c ecs ih =>
    intro hs j u h
    have hc := hs c (by simp)
    rw [List.flatten_cons] at h
    by_cases hj : j < size
    · rw [List.getElem?_append_left (by omega)] at h
      have h1 : j / size = 0 := Nat.div_eq_of_lt hj
      have h2 : j % size = j := Nat.mod_eq_of_lt hj
      exact ⟨by omega, by rw [h1]; simp, c, by rw [h1]; rfl, by rw [h2]; exact h⟩
    · rw [List.getElem?_append_right (by omega), hc] at h
      obtain ⟨h0, h1, c', h2, h3⟩ := ih (fun c hc => hs c (by simp [hc])) (j - size) u h
      have hd : j / size = (j - size) / size + 1 := by rw [← Nat.sub_add_cancel (show size ≤ j by omega), Nat.add_div_right _ h0]; simp
      have hm : j % size = (j - size) % size := by rw [Nat.mod_eq_sub_mod (by omega)]
      exact ⟨h0, by rw [hd]; simp; exact h1, c', by rw [hd]; simpa using h2, by rw [hm]; exact h3⟩

theorem AllR.lens {α : Type} {size : Nat} {R : World → List Value → α → Prop} {w : World} : ∀ {ecs : List (List Value)} {xs : List α}, AllR size R w ecs xs → ecs.length = xs.length ∧ ∀ c ∈ ecs, c.length = size
  | [], [], _ => ⟨rfl, by simp⟩
  | _ :: _, _ :: _, ⟨hl, _, hs⟩ => by
    obtain ⟨h1, h2⟩ := AllR.lens hs
    refine ⟨by simp [h1], ?_⟩
    intro c hc
    rcases List.mem_cons.1 hc with rfl | hc
    · exact hl
    · exact h2 c hc

end
theorem AllR.flat {α : Type} {size : Nat} {enc : α → List Value} {w : World} : ∀ {ecs : List (List Value)} {xs : List α}, AllR size (fun _ cs a => cs = enc a) w ecs xs → ecs.flatten = xs.flatMap enc
  | [], [], _ => rfl
  | _ :: _, _ :: _, ⟨_, h, hs⟩ => by rw [List.flatten_cons, List.flatMap_cons, h, AllR.flat hs]

end Go.Proofs.YtkdnbnkbnegckaaGreat
namespace Go.Proofs.YtkdnbnkbnegckaaGreat
open Go.RowKit Go.WideShapes

theorem wf_i64 {n : Int} (h : (Lit.int .i64 n).wf = true) : -9223372036854775808 ≤ n ∧ n ≤ 9223372036854775807 := by
  simp [Lit.wf, IntKind.min, IntKind.max, IntKind.signed, IntKind.bits] at h
  omega
end Go.Proofs.YtkdnbnkbnegckaaGreat
namespace Go.Proofs.YtkdnbnkbnegckaaGreat
open Go.RowKit Go.WideShapes

/-- Whatever reads as data of type t, and weighs no more than can be reached, stands in the relation R to some value. -/
def OpensW (P : Program) (t : TypeId) {α : Type} (R : World → List Value → α → Prop) : Prop :=
  ∀ (H : Type) (enc : TypeId × Value → H) (w : World) (base : Nat) (spare : Nat → Bool) (held : Bool) (fuel : Nat) (cs : List Value) (x : DataW H × List MemPlace),
    DataW.trod enc P w base spare held fuel t cs = some x → (∀ n ∈ x.1.weights P t, n ≤ reachBytes) → ∃ a, R w cs a

def StrRW : World → List Value → ByteArray → Prop := fun _ cs s => cs = [.string s] ∧ s.size ≤ 140737488351232
def SliceRW {α : Type} (size by' : Nat) (R : World → List Value → α → Prop) : World → List Value → (List α × Option Addr × Nat) → Prop :=
  fun w cs x => ∃ ecs, cs = [.slice x.2.1 x.1.length x.2.2] ∧ x.1.length ≤ x.2.2 ∧ x.1.length * by' ≤ 140737488351232 ∧ Cells w x.2.1 ecs.flatten ∧ AllR size R w ecs x.1

section
variable {P : Program} {t : TypeId}

theorem OpensW.mono {α β : Type} {R : World → List Value → α → Prop} {S : World → List Value → β → Prop} (h : OpensW P t R) (g : α → β) (hg : ∀ w cs a, R w cs a → S w cs (g a)) : OpensW P t S :=
  fun H enc w base spare held fuel cs x hx hw => let ⟨a, ha⟩ := h H enc w base spare held fuel cs x hx hw; ⟨g a, hg w cs a ha⟩
theorem opensW_of {α : Type} {R : World → List Value → α → Prop} (h : Opens P t R) : OpensW P t R :=
  fun H enc w base spare held fuel cs x hx _ => h H enc w base spare held fuel cs x hx
theorem opensW_str (ht : P.underlying t = some .string) : OpensW P t StrRW :=
  fun _ _ _ _ _ _ _ _ x h hw => by
    obtain ⟨s, e, hx, hs⟩ := DataW.trod_string ht h
    refine ⟨s, e, ?_⟩
    have := hw s.data.toList.length (by rw [hx]; simp [DataW.weights])
    simpa [reachBytes] using this

/-- The fields of a struct, from one on. -/
def OpensFW (P : Program) (fs : List Field) (off : Nat) {α : Type} (R : World → List Value → α → Prop) : Prop :=
  ∀ (H : Type) (enc : TypeId × Value → H) (w : World) (base : Nat) (spare : Nat → Bool) (held : Bool) (fuel : Nat) (cs : List Value) (xs : List (DataW H × List MemPlace)),
    xs.length = fs.length → (∀ (i : Nat) (f : Field), fs[i]? = some f → DataW.trod enc P w base spare held fuel f.type ((cs.drop f.offset).take (P.cellsOf f.type)) = xs[i]?) →
    (∀ n ∈ DataW.weightsEach P (fs.map (·.type)) (xs.map (·.1)), n ≤ reachBytes) → ∃ a, R w (cs.drop off) a

theorem OpensFW.cons {f : Field} {fs : List Field} {off n : Nat} {α β : Type} {R : World → List Value → α → Prop} {S : World → List Value → β → Prop} (ho : f.offset = off) (hn : P.cellsOf f.type = n)
    (hR : OpensW P f.type R) (hlen : ∀ w c a, R w c a → c.length = n) (hS : OpensFW P fs (off + n) S) : OpensFW P (f :: fs) off (ConsR n R S) := by
  intro H enc w base spare held fuel cs xs hl h hw
  match xs, hl with
  | x :: xs, hl =>
    have h0 := h 0 f rfl
    simp only [List.getElem?_cons_zero] at h0
    simp only [List.map_cons, DataW.weightsEach, List.mem_append] at hw
    obtain ⟨a, ha⟩ := hR H enc w base spare held fuel _ x h0 (fun n hn => hw n (.inl hn))
    obtain ⟨b, hb⟩ := hS H enc w base spare held fuel cs xs (by simpa using hl) (fun i g hg => by simpa using h (i + 1) g (by simpa using hg)) (fun n hn => hw n (.inr hn))
    have hl := hlen _ _ _ ha
    refine ⟨(a, b), _, _, ?_, hl, ha, hb⟩
    rw [ho, hn, ← List.drop_drop]
    exact (List.take_append_drop n _).symm

theorem OpensFW.nil {off : Nat} : OpensFW P [] off (fun _ _ (_ : Unit) => True) := by
  intro H enc w base spare held fuel cs xs _ _ _
  exact ⟨(), trivial⟩

theorem opensW_struct {fs : Array Field} {α : Type} {R : World → List Value → α → Prop} (ht : P.underlying t = some (.struct fs)) (h : OpensFW P fs.toList 0 R) :
    OpensW P t (fun w cs a => cs.length = P.cellsOf t ∧ R w cs a) := by
  intro H enc w base spare held fuel cs x hx hw
  obtain ⟨xs, n, _, hxe, hl, hlen, hf⟩ := DataW.trod_struct ht hx
  rw [hxe] at hw
  simp only [DataW.weights, ht] at hw
  obtain ⟨a, ha⟩ := h H enc w base spare held n cs xs (by simpa using hlen) (fun i f hf' => hf i f (by simpa using hf')) hw
  exact ⟨a, hl, by simpa using ha⟩

theorem opensW_slice {e : TypeId} {size by' : Nat} {α : Type} {R : World → List Value → α → Prop} (ht : P.underlying t = some (.slice e)) (hc : P.cellsOf e = size) (hby : P.bytesOf e = by') (he : OpensW P e R) : OpensW P t (SliceRW size by' R) := by
  intro H enc w base spare held fuel cs x hx hw
  rcases Deep.open_slice ht hx with ⟨rfl, _⟩ | ⟨a, len, cap, m, n, D, Pl, rfl, hb, hl, hm, hmm, hxe, hel⟩
  · exact ⟨([], none, 0), [], rfl, Nat.le_refl _, by simp, Cells.nil _ _, trivial⟩
  · have hlm : len ≤ m := by rw [hmm]; split <;> omega
    rw [hc] at hel
    rw [hxe] at hw
    simp only [DataW.weights, ht, List.mem_cons, List.mem_append, hby] at hw
    have hw0 := hw _ (.inl rfl)
    have hwe : ∀ i, i < len → ∀ n ∈ (D i).weights P e, n ≤ reachBytes := fun i hi n hn => hw n (.inr (.inl (by
      have : ∀ (l : List (DataW H)) (d : DataW H), d ∈ l → ∀ n ∈ d.weights P e, n ∈ DataW.weightsAll P e l := by
        intro l
        induction l with
        | nil => intro d h; simp at h
        | cons c l ih =>
          intro d h n hn
          simp only [DataW.weightsAll, List.mem_append]
          rcases List.mem_cons.1 h with rfl | h
          · exact .inl hn
          · exact .inr (ih d h n hn)
      exact this _ (D i) (List.mem_map.2 ⟨i, by simpa using hi, rfl⟩) n hn)))
    obtain ⟨E, hE⟩ := Deep.choose_lt (α := List Value) (p := fun i cs' => w.cells? base (a.add (i * size)) size = some cs' ∧ ∃ y, DataW.trod enc P w base spare held n e cs' = some y ∧ y.1 = D i)
      (fun i (hi : i < len) => let ⟨cs', h1, h2⟩ := hel i (by omega); ⟨cs', h1, _, h2, rfl⟩)
    obtain ⟨xs, hxl, hall⟩ := allR_of (size := size) (R := R) (w := w) E len (fun i hi => by
      obtain ⟨h1, y, h2, h3⟩ := hE i hi
      exact ⟨(World.cells?_some h1).2.1, he H enc w base spare held n _ y h2 (by rw [h3]; exact hwe i hi)⟩)
    refine ⟨(xs, some a, cap), (List.range len).map E, by simp only [hxl], by simp only; omega, ?_, ?_, hall⟩
    · simp only [List.length_map, List.length_range, reachBytes] at hw0
      simp only [hxl]
      exact Nat.le_trans (Nat.mul_le_mul_right _ (Nat.le_add_right _ _)) (by simpa using hw0)
    have hcell : ∀ j u, ((List.range len).map E).flatten[j]? = some u → w.cell? (a.add j) = some u := by
      intro j u hu
      obtain ⟨h0, hlt, c, hc1, hc2⟩ := getElem?_flatten _ (AllR.lens hall).2 j u hu
      simp only [List.length_map, List.length_range] at hlt
      simp only [List.getElem?_map, List.getElem?_range hlt, Option.map_some, Option.some.injEq] at hc1
      subst hc1
      have h3 := (World.cells?_some (hE _ hlt).1).2.2 (j % size) (Nat.mod_lt _ h0)
      rw [hc2] at h3
      rw [← h3]
      congr 1
      have hj : j / size * size + j % size = j := by rw [Nat.mul_comm]; exact Nat.div_add_mod _ _
      generalize j / size * size = q at hj
      generalize j % size = r at hj
      subst hj
      exact (add_add a q r).symm
    refine ⟨fun hne => ?_, fun b off e2 j u hu => ?_⟩
    · cases hfl : ((List.range len).map E).flatten with
      | nil => exact absurd hfl hne
      | cons u us =>
        have := hcell 0 u (by rw [hfl]; rfl)
        obtain ⟨b, off, sp⟩ := a
        have hsp : sp = none := by
          simp only [World.cell?, Addr.add] at this
          cases sp with
          | none => rfl
          | some v => simp at this; split at this <;> simp_all
        exact ⟨b, off, by rw [hsp]⟩
    · obtain rfl := Option.some.inj e2
      have := hcell j u hu
      rwa [Addr.add_lit] at this

end
theorem opensW_int {P : Program} {t : TypeId} (ht : P.underlying t = some (.int .i64)) : OpensW P t (fun _ cs (n : Int) => cs = [Value.int .i64 n] ∧ I64 n) :=
  fun H enc w base spare held fuel cs x hx _ => by
    obtain ⟨n, e, hw⟩ := opens_int ht H enc w base spare held fuel cs x hx
    exact ⟨n, e, wf_i64 hw⟩
theorem opensW_bool {P : Program} {t : TypeId} (ht : P.underlying t = some .bool) : OpensW P t (fun _ cs (b : Bool) => cs = [Value.bool b]) :=
  opensW_of (opens_bool ht)
end Go.Proofs.YtkdnbnkbnegckaaGreat
namespace Go.Proofs.YtkdnbnkbnegckaaGreat
open Go.RowKit Go.WideShapes

def okI : (k : IntKind) → DI k → Prop
  | .i64, n => I64 n
  | .u64, n => (0 : Int) ≤ n ∧ n < 18446744073709551616
  | _, _ => True
/-- Numbers of a word, texts and rows that a machine can reach. -/
def OkD : (τ : Ty) → Data τ → Prop
  | .int k, x => okI k x
  | .bool, _ => True
  | .str, x => x.length ≤ 140737488351232
  | .sl _ e, x => x.length ≤ 140737488351232 ∧ ∀ y ∈ x, OkD e y
  | .nul, _ => True
  | .pr a b, x => OkD a x.1 ∧ OkD b x.2
def DatR (τ : Ty) : World → List Value → Data τ → Prop := fun w cs x => RepCs w W0 (enc τ x) cs ∧ OkD τ x
abbrev OpensD (P : Program) (t : TypeId) (τ : Ty) : Prop := OpensW P t (DatR τ)
theorem DatR.len {τ : Ty} {w : World} {cs : List Value} {x : Data τ} (h : DatR τ w cs x) : cs.length = width τ := by rw [← h.1.1, enc_len]
theorem repCs_one {w : World} {c : C} {v : Value} (h : RepC w W0 c v) : RepCs w W0 [c] [v] := ⟨rfl, fun i c' u h1 h2 => by
  cases i with
  | zero => cases h1; cases h2; exact h
  | succ i => simp at h1⟩
theorem repCs_nil {w : World} : RepCs w W0 [] [] := ⟨rfl, fun i c u h1 _ => by simp at h1⟩
section
variable {P : Program} {t : TypeId}
theorem opensD_i64 (ht : P.underlying t = some (.int .i64)) : OpensD P t (.int .i64) := (opensW_int ht).mono id fun w cs n ⟨h1, h2⟩ => by
  subst h1
  exact ⟨repCs_one (.v _ rfl), h2⟩
set_option maxRecDepth 20000 in
theorem wf_u64' {n : Int} (h : (Lit.int .u64 n).wf = true) : 0 ≤ n ∧ n < 18446744073709551616 := by
  simp [Lit.wf, IntKind.min, IntKind.max, IntKind.signed, IntKind.bits] at h
  omega
theorem opensD_bool (ht : P.underlying t = some .bool) : OpensD P t .bool := (opensW_bool ht).mono id fun w cs b h1 => by
  subst h1
  exact ⟨repCs_one (.v _ rfl), trivial⟩
theorem opensD_str (ht : P.underlying t = some .string) : OpensD P t .str := (opensW_str ht).mono (fun s => s.data.toList) fun w cs s ⟨h1, h2⟩ => by
  subst h1
  exact ⟨repCs_one (.v _ rfl), h2⟩
theorem allR_dat {τ : Ty} {sz : Nat} {w : World} : ∀ {ecs : List (List Value)} {xs : List (Data τ)}, AllR sz (DatR τ) w ecs xs → RepCs w W0 (encL τ xs).flatten ecs.flatten ∧ (∀ x ∈ xs, OkD τ x) ∧ ∀ e ∈ ecs, e.length = sz
  | [], [], _ => ⟨repCs_nil, fun _ h => by simp at h, fun _ h => by simp at h⟩
  | c :: cs, x :: xs, ⟨h1, h2, h3⟩ => by
    obtain ⟨k1, k2, k3⟩ := allR_dat h3
    exact ⟨h2.1.append k1, by simpa using ⟨h2.2, k2⟩, by simpa using ⟨h1, k3⟩⟩
theorem opensD_sl {e : TypeId} {sz by' : Nat} {τ : Ty} (ht : P.underlying t = some (.slice e)) (hc : P.cellsOf e = sz) (hby : P.bytesOf e = by') (hs : width τ = sz) (h0 : 0 < sz) (hb0 : 0 < by') (he : OpensD P e τ) : OpensD P t (.sl sz τ) :=
  (opensW_slice ht hc hby he).mono (fun x => x.1) fun w cs x ⟨ecs, h1, h2, h3, h4, h5⟩ => by
    obtain ⟨xs, ao, cap⟩ := x
    obtain ⟨k1, k2, k3⟩ := allR_dat h5
    simp only at h1 h2 h3 h4 k1 k2
    subst h1
    have hl : (encL τ xs).length = xs.length := List.length_map _
    have hr : RepC w W0 (.fz sz (encL τ xs)) (.slice ao xs.length cap) := by
      rw [← hl]
      exact repC_in h0 (fun c hc => by
        obtain ⟨y, _, rfl⟩ := List.mem_map.1 hc
        rw [enc_len, hs]) (by rw [hl]; exact h2) h4 k1
    refine ⟨repCs_one hr, ?_, k2⟩
    have : xs.length * 1 ≤ xs.length * by' := Nat.mul_le_mul_left _ hb0
    show xs.length ≤ _
    omega
/-- The fields of a struct, from one on. -/
def FldR (τ : Ty) : World → List Value → Data τ → Prop := fun w cs x => ∃ c d, cs = c ++ d ∧ DatR τ w c x
theorem opensFD_one {f : Field} {off : Nat} {τ : Ty} (ho : f.offset = off) (hn : P.cellsOf f.type = width τ) (h : OpensD P f.type τ) : OpensFW P [f] off (FldR τ) := fun H enc w base spare held fuel cs xs hl hx hw => by
  obtain ⟨⟨a, _⟩, c, d, e, _, hr, _⟩ := OpensFW.cons ho hn h (fun _ _ _ h => h.len) (OpensFW.nil (off := off + width τ)) H enc w base spare held fuel cs xs hl hx hw
  exact ⟨a, c, d, e, hr⟩
theorem opensFD_cons {f : Field} {fs : List Field} {off : Nat} {τ σ : Ty} (ho : f.offset = off) (hn : P.cellsOf f.type = width τ) (h : OpensD P f.type τ) (hs : OpensFW P fs (off + width τ) (FldR σ)) : OpensFW P (f :: fs) off (FldR (.pr τ σ)) := fun H enc w base spare held fuel cs xs hl hx hw => by
  obtain ⟨⟨a, b⟩, c, d, e, _, hr, c2, d2, e2, hr2⟩ := OpensFW.cons ho hn h (fun _ _ _ h => h.len) hs H enc w base spare held fuel cs xs hl hx hw
  simp only at hr hr2 e2
  exact ⟨(a, b), c ++ c2, d2, by rw [e, e2, List.append_assoc], hr.1.append hr2.1, hr.2, hr2.2⟩
theorem opensD_struct {fs : Array Field} {τ : Ty} (ht : P.underlying t = some (.struct fs)) (hc : P.cellsOf t = width τ) (h : OpensFW P fs.toList 0 (FldR τ)) : OpensD P t τ :=
  (opensW_struct ht h).mono id fun w cs x ⟨hl, c, d, e, hr⟩ => by
    have : d = [] := by
      have h1 := hr.len
      rw [e, List.length_append, h1, hc] at hl
      exact List.eq_nil_of_length_eq_zero (by omega)
    subst this
    rw [List.append_nil] at e
    subst e
    exact hr
theorem opensD_arr4 {e : TypeId} (ht : P.underlying t = some (.array 4 e)) (he : P.underlying e = some (.int .u64)) (hc : P.cellsOf e = 1) (hc4 : P.cellsOf t = 4) : OpensD P t (.pr (.int .u64) (.pr (.int .u64) (.pr (.int .u64) (.int .u64)))) :=
  fun H enc w base spare held fuel cs x hx _ => by
    obtain ⟨xs, m, _, _, hl, hlen, hf⟩ := DataW.trod_array ht hx
    have hl4 : cs.length = 4 := by rw [hl, hc4]
    obtain ⟨v0, v1, v2, v3, rfl⟩ : ∃ v0 v1 v2 v3, cs = [v0, v1, v2, v3] := by
      match cs, hl4 with
      | [v0, v1, v2, v3], _ => exact ⟨v0, v1, v2, v3, rfl⟩
    have f0 := hf 0 (by decide)
    have f1 := hf 1 (by decide)
    have f2 := hf 2 (by decide)
    have f3 := hf 3 (by decide)
    rw [hc] at f0 f1 f2 f3
    rw [List.getElem?_eq_getElem (by omega)] at f0 f1 f2 f3
    obtain ⟨n0, q0, _, w0⟩ := DataW.trod_int he f0
    obtain ⟨n1, q1, _, w1⟩ := DataW.trod_int he f1
    obtain ⟨n2, q2, _, w2⟩ := DataW.trod_int he f2
    obtain ⟨n3, q3, _, w3⟩ := DataW.trod_int he f3
    simp at q0 q1 q2 q3
    subst q0 q1 q2 q3
    exact ⟨(n0, (n1, (n2, n3))), (repCs_one (.v _ rfl)).append ((repCs_one (.v _ rfl)).append ((repCs_one (.v _ rfl)).append (repCs_one (.v _ rfl)))), wf_u64' w0, wf_u64' w1, wf_u64' w2, wf_u64' w3⟩
end
/-- An argument, opened with its weight. -/
theorem open_d {P : Program} {t : TypeId} {τ : Ty} (ho : OpensD P t τ) {H : Type} {enc : TypeId × Value → H} {W : World} {base : Nat} {spare : Nat → Bool} {held : Bool} {v : Value} {d : DataW H} {p : List MemPlace} {ts : List TypeId} {ds : List (DataW H)}
    (hsz : (DataW.weightsEach P ts ds).all (· ≤ reachBytes) = true) {j : Nat} (htj : ts[j]? = some t) (hdj : ds[j]? = some d) (h : DataW.Trod enc P W base spare held t v d p) : ∃ a, DatR τ W v.cells.toList a := by
  obtain ⟨fuel, hf⟩ := h
  exact ho H enc W base spare held fuel _ _ hf (fun n hn => by
    exact of_decide_eq_true (List.all_eq_true.1 hsz _ (DataW.weights_mem_each htj hdj n hn)))
/-- An argument as the second machine sees it. -/
def argA (τ : Ty) (x : Data τ) : T := ⟨.agg, (enc τ x).map .c⟩
theorem repCs_xs {w : World} {cs : List C} {us : List Value} (h : RepCs w W0 cs us) : RepXs w W0 L0 ⟨[], []⟩ (cs.map .c) us := ⟨by simpa using h.1, fun i x u h1 h2 => by
  rw [List.getElem?_map] at h1
  cases hc : cs[i]? with
  | none => rw [hc] at h1; cases h1
  | some c =>
    rw [hc] at h1
    cases h1
    exact ⟨h.2 i c u hc h2, h.one u (List.mem_of_getElem? h2)⟩⟩
theorem rep_argA {w : World} {τ : Ty} {x : Data τ} {cs : List Value} (h : DatR τ w cs x) : RepT w W0 L0 ⟨[], []⟩ (argA τ x) (.agg cs.toArray) := ⟨cs, rfl, repCs_xs h.1⟩
end Go.Proofs.YtkdnbnkbnegckaaGreat
namespace Go.Proofs.YtkdnbnkbnegckaaGreat
open Go.RowKit
set_option maxRecDepth 20000

def errP (e : Int) : PanicEntry := { v := .iface 32 (.int .i64 e), recovered := false }
theorem so_true (e : Int) (w : World) : Calls Tryz.prog 128 #[.bool true, .int .i64 e] w fun x w' => x = .returned (.tuple #[]) ∧ w' = w := by
  go_enter Tryz.func128, Tryz.ntmps128
  go_wp2_with fail
  go_end0
  exact ⟨rfl, rfl⟩
theorem so_false (e : Int) (w : World) : Calls Tryz.prog 128 #[.bool false, .int .i64 e] w fun x w' => x = .panicked [errP e] ∧ w' = w := by
  go_enter Tryz.func128, Tryz.ntmps128
  go_wp2_with fail
  exact ⟨rfl, rfl, rfl⟩
theorem must_ok (w : World) : Calls Tryz.prog 129 #[.int .i64 0] w fun x w' => x = .returned (.tuple #[]) ∧ w' = w := by
  go_enter Tryz.func129, Tryz.ntmps129
  go_wp2_with fail
  go_end0
  exact ⟨rfl, rfl⟩
theorem must_bad (e : Int) (he : e ≠ 0) (w : World) : Calls Tryz.prog 129 #[.int .i64 e] w fun x w' => x = .panicked [errP e] ∧ w' = w := by
  have hb : (e != 0) = true := by simp [he]
  have hb2 : (e == 0) = false := by simp [he]
  go_enter Tryz.func129, Tryz.ntmps129
  go_wp2_with fail
  exact ⟨rfl, rfl, rfl⟩
/-! Calls of what the second machine knows -/
/-- Values that do not turn: a call that hands back one cell. -/
theorem repT_one {W : World} {who : Nat → Who} {L : Lay} {h : Hp} {c : C} {v : Value} (H : RepT W who L h ⟨.one, [.c c]⟩ v) : RepC W who c v := by
  obtain ⟨x, hx, hr⟩ := H
  cases hx
  exact hr
theorem pure_one {f : FuncId} {args : List T} {c : C} {h' : Hp} (hc : callW Tryz.prog annX plansX f args ⟨[], []⟩ = some (⟨.one, [.c c]⟩, h')) {W : World} {vs : List Value} (hl : args.length = vs.length) (hr : ∀ (i : Nat) t v, args[i]? = some t → vs[i]? = some v → RepT W W0 L0 ⟨[], []⟩ t v) :
    Calls Tryz.prog f vs.toArray W fun e W' => ∃ v, e = .returned v ∧ RepC W' W0 c v ∧ Ext W W' := by
  refine ((callW_ok (A := annX) base_ok prog_ok f args ⟨[], []⟩ _ h' hc).2 W W0 L0 vs ⟨fun k xs h => by simp at h, fun r ty sz es h => by simp at h, fun r sz es h => by simp at h⟩ hl hr).mono fun e W' ⟨v, who', L', he, hv, _, hs⟩ => ?_
  exact ⟨v, he, (repT_one hv).mono fun _ _ => rfl, hs.os, hs.tape, hs.output, hs.size, fun k hk => (hs.fro k rfl hk).1⟩
/-- The heap that holds a cursor. -/
def hpC (bs : List UInt8) (er : Int) : Hp := ⟨[[.c (.fz 1 (encL tY bs)), .c (.v (.bool true)), .c (.v (.int .i64 er))]], []⟩
theorem cur_m {f : FuncId} {args : List T} {res : T} {bs bs' : List UInt8} {er er' : Int} (hc : callW Tryz.prog annX plansX f (⟨.one, [.ptr 0 0]⟩ :: args) (hpC bs er) = some (res, hpC bs' er')) {W : World} {who : Nat → Who} {L : Lay} (H : HSim W who L (hpC bs er)) {vs : List Value} (hl : args.length = vs.length)
    (hr : ∀ (i : Nat) t v, args[i]? = some t → vs[i]? = some v → RepT W who L (hpC bs er) t v) :
    Calls Tryz.prog f (.pointer (some ⟨L.box 0, 0, none⟩) :: vs).toArray W fun e W' => ∃ v who' L', e = .returned v ∧ RepT W' who' L' (hpC bs' er') res v ∧ HSim W' who' L' (hpC bs' er') ∧ Step .all W who L (hpC bs er) W' who' L' (hpC bs' er') := by
  refine (callW_ok (A := annX) base_ok prog_ok f _ _ _ _ hc).2 W who L _ H (by simp [hl]) fun i t v h1 h2 => ?_
  cases i with
  | zero =>
    cases h1
    cases h2
    exact ⟨_, rfl, Nat.zero_lt_one, rfl⟩
  | succ i => exact hr i t v (by simpa using h1) (by simpa using h2)
theorem rep_i64 {W : World} {who : Nat → Who} {L : Lay} {h : Hp} {n : Int} : RepT W who L h ⟨.one, [.c (.v (.int .i64 n))]⟩ (.int .i64 n) := ⟨_, rfl, .v _ rfl⟩
theorem rep_i64_inv {W : World} {who : Nat → Who} {L : Lay} {h : Hp} {n : Int} {v : Value} (H : RepT W who L h ⟨.one, [.c (.v (.int .i64 n))]⟩ v) : v = .int .i64 n := by
  have := repT_one H
  cases this
  rfl
theorem no_args {P : Nat → T → Value → Prop} : ∀ (i : Nat) t v, ([] : List T)[i]? = some t → ([] : List Value)[i]? = some v → P i t v := fun i t v h => by simp at h
/-- What the cursor's functions come to, as calls of the second machine. -/
theorem w_Num {bs bs' : List UInt8} {er er' m n : Int} (h : S_cursor_Cursor_Num bs true er m = some (bs', (true, (er', (n, ()))))) : callW Tryz.prog annX plansX 96 [⟨.one, [.ptr 0 0]⟩, ⟨.one, [.c (.v (.int .i64 m))]⟩] (hpC bs er) = some (⟨.one, [.c (.v (.int .i64 n))]⟩, hpC bs' er') :=
  k_cursor_Cursor_Num (bs, (true, (er, (m, ())))) _ h _ (by kernel_rfl)
theorem w_Err {bs : List UInt8} {er : Int} : callW Tryz.prog annX plansX 14 [⟨.one, [.ptr 0 0]⟩] (hpC bs er) = some (⟨.one, [.c (.v (.int .i64 er))]⟩, hpC bs er) :=
  k_cursor_Cursor_Err (bs, (true, (er, ()))) _ sp_Err _ (by kernel_rfl)
theorem w_New {bs : List UInt8} (h : bs.length ≤ 140737488351232) : callW Tryz.prog annX plansX 10 [⟨.one, [.c (.fz 1 (encL tY bs))]⟩] ⟨[], []⟩ = some (⟨.one, [.ptr 0 0]⟩, hpC bs 0) :=
  k_cursor_New (bs, ()) _ (sp_New h) _ (by kernel_rfl)
/-- A function's cells. -/
def fnX (x : Fn) : List X := (enc tF x).map .c
theorem w_Take {bs bs' : List UInt8} {er er' : Int} {x : Fn} (h : S_fnc_Take bs true er = some (bs', true, er', x.1, x.2.1, x.2.2.1, x.2.2.2.1, x.2.2.2.2.1, x.2.2.2.2.2.1, x.2.2.2.2.2.2.1, x.2.2.2.2.2.2.2.1, x.2.2.2.2.2.2.2.2.1, x.2.2.2.2.2.2.2.2.2.1, x.2.2.2.2.2.2.2.2.2.2, ())) :
    callW Tryz.prog annX plansX 13 [⟨.one, [.ptr 0 0]⟩] (hpC bs er) = some (⟨.agg, fnX x⟩, hpC bs' er') :=
  k_fnc_Take (bs, (true, (er, ()))) _ h _ (by kernel_rfl)
end Go.Proofs.YtkdnbnkbnegckaaGreat
