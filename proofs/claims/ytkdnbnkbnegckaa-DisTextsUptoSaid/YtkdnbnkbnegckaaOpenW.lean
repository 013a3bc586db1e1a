/- How data that came in are opened, with their weights: what a machine can reach bounds each slice and each text. -/
import Derived.Test.YtkdnbnkbnegckaaOpen2
import Derived.Test.YtkdnbnkbnegckaaData
namespace Go.Proofs.Ytkdnbnkbnegckaa
open Go.RowKit Go.WideShapes

/-- Whatever reads as data of type t, and weighs no more than can be reached, stands in the relation R to some value. -/
def OpensW (P : Program) (t : TypeId) {α : Type} (R : World → List Value → α → Prop) : Prop :=
  ∀ (H : Type) (enc : TypeId × Value → H) (w : World) (base : Nat) (spare : Nat → Bool) (held : Bool) (fuel : Nat) (cs : List Value) (x : DataW H × List MemPlace),
    DataW.trod enc P w base spare held fuel t cs = some x → (∀ n ∈ x.1.weights P t, n ≤ reachBytes) → ∃ a, R w cs a

def StrRW : World → List Value → ByteArray → Prop := fun _ cs s => cs = [.string s] ∧ s.size ≤ 140737488351232
def SliceRW {α : Type} (size by' : Nat) (R : World → List Value → α → Prop) : World → List Value → (List α × Option Addr × Nat) → Prop :=
  fun w cs x => ∃ ecs, cs = [.slice x.2.1 x.1.length x.2.2] ∧ x.1.length ≤ x.2.2 ∧ x.1.length * by' ≤ 140737488351232 ∧ Cells w x.2.1 ecs.flatten ∧ AllR size R w ecs x.1

section
variable {P : Program} {t : TypeId}

theorem OpensW.mono {α β : Type} {R : World → List Value → α → Prop} {S : World → List Value → β → Prop} (h : OpensW P t R) (g : α → β) (hg : ∀ w cs a, R w cs a → S w cs (g a)) : OpensW P t S :=
  fun H enc w base spare held fuel cs x hx hw => let ⟨a, ha⟩ := h H enc w base spare held fuel cs x hx hw; ⟨g a, hg w cs a ha⟩
theorem opensW_of {α : Type} {R : World → List Value → α → Prop} (h : Opens P t R) : OpensW P t R :=
  fun H enc w base spare held fuel cs x hx _ => h H enc w base spare held fuel cs x hx
theorem opensW_str (ht : P.underlying t = some .string) : OpensW P t StrRW :=
  fun _ _ _ _ _ _ _ _ x h hw => by
    obtain ⟨s, e, hx, hs⟩ := DataW.trod_string ht h
    refine ⟨s, e, ?_⟩
    have := hw s.data.toList.length (by rw [hx]; simp [DataW.weights])
    simpa [reachBytes] using this

/-- The fields of a struct, from one on. -/
def OpensFW (P : Program) (fs : List Field) (off : Nat) {α : Type} (R : World → List Value → α → Prop) : Prop :=
  ∀ (H : Type) (enc : TypeId × Value → H) (w : World) (base : Nat) (spare : Nat → Bool) (held : Bool) (fuel : Nat) (cs : List Value) (xs : List (DataW H × List MemPlace)),
    xs.length = fs.length → (∀ (i : Nat) (f : Field), fs[i]? = some f → DataW.trod enc P w base spare held fuel f.type ((cs.drop f.offset).take (P.cellsOf f.type)) = xs[i]?) →
    (∀ n ∈ DataW.weightsEach P (fs.map (·.type)) (xs.map (·.1)), n ≤ reachBytes) → ∃ a, R w (cs.drop off) a

theorem OpensFW.cons {f : Field} {fs : List Field} {off n : Nat} {α β : Type} {R : World → List Value → α → Prop} {S : World → List Value → β → Prop} (ho : f.offset = off) (hn : P.cellsOf f.type = n)
    (hR : OpensW P f.type R) (hlen : ∀ w c a, R w c a → c.length = n) (hS : OpensFW P fs (off + n) S) : OpensFW P (f :: fs) off (ConsR n R S) := by
  intro H enc w base spare held fuel cs xs hl h hw
  match xs, hl with
  | x :: xs, hl =>
    have h0 := h 0 f rfl
    simp only [List.getElem?_cons_zero] at h0
    simp only [List.map_cons, DataW.weightsEach, List.mem_append] at hw
    obtain ⟨a, ha⟩ := hR H enc w base spare held fuel _ x h0 (fun n hn => hw n (.inl hn))
    obtain ⟨b, hb⟩ := hS H enc w base spare held fuel cs xs (by simpa using hl) (fun i g hg => by simpa using h (i + 1) g (by simpa using hg)) (fun n hn => hw n (.inr hn))
    have hl := hlen _ _ _ ha
    refine ⟨(a, b), _, _, ?_, hl, ha, hb⟩
    rw [ho, hn, ← List.drop_drop]
    exact (List.take_append_drop n _).symm

theorem OpensFW.nil {off : Nat} : OpensFW P [] off (fun _ _ (_ : Unit) => True) := by
  intro H enc w base spare held fuel cs xs _ _ _
  exact ⟨(), trivial⟩

theorem opensW_struct {fs : Array Field} {α : Type} {R : World → List Value → α → Prop} (ht : P.underlying t = some (.struct fs)) (h : OpensFW P fs.toList 0 R) :
    OpensW P t (fun w cs a => cs.length = P.cellsOf t ∧ R w cs a) := by
  intro H enc w base spare held fuel cs x hx hw
  obtain ⟨xs, n, _, hxe, hl, hlen, hf⟩ := DataW.trod_struct ht hx
  rw [hxe] at hw
  simp only [DataW.weights, ht] at hw
  obtain ⟨a, ha⟩ := h H enc w base spare held n cs xs (by simpa using hlen) (fun i f hf' => hf i f (by simpa using hf')) hw
  exact ⟨a, hl, by simpa using ha⟩

theorem opensW_slice {e : TypeId} {size by' : Nat} {α : Type} {R : World → List Value → α → Prop} (ht : P.underlying t = some (.slice e)) (hc : P.cellsOf e = size) (hby : P.bytesOf e = by') (he : OpensW P e R) : OpensW P t (SliceRW size by' R) := by
  intro H enc w base spare held fuel cs x hx hw
  rcases Deep.open_slice ht hx with ⟨rfl, _⟩ | ⟨a, len, cap, m, n, D, Pl, rfl, hb, hl, hm, hmm, hxe, hel⟩
  · exact ⟨([], none, 0), [], rfl, Nat.le_refl _, by simp, Cells.nil _ _, trivial⟩
  · have hlm : len ≤ m := by rw [hmm]; split <;> omega
    rw [hc] at hel
    rw [hxe] at hw
    simp only [DataW.weights, ht, List.mem_cons, List.mem_append, hby] at hw
    have hw0 := hw _ (.inl rfl)
    have hwe : ∀ i, i < len → ∀ n ∈ (D i).weights P e, n ≤ reachBytes := fun i hi n hn => hw n (.inr (.inl (by
      have : ∀ (l : List (DataW H)) (d : DataW H), d ∈ l → ∀ n ∈ d.weights P e, n ∈ DataW.weightsAll P e l := by
        intro l
        induction l with
        | nil => intro d h; simp at h
        | cons c l ih =>
          intro d h n hn
          simp only [DataW.weightsAll, List.mem_append]
          rcases List.mem_cons.1 h with rfl | h
          · exact .inl hn
          · exact .inr (ih d h n hn)
      exact this _ (D i) (List.mem_map.2 ⟨i, by simpa using hi, rfl⟩) n hn)))
    obtain ⟨E, hE⟩ := Deep.choose_lt (α := List Value) (p := fun i cs' => w.cells? base (a.add (i * size)) size = some cs' ∧ ∃ y, DataW.trod enc P w base spare held n e cs' = some y ∧ y.1 = D i)
      (fun i (hi : i < len) => let ⟨cs', h1, h2⟩ := hel i (by omega); ⟨cs', h1, _, h2, rfl⟩)
    obtain ⟨xs, hxl, hall⟩ := allR_of (size := size) (R := R) (w := w) E len (fun i hi => by
      obtain ⟨h1, y, h2, h3⟩ := hE i hi
      exact ⟨(World.cells?_some h1).2.1, he H enc w base spare held n _ y h2 (by rw [h3]; exact hwe i hi)⟩)
    refine ⟨(xs, some a, cap), (List.range len).map E, by simp only [hxl], by simp only; omega, ?_, ?_, hall⟩
    · simp only [List.length_map, List.length_range, reachBytes] at hw0
      simp only [hxl]
      exact Nat.le_trans (Nat.mul_le_mul_right _ (Nat.le_add_right _ _)) (by simpa using hw0)
    have hcell : ∀ j u, ((List.range len).map E).flatten[j]? = some u → w.cell? (a.add j) = some u := by
      intro j u hu
      obtain ⟨h0, hlt, c, hc1, hc2⟩ := getElem?_flatten _ (AllR.lens hall).2 j u hu
      simp only [List.length_map, List.length_range] at hlt
      simp only [List.getElem?_map, List.getElem?_range hlt, Option.map_some, Option.some.injEq] at hc1
      subst hc1
      have h3 := (World.cells?_some (hE _ hlt).1).2.2 (j % size) (Nat.mod_lt _ h0)
      rw [hc2] at h3
      rw [← h3]
      congr 1
      have hj : j / size * size + j % size = j := by rw [Nat.mul_comm]; exact Nat.div_add_mod _ _
      generalize j / size * size = q at hj
      generalize j % size = r at hj
      subst hj
      exact (add_add a q r).symm
    refine ⟨fun hne => ?_, fun b off e2 j u hu => ?_⟩
    · cases hfl : ((List.range len).map E).flatten with
      | nil => exact absurd hfl hne
      | cons u us =>
        have := hcell 0 u (by rw [hfl]; rfl)
        obtain ⟨b, off, sp⟩ := a
        have hsp : sp = none := by
          simp only [World.cell?, Addr.add] at this
          cases sp with
          | none => rfl
          | some v => simp at this; split at this <;> simp_all
        exact ⟨b, off, by rw [hsp]⟩
    · obtain rfl := Option.some.inj e2
      have := hcell j u hu
      rwa [Addr.add_lit] at this

end
theorem opensW_int {P : Program} {t : TypeId} (ht : P.underlying t = some (.int .i64)) : OpensW P t (fun _ cs (n : Int) => cs = [Value.int .i64 n] ∧ I64 n) :=
  fun H enc w base spare held fuel cs x hx _ => by
    obtain ⟨n, e, hw⟩ := opens_int ht H enc w base spare held fuel cs x hx
    exact ⟨n, e, wf_i64 hw⟩
theorem opensW_bool {P : Program} {t : TypeId} (ht : P.underlying t = some .bool) : OpensW P t (fun _ cs (b : Bool) => cs = [Value.bool b]) :=
  opensW_of (opens_bool ht)
end Go.Proofs.Ytkdnbnkbnegckaa
