/- How data that came in are opened: bytes with their capacity and their weight, pairs of ints with their bounds, texts. How data that came in are opened, with their weights: what a machine can reach bounds each slice and each text. How data that came in are opened, as the second machine's data: along their type. file.Decode: what gives up, and the calls that it makes. -/
import Derived.Test.YtkdnbnkbnegckaaGreatOpen
import Derived.SizedLaws
import Derived.Test.YtkdnbnkbnegckaaGreatSpP
import Derived.Test.YtkdnbnkbnegckaaGreatLfS
import Derived.Test.YtkdnbnkbnegckaaGreatClo
import Derived.OpenShut
import Derived.Recover
import Derived.Tactics2
namespace Go.Proofs.YtkdnbnkbnegckaaGreat
open Go.RowKit Go.WideShapes

/-- A slice of bytes: its length is no more than its capacity, and than what a machine can reach. -/
theorem open_bytes_sized {P : Program} {t e : TypeId} (ht : P.underlying t = some (.slice e)) (he : P.underlying e = some (.int .u8)) (hc : P.cellsOf e = 1) (hby : P.bytesOf e = 1) {H : Type} {enc : TypeId × Value → H} {w : World} {base : Nat} {spare : Nat → Bool} {held : Bool}
    {a : Option Addr} {len cap : Nat} {d : DataW H} {p : List MemPlace} {ts : List TypeId} {ds : List (DataW H)} (hsz : (DataW.weightsEach P ts ds).all (· ≤ reachBytes) = true) {j : Nat} (htj : ts[j]? = some t) (hdj : ds[j]? = some d)
    (h : DataW.Trod enc P w base spare held t (.slice a len cap) d p) : ∃ z : List UInt8, len = z.length ∧ Cells w a (z.map byteC) ∧ z.length ≤ cap ∧ z.length ≤ 140737488351232 := by
  obtain ⟨z, rfl, hz⟩ := open_bytes_flat ht he hc h
  obtain ⟨fuel, hf⟩ := h
  refine ⟨z, rfl, hz, ?_⟩
  rcases Deep.open_slice ht hf with ⟨h1, _⟩ | ⟨a', len', cap', m, n, D, Pl, h1, _, hl, _, _, h2, _⟩
  · simp [Value.cells] at h1
    obtain ⟨_, h1, h2⟩ := h1
    simp [h1, h2]
  · simp [Value.cells] at h1
    obtain ⟨rfl, rfl, rfl⟩ := h1
    simp only [Prod.mk.injEq] at h2
    obtain ⟨rfl, _⟩ := h2
    have := sized_slice hsz htj hdj ht
    rw [hby] at this
    simp only [List.length_map, List.length_range, reachBytes] at this
    exact ⟨hl, by omega⟩

/-- Structs of two ints. -/
theorem opens_pairB {P : Program} {t f g : TypeId} {a b : Field} (ht : P.underlying t = some (.struct #[a, b])) (h2 : P.cellsOf t = 2) (ha : a.type = f ∧ a.offset = 0) (hb : b.type = g ∧ b.offset = 1)
    (hf : P.underlying f = some (.int .i64)) (hg : P.underlying g = some (.int .i64)) (hcf : P.cellsOf f = 1) (hcg : P.cellsOf g = 1) :
    Opens P t (fun _ cs (p : Int × Int) => cs = pairC p ∧ (Lit.int .i64 p.1).wf = true ∧ (Lit.int .i64 p.2).wf = true) := by
  intro H enc w base spare held fuel cs x hx
  obtain ⟨y0, y1, n, _, hl, h0, h1⟩ := ChangeShapes.trod_struct2 ht hx
  rw [ha.1, ha.2, hcf] at h0
  rw [hb.1, hb.2, hcg] at h1
  rw [h2] at hl
  obtain ⟨c0, c1, rfl⟩ : ∃ c0 c1, cs = [c0, c1] := by match cs, hl with | [c0, c1], _ => exact ⟨_, _, rfl⟩
  obtain ⟨n0, e0, _, w0⟩ := DataW.trod_int hf h0
  obtain ⟨n1, e1, _, w1⟩ := DataW.trod_int hg h1
  simp at e0 e1
  subst e0 e1
  exact ⟨(n0, n1), rfl, w0, w1⟩

theorem AllR.flat2 {α : Type} {size : Nat} {enc : α → List Value} {Q : α → Prop} {w : World} : ∀ {ecs : List (List Value)} {xs : List α}, AllR size (fun _ cs a => cs = enc a ∧ Q a) w ecs xs → ecs.flatten = xs.flatMap enc ∧ ∀ a ∈ xs, Q a
  | [], [], _ => ⟨rfl, fun _ h => by simp at h⟩
  | _ :: _, _ :: _, ⟨_, ⟨h, hq⟩, hs⟩ => by
    obtain ⟨h1, h2⟩ := AllR.flat2 hs
    exact ⟨by rw [List.flatten_cons, List.flatMap_cons, h, h1], by simpa using ⟨hq, h2⟩⟩
/-- A slice whose elements' cells are a function of what they are, and of which each has a property. -/
theorem open_flat2 {P : Program} {t : TypeId} {α : Type} {size : Nat} {E : α → List Value} {Q : α → Prop} (ho : Opens P t (SliceR size (fun _ cs a => cs = E a ∧ Q a))) {H : Type} {enc : TypeId × Value → H} {w : World} {base : Nat} {spare : Nat → Bool} {held : Bool}
    {a : Option Addr} {len cap : Nat} {d : DataW H} {p : List MemPlace} (h : DataW.Trod enc P w base spare held t (.slice a len cap) d p) : ∃ z : List α, len = z.length ∧ Cells w a (z.flatMap E) ∧ ∀ a ∈ z, Q a := by
  obtain ⟨fuel, hf⟩ := h
  obtain ⟨xs, ao, cap', ecs, h1, _, _, hc, hall⟩ := ho H enc w base spare held fuel _ _ hf
  simp [Value.cells] at h1
  obtain ⟨rfl, rfl, rfl⟩ := h1
  obtain ⟨h1, h2⟩ := AllR.flat2 hall
  exact ⟨xs, rfl, by rw [← h1]; exact hc, h2⟩

def strC (s : ByteArray) : List Value := [.string s]
/-- A slice of texts. -/
theorem open_strs {P : Program} {t e : TypeId} (ht : P.underlying t = some (.slice e)) (he : P.underlying e = some .string) (hc : P.cellsOf e = 1) {H : Type} {enc : TypeId × Value → H} {w : World} {base : Nat} {spare : Nat → Bool} {held : Bool}
    {a : Option Addr} {len cap : Nat} {d : DataW H} {p : List MemPlace} (h : DataW.Trod enc P w base spare held t (.slice a len cap) d p) : ∃ z : List ByteArray, len = z.length ∧ Cells w a (z.flatMap strC) ∧ ∀ a ∈ z, a.size ≤ maxLen :=
  open_flat2 (size := 1) (E := strC) (opens_slice ht hc (opens_str he)) h
theorem wf_i64 {n : Int} (h : (Lit.int .i64 n).wf = true) : -9223372036854775808 ≤ n ∧ n ≤ 9223372036854775807 := by
  simp [Lit.wf, IntKind.min, IntKind.max, IntKind.signed, IntKind.bits] at h
  omega
end Go.Proofs.YtkdnbnkbnegckaaGreat
namespace Go.Proofs.YtkdnbnkbnegckaaGreat
open Go.RowKit Go.WideShapes

/-- Whatever reads as data of type t, and weighs no more than can be reached, stands in the relation R to some value. -/
def OpensW (P : Program) (t : TypeId) {α : Type} (R : World → List Value → α → Prop) : Prop :=
  ∀ (H : Type) (enc : TypeId × Value → H) (w : World) (base : Nat) (spare : Nat → Bool) (held : Bool) (fuel : Nat) (cs : List Value) (x : DataW H × List MemPlace),
    DataW.trod enc P w base spare held fuel t cs = some x → (∀ n ∈ x.1.weights P t, n ≤ reachBytes) → ∃ a, R w cs a

def StrRW : World → List Value → ByteArray → Prop := fun _ cs s => cs = [.string s] ∧ s.size ≤ 140737488351232
def SliceRW {α : Type} (size by' : Nat) (R : World → List Value → α → Prop) : World → List Value → (List α × Option Addr × Nat) → Prop :=
  fun w cs x => ∃ ecs, cs = [.slice x.2.1 x.1.length x.2.2] ∧ x.1.length ≤ x.2.2 ∧ x.1.length * by' ≤ 140737488351232 ∧ Cells w x.2.1 ecs.flatten ∧ AllR size R w ecs x.1

section
variable {P : Program} {t : TypeId}

theorem OpensW.mono {α β : Type} {R : World → List Value → α → Prop} {S : World → List Value → β → Prop} (h : OpensW P t R) (g : α → β) (hg : ∀ w cs a, R w cs a → S w cs (g a)) : OpensW P t S :=
  fun H enc w base spare held fuel cs x hx hw => let ⟨a, ha⟩ := h H enc w base spare held fuel cs x hx hw; ⟨g a, hg w cs a ha⟩
theorem opensW_of {α : Type} {R : World → List Value → α → Prop} (h : Opens P t R) : OpensW P t R :=
  fun H enc w base spare held fuel cs x hx _ => h H enc w base spare held fuel cs x hx
theorem opensW_str (ht : P.underlying t = some .string) : OpensW P t StrRW :=
  fun _ _ _ _ _ _ _ _ x h hw => by
    obtain ⟨s, e, hx, hs⟩ := DataW.trod_string ht h
    refine ⟨s, e, ?_⟩
    have := hw s.data.toList.length (by rw [hx]; simp [DataW.weights])
    simpa [reachBytes] using this

/-- The fields of a struct, from one on. -/
def OpensFW (P : Program) (fs : List Field) (off : Nat) {α : Type} (R : World → List Value → α → Prop) : Prop :=
  ∀ (H : Type) (enc : TypeId × Value → H) (w : World) (base : Nat) (spare : Nat → Bool) (held : Bool) (fuel : Nat) (cs : List Value) (xs : List (DataW H × List MemPlace)),
    xs.length = fs.length → (∀ (i : Nat) (f : Field), fs[i]? = some f → DataW.trod enc P w base spare held fuel f.type ((cs.drop f.offset).take (P.cellsOf f.type)) = xs[i]?) →
    (∀ n ∈ DataW.weightsEach P (fs.map (·.type)) (xs.map (·.1)), n ≤ reachBytes) → ∃ a, R w (cs.drop off) a

theorem OpensFW.cons {f : Field} {fs : List Field} {off n : Nat} {α β : Type} {R : World → List Value → α → Prop} {S : World → List Value → β → Prop} (ho : f.offset = off) (hn : P.cellsOf f.type = n)
    (hR : OpensW P f.type R) (hlen : ∀ w c a, R w c a → c.length = n) (hS : OpensFW P fs (off + n) S) : OpensFW P (f :: fs) off (ConsR n R S) := by
  intro H enc w base spare held fuel cs xs hl h hw
  match xs, hl with
  | x :: xs, hl =>
    have h0 := h 0 f rfl
    simp only [List.getElem?_cons_zero] at h0
    simp only [List.map_cons, DataW.weightsEach, List.mem_append] at hw
    obtain ⟨a, ha⟩ := hR H enc w base spare held fuel _ x h0 (fun n hn => hw n (.inl hn))
    obtain ⟨b, hb⟩ := hS H enc w base spare held fuel cs xs (by simpa using hl) (fun i g hg => by simpa using h (i + 1) g (by simpa using hg)) (fun n hn => hw n (.inr hn))
    have hl := hlen _ _ _ ha
    refine ⟨(a, b), _, _, ?_, hl, ha, hb⟩
    rw [ho, hn, ← List.drop_drop]
    exact (List.take_append_drop n _).symm

theorem OpensFW.nil {off : Nat} : OpensFW P [] off (fun _ _ (_ : Unit) => True) := by
  intro H enc w base spare held fuel cs xs _ _ _
  exact ⟨(), trivial⟩

theorem opensW_struct {fs : Array Field} {α : Type} {R : World → List Value → α → Prop} (ht : P.underlying t = some (.struct fs)) (h : OpensFW P fs.toList 0 R) :
    OpensW P t (fun w cs a => cs.length = P.cellsOf t ∧ R w cs a) := by
  intro H enc w base spare held fuel cs x hx hw
  obtain ⟨xs, n, _, hxe, hl, hlen, hf⟩ := DataW.trod_struct ht hx
  rw [hxe] at hw
  simp only [DataW.weights, ht] at hw
  obtain ⟨a, ha⟩ := h H enc w base spare held n cs xs (by simpa using hlen) (fun i f hf' => hf i f (by simpa using hf')) hw
  exact ⟨a, hl, by simpa using ha⟩

theorem opensW_slice {e : TypeId} {size by' : Nat} {α : Type} {R : World → List Value → α → Prop} (ht : P.underlying t = some (.slice e)) (hc : P.cellsOf e = size) (hby : P.bytesOf e = by') (he : OpensW P e R) : OpensW P t (SliceRW size by' R) := by
  intro H enc w base spare held fuel cs x hx hw
  rcases Deep.open_slice ht hx with ⟨rfl, _⟩ | ⟨a, len, cap, m, n, D, Pl, rfl, hb, hl, hm, hmm, hxe, hel⟩
  · exact ⟨([], none, 0), [], rfl, Nat.le_refl _, by simp, Cells.nil _ _, trivial⟩
  · have hlm : len ≤ m := by rw [hmm]; split <;> omega
    rw [hc] at hel
    rw [hxe] at hw
    simp only [DataW.weights, ht, List.mem_cons, List.mem_append, hby] at hw
    have hw0 := hw _ (.inl rfl)
    have hwe : ∀ i, i < len → ∀ n ∈ (D i).weights P e, n ≤ reachBytes := fun i hi n hn => hw n (.inr (.inl (by
      have : ∀ (l : List (DataW H)) (d : DataW H), d ∈ l → ∀ n ∈ d.weights P e, n ∈ DataW.weightsAll P e l := by
        intro l
        induction l with
        | nil => intro d h; simp at h
        | cons c l ih =>
          intro d h n hn
          simp only [DataW.weightsAll, List.mem_append]
          rcases List.mem_cons.1 h with rfl | h
          · exact .inl hn
          · exact .inr (ih d h n hn)
      exact this _ (D i) (List.mem_map.2 ⟨i, by simpa using hi, rfl⟩) n hn)))
    obtain ⟨E, hE⟩ := Deep.choose_lt (α := List Value) (p := fun i cs' => w.cells? base (a.add (i * size)) size = some cs' ∧ ∃ y, DataW.trod enc P w base spare held n e cs' = some y ∧ y.1 = D i)
      (fun i (hi : i < len) => let ⟨cs', h1, h2⟩ := hel i (by omega); ⟨cs', h1, _, h2, rfl⟩)
    obtain ⟨xs, hxl, hall⟩ := allR_of (size := size) (R := R) (w := w) E len (fun i hi => by
      obtain ⟨h1, y, h2, h3⟩ := hE i hi
      exact ⟨(World.cells?_some h1).2.1, he H enc w base spare held n _ y h2 (by rw [h3]; exact hwe i hi)⟩)
    refine ⟨(xs, some a, cap), (List.range len).map E, by simp only [hxl], by simp only; omega, ?_, ?_, hall⟩
    · simp only [List.length_map, List.length_range, reachBytes] at hw0
      simp only [hxl]
      exact Nat.le_trans (Nat.mul_le_mul_right _ (Nat.le_add_right _ _)) (by simpa using hw0)
    have hcell : ∀ j u, ((List.range len).map E).flatten[j]? = some u → w.cell? (a.add j) = some u := by
      intro j u hu
      obtain ⟨h0, hlt, c, hc1, hc2⟩ := getElem?_flatten _ (AllR.lens hall).2 j u hu
      simp only [List.length_map, List.length_range] at hlt
      simp only [List.getElem?_map, List.getElem?_range hlt, Option.map_some, Option.some.injEq] at hc1
      subst hc1
      have h3 := (World.cells?_some (hE _ hlt).1).2.2 (j % size) (Nat.mod_lt _ h0)
      rw [hc2] at h3
      rw [← h3]
      congr 1
      have hj : j / size * size + j % size = j := by rw [Nat.mul_comm]; exact Nat.div_add_mod _ _
      generalize j / size * size = q at hj
      generalize j % size = r at hj
      subst hj
      exact (add_add a q r).symm
    refine ⟨fun hne => ?_, fun b off e2 j u hu => ?_⟩
    · cases hfl : ((List.range len).map E).flatten with
      | nil => exact absurd hfl hne
      | cons u us =>
        have := hcell 0 u (by rw [hfl]; rfl)
        obtain ⟨b, off, sp⟩ := a
        have hsp : sp = none := by
          simp only [World.cell?, Addr.add] at this
          cases sp with
          | none => rfl
          | some v => simp at this; split at this <;> simp_all
        exact ⟨b, off, by rw [hsp]⟩
    · obtain rfl := Option.some.inj e2
      have := hcell j u hu
      rwa [Addr.add_lit] at this

end
/-- Slices whose elements' cells are a function of what they are, and of which each has a property. -/
def FlatRW {α : Type} (E : α → List Value) (Q : α → Prop) (by' : Nat) : World → List Value → (List α × Option Addr × Nat) → Prop :=
  fun w cs x => cs = [.slice x.2.1 x.1.length x.2.2] ∧ x.1.length * by' ≤ 140737488351232 ∧ Cells w x.2.1 (x.1.flatMap E) ∧ ∀ a ∈ x.1, Q a
theorem opensW_flat {P : Program} {t e : TypeId} {size by' : Nat} {α : Type} {E : α → List Value} {Q : α → Prop} (ht : P.underlying t = some (.slice e)) (hc : P.cellsOf e = size) (hby : P.bytesOf e = by') (he : OpensW P e (fun _ cs a => cs = E a ∧ Q a)) : OpensW P t (FlatRW E Q by') :=
  (opensW_slice ht hc hby he).mono id fun w cs x ⟨ecs, h1, _, h3, h4, h5⟩ => by
    obtain ⟨k1, k2⟩ := AllR.flat2 h5
    exact ⟨h1, h3, by simp only [id]; rw [← k1]; exact h4, k2⟩
theorem flat_ints {k : IntKind} (l : List Int) : l.flatMap (fun n => [Value.int k n]) = l.map (Value.int k) := by induction l with
  | nil => rfl
  | cons x l ih => rw [List.flatMap_cons, ih]; rfl
theorem opensW_int {P : Program} {t : TypeId} (ht : P.underlying t = some (.int .i64)) : OpensW P t (fun _ cs (n : Int) => cs = [Value.int .i64 n] ∧ I64 n) :=
  fun H enc w base spare held fuel cs x hx _ => by
    obtain ⟨n, e, hw⟩ := opens_int ht H enc w base spare held fuel cs x hx
    exact ⟨n, e, wf_i64 hw⟩
theorem opensW_bool {P : Program} {t : TypeId} (ht : P.underlying t = some .bool) : OpensW P t (fun _ cs (b : Bool) => cs = [Value.bool b]) :=
  opensW_of (opens_bool ht)
theorem opensW_ints {P : Program} {t e : TypeId} (ht : P.underlying t = some (.slice e)) (he : P.underlying e = some (.int .i64)) (hc : P.cellsOf e = 1) (hb : P.bytesOf e = 8) :
    OpensW P t (fun w cs (x : List Int × Option Addr × Nat) => cs = [.slice x.2.1 x.1.length x.2.2] ∧ x.1.length ≤ 17592186044416 ∧ Cells w x.2.1 (x.1.map (.int .i64)) ∧ ∀ n ∈ x.1, I64 n) :=
  (opensW_flat ht hc hb (opensW_int he)).mono id fun w cs x ⟨h1, h2, h3, h4⟩ => ⟨h1, by simp only [id]; omega, by simp only [id]; rw [← flat_ints]; exact h3, h4⟩
end Go.Proofs.YtkdnbnkbnegckaaGreat
namespace Go.Proofs.YtkdnbnkbnegckaaGreat
open Go.RowKit Go.WideShapes

def okI : (k : IntKind) → DI k → Prop
  | .i64, n => I64 n
  | .u64, n => (0 : Int) ≤ n ∧ n < 18446744073709551616
  | _, _ => True
/-- Numbers of a word, texts and rows that a machine can reach. -/
def OkD : (τ : Ty) → Data τ → Prop
  | .int k, x => okI k x
  | .bool, _ => True
  | .str, x => x.length ≤ 140737488351232
  | .sl _ e, x => x.length ≤ 140737488351232 ∧ ∀ y ∈ x, OkD e y
  | .nul, _ => True
  | .pr a b, x => OkD a x.1 ∧ OkD b x.2
def DatR (τ : Ty) : World → List Value → Data τ → Prop := fun w cs x => RepCs w W0 (enc τ x) cs ∧ OkD τ x
abbrev OpensD (P : Program) (t : TypeId) (τ : Ty) : Prop := OpensW P t (DatR τ)
theorem DatR.len {τ : Ty} {w : World} {cs : List Value} {x : Data τ} (h : DatR τ w cs x) : cs.length = width τ := by rw [← h.1.1, enc_len]
theorem repCs_one {w : World} {c : C} {v : Value} (h : RepC w W0 c v) : RepCs w W0 [c] [v] := ⟨rfl, fun i c' u h1 h2 => by
  cases i with
  | zero => cases h1; cases h2; exact h
  | succ i => simp at h1⟩
theorem repCs_nil {w : World} : RepCs w W0 [] [] := ⟨rfl, fun i c u h1 _ => by simp at h1⟩
section
variable {P : Program} {t : TypeId}
theorem opensD_i64 (ht : P.underlying t = some (.int .i64)) : OpensD P t (.int .i64) := (opensW_int ht).mono id fun w cs n ⟨h1, h2⟩ => by
  subst h1
  exact ⟨repCs_one (.v _ rfl), h2⟩
set_option maxRecDepth 20000 in
theorem wf_u64' {n : Int} (h : (Lit.int .u64 n).wf = true) : 0 ≤ n ∧ n < 18446744073709551616 := by
  simp [Lit.wf, IntKind.min, IntKind.max, IntKind.signed, IntKind.bits] at h
  omega
set_option maxRecDepth 20000 in
theorem wf_u8' {n : Int} (h : (Lit.int .u8 n).wf = true) : 0 ≤ n ∧ n < 256 := by
  simp [Lit.wf, IntKind.min, IntKind.max, IntKind.signed, IntKind.bits] at h
  omega
theorem opensD_u64 (ht : P.underlying t = some (.int .u64)) : OpensD P t (.int .u64) := fun _ _ _ _ _ _ _ _ _ h _ => by
  obtain ⟨n, e, _, hw⟩ := DataW.trod_int ht h
  subst e
  exact ⟨n, repCs_one (.v _ rfl), wf_u64' hw⟩
theorem opensD_u8 (ht : P.underlying t = some (.int .u8)) : OpensD P t (.int .u8) := fun _ _ _ _ _ _ _ _ _ h _ => by
  obtain ⟨n, e, _, hw⟩ := DataW.trod_int ht h
  subst e
  have h2 := wf_u8' hw
  refine ⟨UInt8.ofNat n.toNat, ?_, trivial⟩
  have e2 : n = u8I (UInt8.ofNat n.toNat) := by
    simp only [u8I, UInt8.toNat_ofNat']
    omega
  conv => rhs; rw [e2]
  exact repCs_one (.v _ rfl)
theorem opensD_bool (ht : P.underlying t = some .bool) : OpensD P t .bool := (opensW_bool ht).mono id fun w cs b h1 => by
  subst h1
  exact ⟨repCs_one (.v _ rfl), trivial⟩
theorem opensD_str (ht : P.underlying t = some .string) : OpensD P t .str := (opensW_str ht).mono (fun s => s.data.toList) fun w cs s ⟨h1, h2⟩ => by
  subst h1
  exact ⟨repCs_one (.v _ rfl), h2⟩
theorem allR_dat {τ : Ty} {sz : Nat} {w : World} : ∀ {ecs : List (List Value)} {xs : List (Data τ)}, AllR sz (DatR τ) w ecs xs → RepCs w W0 (encL τ xs).flatten ecs.flatten ∧ (∀ x ∈ xs, OkD τ x) ∧ ∀ e ∈ ecs, e.length = sz
  | [], [], _ => ⟨repCs_nil, fun _ h => by simp at h, fun _ h => by simp at h⟩
  | c :: cs, x :: xs, ⟨h1, h2, h3⟩ => by
    obtain ⟨k1, k2, k3⟩ := allR_dat h3
    exact ⟨h2.1.append k1, by simpa using ⟨h2.2, k2⟩, by simpa using ⟨h1, k3⟩⟩
theorem opensD_sl {e : TypeId} {sz by' : Nat} {τ : Ty} (ht : P.underlying t = some (.slice e)) (hc : P.cellsOf e = sz) (hby : P.bytesOf e = by') (hs : width τ = sz) (h0 : 0 < sz) (hb0 : 0 < by') (he : OpensD P e τ) : OpensD P t (.sl sz τ) :=
  (opensW_slice ht hc hby he).mono (fun x => x.1) fun w cs x ⟨ecs, h1, h2, h3, h4, h5⟩ => by
    obtain ⟨xs, ao, cap⟩ := x
    obtain ⟨k1, k2, k3⟩ := allR_dat h5
    simp only at h1 h2 h3 h4 k1 k2
    subst h1
    have hl : (encL τ xs).length = xs.length := List.length_map _
    have hr : RepC w W0 (.fz sz (encL τ xs)) (.slice ao xs.length cap) := by
      rw [← hl]
      exact repC_in h0 (fun c hc => by
        obtain ⟨y, _, rfl⟩ := List.mem_map.1 hc
        rw [enc_len, hs]) (by rw [hl]; exact h2) h4 k1
    refine ⟨repCs_one hr, ?_, k2⟩
    have : xs.length * 1 ≤ xs.length * by' := Nat.mul_le_mul_left _ hb0
    show xs.length ≤ _
    omega
/-- The fields of a struct, from one on. -/
def FldR (τ : Ty) : World → List Value → Data τ → Prop := fun w cs x => ∃ c d, cs = c ++ d ∧ DatR τ w c x
theorem opensFD_one {f : Field} {off : Nat} {τ : Ty} (ho : f.offset = off) (hn : P.cellsOf f.type = width τ) (h : OpensD P f.type τ) : OpensFW P [f] off (FldR τ) := fun H enc w base spare held fuel cs xs hl hx hw => by
  obtain ⟨⟨a, _⟩, c, d, e, _, hr, _⟩ := OpensFW.cons ho hn h (fun _ _ _ h => h.len) (OpensFW.nil (off := off + width τ)) H enc w base spare held fuel cs xs hl hx hw
  exact ⟨a, c, d, e, hr⟩
theorem opensFD_cons {f : Field} {fs : List Field} {off : Nat} {τ σ : Ty} (ho : f.offset = off) (hn : P.cellsOf f.type = width τ) (h : OpensD P f.type τ) (hs : OpensFW P fs (off + width τ) (FldR σ)) : OpensFW P (f :: fs) off (FldR (.pr τ σ)) := fun H enc w base spare held fuel cs xs hl hx hw => by
  obtain ⟨⟨a, b⟩, c, d, e, _, hr, c2, d2, e2, hr2⟩ := OpensFW.cons ho hn h (fun _ _ _ h => h.len) hs H enc w base spare held fuel cs xs hl hx hw
  simp only at hr hr2 e2
  exact ⟨(a, b), c ++ c2, d2, by rw [e, e2, List.append_assoc], hr.1.append hr2.1, hr.2, hr2.2⟩
theorem opensD_struct {fs : Array Field} {τ : Ty} (ht : P.underlying t = some (.struct fs)) (hc : P.cellsOf t = width τ) (h : OpensFW P fs.toList 0 (FldR τ)) : OpensD P t τ :=
  (opensW_struct ht h).mono id fun w cs x ⟨hl, c, d, e, hr⟩ => by
    have : d = [] := by
      have h1 := hr.len
      rw [e, List.length_append, h1, hc] at hl
      exact List.eq_nil_of_length_eq_zero (by omega)
    subst this
    rw [List.append_nil] at e
    subst e
    exact hr
theorem opensD_arr4 {e : TypeId} (ht : P.underlying t = some (.array 4 e)) (he : P.underlying e = some (.int .u64)) (hc : P.cellsOf e = 1) (hc4 : P.cellsOf t = 4) : OpensD P t (.pr (.int .u64) (.pr (.int .u64) (.pr (.int .u64) (.int .u64)))) :=
  fun H enc w base spare held fuel cs x hx _ => by
    obtain ⟨xs, m, _, _, hl, hlen, hf⟩ := DataW.trod_array ht hx
    have hl4 : cs.length = 4 := by rw [hl, hc4]
    obtain ⟨v0, v1, v2, v3, rfl⟩ : ∃ v0 v1 v2 v3, cs = [v0, v1, v2, v3] := by
      match cs, hl4 with
      | [v0, v1, v2, v3], _ => exact ⟨v0, v1, v2, v3, rfl⟩
    have f0 := hf 0 (by decide)
    have f1 := hf 1 (by decide)
    have f2 := hf 2 (by decide)
    have f3 := hf 3 (by decide)
    rw [hc] at f0 f1 f2 f3
    rw [List.getElem?_eq_getElem (by omega)] at f0 f1 f2 f3
    obtain ⟨n0, q0, _, w0⟩ := DataW.trod_int he f0
    obtain ⟨n1, q1, _, w1⟩ := DataW.trod_int he f1
    obtain ⟨n2, q2, _, w2⟩ := DataW.trod_int he f2
    obtain ⟨n3, q3, _, w3⟩ := DataW.trod_int he f3
    simp at q0 q1 q2 q3
    subst q0 q1 q2 q3
    exact ⟨(n0, (n1, (n2, n3))), (repCs_one (.v _ rfl)).append ((repCs_one (.v _ rfl)).append ((repCs_one (.v _ rfl)).append (repCs_one (.v _ rfl)))), wf_u64' w0, wf_u64' w1, wf_u64' w2, wf_u64' w3⟩
end
/-- An argument, opened with its weight. -/
theorem open_d {P : Program} {t : TypeId} {τ : Ty} (ho : OpensD P t τ) {H : Type} {enc : TypeId × Value → H} {W : World} {base : Nat} {spare : Nat → Bool} {held : Bool} {v : Value} {d : DataW H} {p : List MemPlace} {ts : List TypeId} {ds : List (DataW H)}
    (hsz : (DataW.weightsEach P ts ds).all (· ≤ reachBytes) = true) {j : Nat} (htj : ts[j]? = some t) (hdj : ds[j]? = some d) (h : DataW.Trod enc P W base spare held t v d p) : ∃ a, DatR τ W v.cells.toList a := by
  obtain ⟨fuel, hf⟩ := h
  exact ho H enc W base spare held fuel _ _ hf (fun n hn => by
    exact of_decide_eq_true (List.all_eq_true.1 hsz _ (DataW.weights_mem_each htj hdj n hn)))
/-- An argument as the second machine sees it. -/
def argA (τ : Ty) (x : Data τ) : T := ⟨.agg, (enc τ x).map .c⟩
theorem repCs_xs {w : World} {cs : List C} {us : List Value} (h : RepCs w W0 cs us) : RepXs w W0 L0 ⟨[], []⟩ (cs.map .c) us := ⟨by simpa using h.1, fun i x u h1 h2 => by
  rw [List.getElem?_map] at h1
  cases hc : cs[i]? with
  | none => rw [hc] at h1; cases h1
  | some c =>
    rw [hc] at h1
    cases h1
    exact ⟨h.2 i c u hc h2, h.one u (List.mem_of_getElem? h2)⟩⟩
theorem rep_argA {w : World} {τ : Ty} {x : Data τ} {cs : List Value} (h : DatR τ w cs x) : RepT w W0 L0 ⟨[], []⟩ (argA τ x) (.agg cs.toArray) := ⟨cs, rfl, repCs_xs h.1⟩
theorem rep_argO {w : World} {τ : Ty} {x : Data τ} {c : C} {v : Value} (he : enc τ x = [c]) (h : DatR τ w [v] x) : RepT w W0 L0 ⟨[], []⟩ ⟨.one, [.c c]⟩ v := by
  have h1 := h.1
  rw [he] at h1
  exact repT_c (h1.2 0 c v rfl rfl)
end Go.Proofs.YtkdnbnkbnegckaaGreat
namespace Go.Proofs.YtkdnbnkbnegckaaGreat
open Go.RowKit
set_option maxRecDepth 20000

def errP (e : Int) : PanicEntry := { v := .iface 32 (.int .i64 e), recovered := false }
theorem so_true (e : Int) (w : World) : Calls Tryz.prog 128 #[.bool true, .int .i64 e] w fun x w' => x = .returned (.tuple #[]) ∧ w' = w := by
  go_enter Tryz.func128, Tryz.ntmps128
  go_wp2_with fail
  go_end0
  exact ⟨rfl, rfl⟩
theorem so_false (e : Int) (w : World) : Calls Tryz.prog 128 #[.bool false, .int .i64 e] w fun x w' => x = .panicked [errP e] ∧ w' = w := by
  go_enter Tryz.func128, Tryz.ntmps128
  go_wp2_with fail
  exact ⟨rfl, rfl, rfl⟩
theorem must_ok (w : World) : Calls Tryz.prog 129 #[.int .i64 0] w fun x w' => x = .returned (.tuple #[]) ∧ w' = w := by
  go_enter Tryz.func129, Tryz.ntmps129
  go_wp2_with fail
  go_end0
  exact ⟨rfl, rfl⟩
theorem must_bad (e : Int) (he : e ≠ 0) (w : World) : Calls Tryz.prog 129 #[.int .i64 e] w fun x w' => x = .panicked [errP e] ∧ w' = w := by
  have hb : (e != 0) = true := by simp [he]
  have hb2 : (e == 0) = false := by simp [he]
  go_enter Tryz.func129, Tryz.ntmps129
  go_wp2_with fail
  exact ⟨rfl, rfl, rfl⟩
/-! Calls of what the second machine knows -/
/-- Values that do not turn: a call that hands back one cell. -/
theorem repT_one {W : World} {who : Nat → Who} {L : Lay} {h : Hp} {c : C} {v : Value} (H : RepT W who L h ⟨.one, [.c c]⟩ v) : RepC W who c v := by
  obtain ⟨x, hx, hr⟩ := H
  cases hx
  exact hr
theorem pure_one {f : FuncId} {args : List T} {c : C} {h' : Hp} (hc : callW Tryz.prog annX plansX f args ⟨[], []⟩ = some (⟨.one, [.c c]⟩, h')) {W : World} {vs : List Value} (hl : args.length = vs.length) (hr : ∀ (i : Nat) t v, args[i]? = some t → vs[i]? = some v → RepT W W0 L0 ⟨[], []⟩ t v) :
    Calls Tryz.prog f vs.toArray W fun e W' => ∃ v, e = .returned v ∧ RepC W' W0 c v ∧ Ext W W' := by
  refine ((callW_ok (A := annX) base_ok prog_ok f args ⟨[], []⟩ _ h' hc).2 W W0 L0 vs ⟨fun k xs h => by simp at h, fun r ty sz es h => by simp at h, fun r sz es h => by simp at h⟩ hl hr).mono fun e W' ⟨v, who', L', he, hv, _, hs⟩ => ?_
  exact ⟨v, he, (repT_one hv).mono fun _ _ => rfl, hs.os, hs.tape, hs.output, hs.size, fun k hk => (hs.fro k rfl hk).1⟩
/-- The heap that holds a cursor. -/
def hpC (bs : List UInt8) (er : Int) : Hp := ⟨[[.c (.fz 1 (encL tY bs)), .c (.v (.bool true)), .c (.v (.int .i64 er))]], []⟩
theorem cur_m {f : FuncId} {args : List T} {res : T} {bs bs' : List UInt8} {er er' : Int} (hc : callW Tryz.prog annX plansX f (⟨.one, [.ptr 0 0]⟩ :: args) (hpC bs er) = some (res, hpC bs' er')) {W : World} {who : Nat → Who} {L : Lay} (H : HSim W who L (hpC bs er)) {vs : List Value} (hl : args.length = vs.length)
    (hr : ∀ (i : Nat) t v, args[i]? = some t → vs[i]? = some v → RepT W who L (hpC bs er) t v) :
    Calls Tryz.prog f (.pointer (some ⟨L.box 0, 0, none⟩) :: vs).toArray W fun e W' => ∃ v who' L', e = .returned v ∧ RepT W' who' L' (hpC bs' er') res v ∧ HSim W' who' L' (hpC bs' er') ∧ Step .all W who L (hpC bs er) W' who' L' (hpC bs' er') := by
  refine (callW_ok (A := annX) base_ok prog_ok f _ _ _ _ hc).2 W who L _ H (by simp [hl]) fun i t v h1 h2 => ?_
  cases i with
  | zero =>
    cases h1
    cases h2
    exact ⟨_, rfl, Nat.zero_lt_one, rfl⟩
  | succ i => exact hr i t v (by simpa using h1) (by simpa using h2)
theorem rep_i64 {W : World} {who : Nat → Who} {L : Lay} {h : Hp} {n : Int} : RepT W who L h ⟨.one, [.c (.v (.int .i64 n))]⟩ (.int .i64 n) := ⟨_, rfl, .v _ rfl⟩
theorem rep_i64_inv {W : World} {who : Nat → Who} {L : Lay} {h : Hp} {n : Int} {v : Value} (H : RepT W who L h ⟨.one, [.c (.v (.int .i64 n))]⟩ v) : v = .int .i64 n := by
  have := repT_one H
  cases this
  rfl
theorem no_args {P : Nat → T → Value → Prop} : ∀ (i : Nat) t v, ([] : List T)[i]? = some t → ([] : List Value)[i]? = some v → P i t v := fun i t v h => by simp at h
/-- What the cursor's functions come to, as calls of the second machine. -/
theorem w_Num {bs bs' : List UInt8} {er er' m n : Int} (h : S_cursor_Cursor_Num bs true er m = some (bs', (true, (er', (n, ()))))) : callW Tryz.prog annX plansX 96 [⟨.one, [.ptr 0 0]⟩, ⟨.one, [.c (.v (.int .i64 m))]⟩] (hpC bs er) = some (⟨.one, [.c (.v (.int .i64 n))]⟩, hpC bs' er') :=
  k_cursor_Cursor_Num (bs, (true, (er, (m, ())))) _ h _ (by kernel_rfl)
theorem w_Err {bs : List UInt8} {er : Int} : callW Tryz.prog annX plansX 14 [⟨.one, [.ptr 0 0]⟩] (hpC bs er) = some (⟨.one, [.c (.v (.int .i64 er))]⟩, hpC bs er) :=
  k_cursor_Cursor_Err (bs, (true, (er, ()))) _ sp_Err _ (by kernel_rfl)
theorem w_New {bs : List UInt8} (h : bs.length ≤ 140737488351232) : callW Tryz.prog annX plansX 10 [⟨.one, [.c (.fz 1 (encL tY bs))]⟩] ⟨[], []⟩ = some (⟨.one, [.ptr 0 0]⟩, hpC bs 0) :=
  k_cursor_New (bs, ()) _ (sp_New h) _ (by kernel_rfl)
/-- A function's cells. -/
def fnX (x : Fn) : List X := (enc tF x).map .c
theorem w_Take {bs bs' : List UInt8} {er er' : Int} {x : Fn} (h : S_fnc_Take bs true er = some (bs', true, er', x.1, x.2.1, x.2.2.1, x.2.2.2.1, x.2.2.2.2.1, x.2.2.2.2.2.1, x.2.2.2.2.2.2.1, x.2.2.2.2.2.2.2.1, x.2.2.2.2.2.2.2.2.1, x.2.2.2.2.2.2.2.2.2.1, x.2.2.2.2.2.2.2.2.2.2, ())) :
    callW Tryz.prog annX plansX 13 [⟨.one, [.ptr 0 0]⟩] (hpC bs er) = some (⟨.agg, fnX x⟩, hpC bs' er') :=
  k_fnc_Take (bs, (true, (er, ()))) _ h _ (by kernel_rfl)
end Go.Proofs.YtkdnbnkbnegckaaGreat
