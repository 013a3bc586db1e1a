/- How data that came in are opened: bytes with their capacity and their weight, pairs of ints with their bounds, texts. The program's data as Lean's: instructions, nodes, sets, functions; their cells; where a function lies. How data that came in are opened, with their weights: what a machine can reach bounds each slice and each text. -/
import Derived.Test.YtkdnbnkbnegckaaGreatOpen
import Derived.SizedLaws
import Derived.Test.YtkdnbnkbnegckaaGreatBase
namespace Go.Proofs.YtkdnbnkbnegckaaGreat
open Go.RowKit Go.WideShapes

/-- A slice of bytes: its length is no more than its capacity, and than what a machine can reach. -/
theorem open_bytes_sized {P : Program} {t e : TypeId} (ht : P.underlying t = some (.slice e)) (he : P.underlying e = some (.int .u8)) (hc : P.cellsOf e = 1) (hby : P.bytesOf e = 1) {H : Type} {enc : TypeId × Value → H} {w : World} {base : Nat} {spare : Nat → Bool} {held : Bool}
    {a : Option Addr} {len cap : Nat} {d : DataW H} {p : List MemPlace} {ts : List TypeId} {ds : List (DataW H)} (hsz : (DataW.weightsEach P ts ds).all (· ≤ reachBytes) = true) {j : Nat} (htj : ts[j]? = some t) (hdj : ds[j]? = some d)
    (h : DataW.Trod enc P w base spare held t (.slice a len cap) d p) : ∃ z : List UInt8, len = z.length ∧ Cells w a (z.map byteC) ∧ z.length ≤ cap ∧ z.length ≤ 140737488351232 := by
  obtain ⟨z, rfl, hz⟩ := open_bytes_flat ht he hc h
  obtain ⟨fuel, hf⟩ := h
  refine ⟨z, rfl, hz, ?_⟩
  rcases Deep.open_slice ht hf with ⟨h1, _⟩ | ⟨a', len', cap', m, n, D, Pl, h1, _, hl, _, _, h2, _⟩
  · simp [Value.cells] at h1
    obtain ⟨_, h1, h2⟩ := h1
    simp [h1, h2]
  · simp [Value.cells] at h1
    obtain ⟨rfl, rfl, rfl⟩ := h1
    simp only [Prod.mk.injEq] at h2
    obtain ⟨rfl, _⟩ := h2
    have := sized_slice hsz htj hdj ht
    rw [hby] at this
    simp only [List.length_map, List.length_range, reachBytes] at this
    exact ⟨hl, by omega⟩

/-- Structs of two ints. -/
theorem opens_pairB {P : Program} {t f g : TypeId} {a b : Field} (ht : P.underlying t = some (.struct #[a, b])) (h2 : P.cellsOf t = 2) (ha : a.type = f ∧ a.offset = 0) (hb : b.type = g ∧ b.offset = 1)
    (hf : P.underlying f = some (.int .i64)) (hg : P.underlying g = some (.int .i64)) (hcf : P.cellsOf f = 1) (hcg : P.cellsOf g = 1) :
    Opens P t (fun _ cs (p : Int × Int) => cs = pairC p ∧ (Lit.int .i64 p.1).wf = true ∧ (Lit.int .i64 p.2).wf = true) := by
  intro H enc w base spare held fuel cs x hx
  obtain ⟨y0, y1, n, _, hl, h0, h1⟩ := ChangeShapes.trod_struct2 ht hx
  rw [ha.1, ha.2, hcf] at h0
  rw [hb.1, hb.2, hcg] at h1
  rw [h2] at hl
  obtain ⟨c0, c1, rfl⟩ : ∃ c0 c1, cs = [c0, c1] := by match cs, hl with | [c0, c1], _ => exact ⟨_, _, rfl⟩
  obtain ⟨n0, e0, _, w0⟩ := DataW.trod_int hf h0
  obtain ⟨n1, e1, _, w1⟩ := DataW.trod_int hg h1
  simp at e0 e1
  subst e0 e1
  exact ⟨(n0, n1), rfl, w0, w1⟩

theorem AllR.flat2 {α : Type} {size : Nat} {enc : α → List Value} {Q : α → Prop} {w : World} : ∀ {ecs : List (List Value)} {xs : List α}, AllR size (fun _ cs a => cs = enc a ∧ Q a) w ecs xs → ecs.flatten = xs.flatMap enc ∧ ∀ a ∈ xs, Q a
  | [], [], _ => ⟨rfl, fun _ h => by simp at h⟩
  | _ :: _, _ :: _, ⟨_, ⟨h, hq⟩, hs⟩ => by
    obtain ⟨h1, h2⟩ := AllR.flat2 hs
    exact ⟨by rw [List.flatten_cons, List.flatMap_cons, h, h1], by simpa using ⟨hq, h2⟩⟩
/-- A slice whose elements' cells are a function of what they are, and of which each has a property. -/
theorem open_flat2 {P : Program} {t : TypeId} {α : Type} {size : Nat} {E : α → List Value} {Q : α → Prop} (ho : Opens P t (SliceR size (fun _ cs a => cs = E a ∧ Q a))) {H : Type} {enc : TypeId × Value → H} {w : World} {base : Nat} {spare : Nat → Bool} {held : Bool}
    {a : Option Addr} {len cap : Nat} {d : DataW H} {p : List MemPlace} (h : DataW.Trod enc P w base spare held t (.slice a len cap) d p) : ∃ z : List α, len = z.length ∧ Cells w a (z.flatMap E) ∧ ∀ a ∈ z, Q a := by
  obtain ⟨fuel, hf⟩ := h
  obtain ⟨xs, ao, cap', ecs, h1, _, _, hc, hall⟩ := ho H enc w base spare held fuel _ _ hf
  simp [Value.cells] at h1
  obtain ⟨rfl, rfl, rfl⟩ := h1
  obtain ⟨h1, h2⟩ := AllR.flat2 hall
  exact ⟨xs, rfl, by rw [← h1]; exact hc, h2⟩

def strC (s : ByteArray) : List Value := [.string s]
/-- A slice of texts. -/
theorem open_strs {P : Program} {t e : TypeId} (ht : P.underlying t = some (.slice e)) (he : P.underlying e = some .string) (hc : P.cellsOf e = 1) {H : Type} {enc : TypeId × Value → H} {w : World} {base : Nat} {spare : Nat → Bool} {held : Bool}
    {a : Option Addr} {len cap : Nat} {d : DataW H} {p : List MemPlace} (h : DataW.Trod enc P w base spare held t (.slice a len cap) d p) : ∃ z : List ByteArray, len = z.length ∧ Cells w a (z.flatMap strC) ∧ ∀ a ∈ z, a.size ≤ maxLen :=
  open_flat2 (size := 1) (E := strC) (opens_slice ht hc (opens_str he)) h
theorem wf_i64 {n : Int} (h : (Lit.int .i64 n).wf = true) : -9223372036854775808 ≤ n ∧ n ≤ 9223372036854775807 := by
  simp [Lit.wf, IntKind.min, IntKind.max, IntKind.signed, IntKind.bits] at h
  omega
end Go.Proofs.YtkdnbnkbnegckaaGreat
namespace Go.Proofs.YtkdnbnkbnegckaaGreat
open Go.RowKit

abbrev InstrT := Int × Int
structure NodeT where
  par : Int
  fn : Int
  line : Int
  frm : Int
  args : Int
  upto : Int
  res : Int
  deriving DecidableEq
structure SetT where
  a : Nat
  b : Nat
  c : Nat
  d : Nat
  deriving DecidableEq
structure FuncT where
  name : ByteArray
  inner : Bool
  outer : List Int
  params : List Int
  results : List Int
  locs : List Int
  code : List InstrT
  lines : List Int
  nodes : List NodeT
  ats : List Int
  live : List SetT
  deriving DecidableEq

def nodeC (n : NodeT) : List Value := [.int .i64 n.par, .int .i64 n.fn, .int .i64 n.line, .int .i64 n.frm, .int .i64 n.args, .int .i64 n.upto, .int .i64 n.res]
def setC (s : SetT) : List Value := [.int .u64 s.a, .int .u64 s.b, .int .u64 s.c, .int .u64 s.d]
def nodeI (n : NodeT) : List Int := [n.par, n.fn, n.line, n.frm, n.args, n.upto, n.res]
def setI (s : SetT) : List Int := [(s.a : Int), s.b, s.c, s.d]
theorem nodeI_eq (n m : NodeT) : (nodeI n = nodeI m) = (n = m) := by
  cases n; cases m; simp [nodeI]
theorem setI_eq (s t : SetT) : (setI s = setI t) = (s = t) := by
  cases s; cases t; simp only [setI, List.cons.injEq, and_true, SetT.mk.injEq, eq_iff_iff]; omega
def instrI (i : InstrT) : List Int := [i.1, i.2]
theorem instrI_eq (i j : InstrT) : (instrI i = instrI j) = (i = j) := by
  cases i; cases j; simp [instrI]

def I64 (n : Int) : Prop := -9223372036854775808 ≤ n ∧ n ≤ 9223372036854775807
def Node64 (n : NodeT) : Prop := I64 n.par ∧ I64 n.fn ∧ I64 n.line ∧ I64 n.frm ∧ I64 n.args ∧ I64 n.upto ∧ I64 n.res
def Set64 (s : SetT) : Prop := s.a < 18446744073709551616 ∧ s.b < 18446744073709551616 ∧ s.c < 18446744073709551616 ∧ s.d < 18446744073709551616

/-- Where the parts of a function lie. -/
structure FuncA where
  o1 : Option Addr
  c1 : Nat
  o2 : Option Addr
  c2 : Nat
  o3 : Option Addr
  c3 : Nat
  o4 : Option Addr
  c4 : Nat
  o5 : Option Addr
  c5 : Nat
  o6 : Option Addr
  c6 : Nat
  o7 : Option Addr
  c7 : Nat
  o8 : Option Addr
  c8 : Nat
  o9 : Option Addr
  c9 : Nat

/-- A function's cells. -/
def funcC (A : FuncA) (f : FuncT) : List Value :=
  [.string f.name, .bool f.inner, .slice A.o1 f.outer.length A.c1, .slice A.o2 f.params.length A.c2, .slice A.o3 f.results.length A.c3, .slice A.o4 f.locs.length A.c4,
   .slice A.o5 f.code.length A.c5, .slice A.o6 f.lines.length A.c6, .slice A.o7 f.nodes.length A.c7, .slice A.o8 f.ats.length A.c8, .slice A.o9 f.live.length A.c9]

/-- A function lies there. -/
structure FuncIn (w : World) (A : FuncA) (f : FuncT) : Prop where
  h1 : Cells w A.o1 (f.outer.map (.int .i64))
  h2 : Cells w A.o2 (f.params.map (.int .i64))
  h3 : Cells w A.o3 (f.results.map (.int .i64))
  h4 : Cells w A.o4 (f.locs.map (.int .i64))
  h5 : Cells w A.o5 (f.code.flatMap pairC)
  h6 : Cells w A.o6 (f.lines.map (.int .i64))
  h7 : Cells w A.o7 (f.nodes.flatMap nodeC)
  h8 : Cells w A.o8 (f.ats.map (.int .i64))
  h9 : Cells w A.o9 (f.live.flatMap setC)

theorem FuncIn.ext {w w' : World} {A : FuncA} {f : FuncT} (h : FuncIn w A f) (hb : Ext w w') : FuncIn w' A f :=
  ⟨h.h1.ext hb, h.h2.ext hb, h.h3.ext hb, h.h4.ext hb, h.h5.ext hb, h.h6.ext hb, h.h7.ext hb, h.h8.ext hb, h.h9.ext hb⟩

/-- What a machine's function is: numbers of 64 bits, lengths that may be. -/
structure FuncB (f : FuncT) : Prop where
  n0 : f.name.size ≤ 9223372036854775807
  n1 : f.outer.length ≤ 17592186044416
  n2 : f.params.length ≤ 17592186044416
  n3 : f.results.length ≤ 17592186044416
  n4 : f.locs.length ≤ 17592186044416
  n5 : f.code.length ≤ 17592186044416
  n6 : f.lines.length ≤ 17592186044416
  n7 : f.nodes.length ≤ 17592186044416
  n8 : f.ats.length ≤ 17592186044416
  n9 : f.live.length ≤ 17592186044416
  v1 : ∀ n ∈ f.outer, I64 n
  v2 : ∀ n ∈ f.params, I64 n
  v3 : ∀ n ∈ f.results, I64 n
  v4 : ∀ n ∈ f.locs, I64 n
  v5 : ∀ i ∈ f.code, I64 i.1 ∧ I64 i.2
  v6 : ∀ n ∈ f.lines, I64 n
  v7 : ∀ n ∈ f.nodes, Node64 n
  v8 : ∀ n ∈ f.ats, I64 n
  v9 : ∀ s ∈ f.live, Set64 s
end Go.Proofs.YtkdnbnkbnegckaaGreat
namespace Go.Proofs.YtkdnbnkbnegckaaGreat
open Go.RowKit Go.WideShapes

/-- Whatever reads as data of type t, and weighs no more than can be reached, stands in the relation R to some value. -/
def OpensW (P : Program) (t : TypeId) {α : Type} (R : World → List Value → α → Prop) : Prop :=
  ∀ (H : Type) (enc : TypeId × Value → H) (w : World) (base : Nat) (spare : Nat → Bool) (held : Bool) (fuel : Nat) (cs : List Value) (x : DataW H × List MemPlace),
    DataW.trod enc P w base spare held fuel t cs = some x → (∀ n ∈ x.1.weights P t, n ≤ reachBytes) → ∃ a, R w cs a

def StrRW : World → List Value → ByteArray → Prop := fun _ cs s => cs = [.string s] ∧ s.size ≤ 140737488351232
def SliceRW {α : Type} (size by' : Nat) (R : World → List Value → α → Prop) : World → List Value → (List α × Option Addr × Nat) → Prop :=
  fun w cs x => ∃ ecs, cs = [.slice x.2.1 x.1.length x.2.2] ∧ x.1.length ≤ x.2.2 ∧ x.1.length * by' ≤ 140737488351232 ∧ Cells w x.2.1 ecs.flatten ∧ AllR size R w ecs x.1

section
variable {P : Program} {t : TypeId}

theorem OpensW.mono {α β : Type} {R : World → List Value → α → Prop} {S : World → List Value → β → Prop} (h : OpensW P t R) (g : α → β) (hg : ∀ w cs a, R w cs a → S w cs (g a)) : OpensW P t S :=
  fun H enc w base spare held fuel cs x hx hw => let ⟨a, ha⟩ := h H enc w base spare held fuel cs x hx hw; ⟨g a, hg w cs a ha⟩
theorem opensW_of {α : Type} {R : World → List Value → α → Prop} (h : Opens P t R) : OpensW P t R :=
  fun H enc w base spare held fuel cs x hx _ => h H enc w base spare held fuel cs x hx
theorem opensW_str (ht : P.underlying t = some .string) : OpensW P t StrRW :=
  fun _ _ _ _ _ _ _ _ x h hw => by
    obtain ⟨s, e, hx, hs⟩ := DataW.trod_string ht h
    refine ⟨s, e, ?_⟩
    have := hw s.data.toList.length (by rw [hx]; simp [DataW.weights])
    simpa [reachBytes] using this

/-- The fields of a struct, from one on. -/
def OpensFW (P : Program) (fs : List Field) (off : Nat) {α : Type} (R : World → List Value → α → Prop) : Prop :=
  ∀ (H : Type) (enc : TypeId × Value → H) (w : World) (base : Nat) (spare : Nat → Bool) (held : Bool) (fuel : Nat) (cs : List Value) (xs : List (DataW H × List MemPlace)),
    xs.length = fs.length → (∀ (i : Nat) (f : Field), fs[i]? = some f → DataW.trod enc P w base spare held fuel f.type ((cs.drop f.offset).take (P.cellsOf f.type)) = xs[i]?) →
    (∀ n ∈ DataW.weightsEach P (fs.map (·.type)) (xs.map (·.1)), n ≤ reachBytes) → ∃ a, R w (cs.drop off) a

theorem OpensFW.cons {f : Field} {fs : List Field} {off n : Nat} {α β : Type} {R : World → List Value → α → Prop} {S : World → List Value → β → Prop} (ho : f.offset = off) (hn : P.cellsOf f.type = n)
    (hR : OpensW P f.type R) (hlen : ∀ w c a, R w c a → c.length = n) (hS : OpensFW P fs (off + n) S) : OpensFW P (f :: fs) off (ConsR n R S) := by
  intro H enc w base spare held fuel cs xs hl h hw
  match xs, hl with
  | x :: xs, hl =>
    have h0 := h 0 f rfl
    simp only [List.getElem?_cons_zero] at h0
    simp only [List.map_cons, DataW.weightsEach, List.mem_append] at hw
    obtain ⟨a, ha⟩ := hR H enc w base spare held fuel _ x h0 (fun n hn => hw n (.inl hn))
    obtain ⟨b, hb⟩ := hS H enc w base spare held fuel cs xs (by simpa using hl) (fun i g hg => by simpa using h (i + 1) g (by simpa using hg)) (fun n hn => hw n (.inr hn))
    have hl := hlen _ _ _ ha
    refine ⟨(a, b), _, _, ?_, hl, ha, hb⟩
    rw [ho, hn, ← List.drop_drop]
    exact (List.take_append_drop n _).symm

theorem OpensFW.nil {off : Nat} : OpensFW P [] off (fun _ _ (_ : Unit) => True) := by
  intro H enc w base spare held fuel cs xs _ _ _
  exact ⟨(), trivial⟩

theorem opensW_struct {fs : Array Field} {α : Type} {R : World → List Value → α → Prop} (ht : P.underlying t = some (.struct fs)) (h : OpensFW P fs.toList 0 R) :
    OpensW P t (fun w cs a => cs.length = P.cellsOf t ∧ R w cs a) := by
  intro H enc w base spare held fuel cs x hx hw
  obtain ⟨xs, n, _, hxe, hl, hlen, hf⟩ := DataW.trod_struct ht hx
  rw [hxe] at hw
  simp only [DataW.weights, ht] at hw
  obtain ⟨a, ha⟩ := h H enc w base spare held n cs xs (by simpa using hlen) (fun i f hf' => hf i f (by simpa using hf')) hw
  exact ⟨a, hl, by simpa using ha⟩

theorem opensW_slice {e : TypeId} {size by' : Nat} {α : Type} {R : World → List Value → α → Prop} (ht : P.underlying t = some (.slice e)) (hc : P.cellsOf e = size) (hby : P.bytesOf e = by') (he : OpensW P e R) : OpensW P t (SliceRW size by' R) := by
  intro H enc w base spare held fuel cs x hx hw
  rcases Deep.open_slice ht hx with ⟨rfl, _⟩ | ⟨a, len, cap, m, n, D, Pl, rfl, hb, hl, hm, hmm, hxe, hel⟩
  · exact ⟨([], none, 0), [], rfl, Nat.le_refl _, by simp, Cells.nil _ _, trivial⟩
  · have hlm : len ≤ m := by rw [hmm]; split <;> omega
    rw [hc] at hel
    rw [hxe] at hw
    simp only [DataW.weights, ht, List.mem_cons, List.mem_append, hby] at hw
    have hw0 := hw _ (.inl rfl)
    have hwe : ∀ i, i < len → ∀ n ∈ (D i).weights P e, n ≤ reachBytes := fun i hi n hn => hw n (.inr (.inl (by
      have : ∀ (l : List (DataW H)) (d : DataW H), d ∈ l → ∀ n ∈ d.weights P e, n ∈ DataW.weightsAll P e l := by
        intro l
        induction l with
        | nil => intro d h; simp at h
        | cons c l ih =>
          intro d h n hn
          simp only [DataW.weightsAll, List.mem_append]
          rcases List.mem_cons.1 h with rfl | h
          · exact .inl hn
          · exact .inr (ih d h n hn)
      exact this _ (D i) (List.mem_map.2 ⟨i, by simpa using hi, rfl⟩) n hn)))
    obtain ⟨E, hE⟩ := Deep.choose_lt (α := List Value) (p := fun i cs' => w.cells? base (a.add (i * size)) size = some cs' ∧ ∃ y, DataW.trod enc P w base spare held n e cs' = some y ∧ y.1 = D i)
      (fun i (hi : i < len) => let ⟨cs', h1, h2⟩ := hel i (by omega); ⟨cs', h1, _, h2, rfl⟩)
    obtain ⟨xs, hxl, hall⟩ := allR_of (size := size) (R := R) (w := w) E len (fun i hi => by
      obtain ⟨h1, y, h2, h3⟩ := hE i hi
      exact ⟨(World.cells?_some h1).2.1, he H enc w base spare held n _ y h2 (by rw [h3]; exact hwe i hi)⟩)
    refine ⟨(xs, some a, cap), (List.range len).map E, by simp only [hxl], by simp only; omega, ?_, ?_, hall⟩
    · simp only [List.length_map, List.length_range, reachBytes] at hw0
      simp only [hxl]
      exact Nat.le_trans (Nat.mul_le_mul_right _ (Nat.le_add_right _ _)) (by simpa using hw0)
    have hcell : ∀ j u, ((List.range len).map E).flatten[j]? = some u → w.cell? (a.add j) = some u := by
      intro j u hu
      obtain ⟨h0, hlt, c, hc1, hc2⟩ := getElem?_flatten _ (AllR.lens hall).2 j u hu
      simp only [List.length_map, List.length_range] at hlt
      simp only [List.getElem?_map, List.getElem?_range hlt, Option.map_some, Option.some.injEq] at hc1
      subst hc1
      have h3 := (World.cells?_some (hE _ hlt).1).2.2 (j % size) (Nat.mod_lt _ h0)
      rw [hc2] at h3
      rw [← h3]
      congr 1
      have hj : j / size * size + j % size = j := by rw [Nat.mul_comm]; exact Nat.div_add_mod _ _
      generalize j / size * size = q at hj
      generalize j % size = r at hj
      subst hj
      exact (add_add a q r).symm
    refine ⟨fun hne => ?_, fun b off e2 j u hu => ?_⟩
    · cases hfl : ((List.range len).map E).flatten with
      | nil => exact absurd hfl hne
      | cons u us =>
        have := hcell 0 u (by rw [hfl]; rfl)
        obtain ⟨b, off, sp⟩ := a
        have hsp : sp = none := by
          simp only [World.cell?, Addr.add] at this
          cases sp with
          | none => rfl
          | some v => simp at this; split at this <;> simp_all
        exact ⟨b, off, by rw [hsp]⟩
    · obtain rfl := Option.some.inj e2
      have := hcell j u hu
      rwa [Addr.add_lit] at this

end
/-- Slices whose elements' cells are a function of what they are, and of which each has a property. -/
def FlatRW {α : Type} (E : α → List Value) (Q : α → Prop) (by' : Nat) : World → List Value → (List α × Option Addr × Nat) → Prop :=
  fun w cs x => cs = [.slice x.2.1 x.1.length x.2.2] ∧ x.1.length * by' ≤ 140737488351232 ∧ Cells w x.2.1 (x.1.flatMap E) ∧ ∀ a ∈ x.1, Q a
theorem opensW_flat {P : Program} {t e : TypeId} {size by' : Nat} {α : Type} {E : α → List Value} {Q : α → Prop} (ht : P.underlying t = some (.slice e)) (hc : P.cellsOf e = size) (hby : P.bytesOf e = by') (he : OpensW P e (fun _ cs a => cs = E a ∧ Q a)) : OpensW P t (FlatRW E Q by') :=
  (opensW_slice ht hc hby he).mono id fun w cs x ⟨ecs, h1, _, h3, h4, h5⟩ => by
    obtain ⟨k1, k2⟩ := AllR.flat2 h5
    exact ⟨h1, h3, by simp only [id]; rw [← k1]; exact h4, k2⟩
theorem flat_ints {k : IntKind} (l : List Int) : l.flatMap (fun n => [Value.int k n]) = l.map (Value.int k) := by induction l with
  | nil => rfl
  | cons x l ih => rw [List.flatMap_cons, ih]; rfl
theorem opensW_int {P : Program} {t : TypeId} (ht : P.underlying t = some (.int .i64)) : OpensW P t (fun _ cs (n : Int) => cs = [Value.int .i64 n] ∧ I64 n) :=
  fun H enc w base spare held fuel cs x hx _ => by
    obtain ⟨n, e, hw⟩ := opens_int ht H enc w base spare held fuel cs x hx
    exact ⟨n, e, wf_i64 hw⟩
theorem opensW_bool {P : Program} {t : TypeId} (ht : P.underlying t = some .bool) : OpensW P t (fun _ cs (b : Bool) => cs = [Value.bool b]) :=
  opensW_of (opens_bool ht)
theorem opensW_ints {P : Program} {t e : TypeId} (ht : P.underlying t = some (.slice e)) (he : P.underlying e = some (.int .i64)) (hc : P.cellsOf e = 1) (hb : P.bytesOf e = 8) :
    OpensW P t (fun w cs (x : List Int × Option Addr × Nat) => cs = [.slice x.2.1 x.1.length x.2.2] ∧ x.1.length ≤ 17592186044416 ∧ Cells w x.2.1 (x.1.map (.int .i64)) ∧ ∀ n ∈ x.1, I64 n) :=
  (opensW_flat ht hc hb (opensW_int he)).mono id fun w cs x ⟨h1, h2, h3, h4⟩ => ⟨h1, by simp only [id]; omega, by simp only [id]; rw [← flat_ints]; exact h3, h4⟩
end Go.Proofs.YtkdnbnkbnegckaaGreat
