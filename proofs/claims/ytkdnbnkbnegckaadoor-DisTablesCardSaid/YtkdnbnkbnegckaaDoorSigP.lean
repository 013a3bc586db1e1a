/- What a function comes to, by its own code: the lifted functions' results are those of the second machine. Short words for the texts of lifted functions. The program's data as Lean's: instructions, nodes, sets, functions; their cells; where a function lies. Lists of types, in plain Lean: their letters, their text, the list of a text. -/
import Derived.Test.YtkdnbnkbnegckaaDoorEvV
import Derived.Test.YtkdnbnkbnegckaaDoorBase
import Derived.Test.YtkdnbnkbnegckaaDoorStrA
import Derived.Laws.Cover4
import Derived.Laws.RangeAny
namespace Go.Proofs.YtkdnbnkbnegckaaDoor
open Go.RowKit

/-! What is packed is not lost -/
def width : Ty → Nat
  | .int _ | .bool | .str | .sl _ _ => 1
  | .nul => 0
  | .pr a b => width a + width b
theorem enc_len : ∀ (τ : Ty) (x : Data τ), (enc τ x).length = width τ
  | .int _, _ | .bool, _ | .str, _ | .sl _ _, _ | .nul, _ => rfl
  | .pr a b, x => by simp only [enc, width, List.length_append, enc_len a, enc_len b]
theorem encI_inj : ∀ {k : IntKind} {a b : DI k}, encI k a = encI k b → a = b
  | .u8, a, b, h => UInt8.toNat_inj.1 (Int.ofNat_inj.1 h)
  | .u16, _, _, h | .u32, _, _, h | .u64, _, _, h | .i8, _, _, h | .i16, _, _, h | .i32, _, _, h | .i64, _, _, h => h
theorem map_inj {α β : Type} {f : α → β} (hf : ∀ x y, f x = f y → x = y) : ∀ {l m : List α}, l.map f = m.map f → l = m
  | [], [], _ => rfl
  | [], y :: m, h => by simp at h
  | x :: l, [], h => by simp at h
  | x :: l, y :: m, h => by
    simp only [List.map_cons, List.cons.injEq] at h
    rw [hf x y h.1, map_inj hf h.2]
theorem enc_inj : ∀ {τ : Ty} {x y : Data τ}, enc τ x = enc τ y → x = y
  | .int k, x, y, h => by
    simp only [enc, List.cons.injEq, C.v.injEq, Value.int.injEq, true_and, and_true] at h
    exact encI_inj h
  | .bool, x, y, h => Value.bool.inj (C.v.inj (List.cons.inj h).1)
  | .str, x, y, h => Array.mk.inj (ByteArray.mk.inj (Value.string.inj (C.v.inj (List.cons.inj h).1)))
  | .sl sz e, x, y, h => by
    simp only [enc, List.cons.injEq, C.fz.injEq, true_and, and_true] at h
    exact map_inj (fun a b => enc_inj) h
  | .nul, _, _, _ => rfl
  | .pr a b, x, y, h => by
    simp only [enc] at h
    obtain ⟨h1, h2⟩ := List.append_inj h (by rw [enc_len, enc_len])
    exact Prod.ext (enc_inj h1) (enc_inj h2)
theorem encL_inj {τ : Ty} {l m : List (Data τ)} (h : encL τ l = encL τ m) : l = m := map_inj (fun _ _ => enc_inj) h

def cellTy : Ty → Bool
  | .int _ | .bool | .str | .sl _ _ => true
  | _ => false
def pxOk : PX → Bool
  | .hole τ => cellTy τ
  | _ => true
theorem holeX_inj {τ : Ty} (ht : cellTy τ = true) {x y : Data τ} (h : holeX τ x = holeX τ y) : x = y := by
  cases τ with
  | int k =>
    simp only [holeX, X.c.injEq, C.v.injEq, Value.int.injEq, true_and] at h
    exact encI_inj h
  | bool => exact Value.bool.inj (C.v.inj (X.c.inj h))
  | str => exact Array.mk.inj (ByteArray.mk.inj (Value.string.inj (C.v.inj (X.c.inj h))))
  | sl sz e =>
    simp only [holeX, X.c.injEq, C.fz.injEq, true_and] at h
    exact encL_inj h
  | nul => cases ht
  | pr a b => cases ht
theorem unX_inj {rw : List Row} {R : Type} : ∀ {ps : List PX} {d d' : DX ps R}, ps.all pxOk = true → (unX rw ps d).1 = (unX rw ps d').1 → (unX rw ps d).2 = (unX rw ps d').2 → d = d'
  | [], d, d', _, _, h => h
  | p :: ps, d, d', ho, h1, h2 => by
    simp only [List.all_cons, Bool.and_eq_true] at ho
    cases p with
    | hole τ =>
      simp only [unX, List.cons.injEq] at h1 h2
      exact Prod.ext (holeX_inj ho.1 h1.1) (unX_inj ho.2 h1.2 h2)
    | _ =>
      simp only [unX, List.cons.injEq, true_and] at h1 h2
      exact unX_inj (R := R) (ps := ps) ho.2 h1 h2
theorem unR_inj {R : Type} : ∀ {ps : List PRow} {d d' : DR ps R}, (unR ps d).1 = (unR ps d').1 → (unR ps d).2 = (unR ps d').2 → d = d'
  | [], d, d', _, h => h
  | p :: ps, d, d', h1, h2 => by
    cases p with
    | mu ty sz τ =>
      simp only [unR, List.cons.injEq, Row.mu.injEq, true_and] at h1 h2
      exact Prod.ext (encL_inj h1.1) (unR_inj h1.2 h2)
    | fro sz τ =>
      simp only [unR, List.cons.injEq, Row.fro.injEq, true_and] at h1 h2
      exact Prod.ext (encL_inj h1.1) (unR_inj h1.2 h2)
    | _ =>
      simp only [unR, List.cons.injEq, true_and] at h1 h2
      exact unR_inj (R := R) (ps := ps) h1 h2
theorem unB_inj {rw : List Row} {R : Type} : ∀ {ps : List (List PX)} {d d' : DB ps R}, (ps.all fun p => p.all pxOk) = true → (unB rw ps d).1 = (unB rw ps d').1 → (unB rw ps d).2 = (unB rw ps d').2 → d = d'
  | [], d, d', _, _, h => h
  | p :: ps, d, d', ho, h1, h2 => by
    simp only [List.all_cons, Bool.and_eq_true] at ho
    simp only [unB, List.cons.injEq] at h1 h2
    exact unX_inj ho.1 h1.1 (unB_inj ho.2 h1.2 h2)
theorem unE_inj {rw : List Row} {R : Type} : ∀ {ps : List (Kd × List PX)} {d d' : DE ps R}, (ps.all fun p => p.2.all pxOk) = true → (unE rw ps d).1 = (unE rw ps d').1 → (unE rw ps d).2 = (unE rw ps d').2 → d = d'
  | [], d, d', _, _, h => h
  | p :: ps, d, d', ho, h1, h2 => by
    simp only [List.all_cons, Bool.and_eq_true] at ho
    simp only [unE, List.cons.injEq, T.mk.injEq, true_and] at h1 h2
    exact unX_inj ho.1 h1.1 (unE_inj ho.2 h1.2 h2)
/-- A template in which nothing is lost, of one value. -/
def tplOk (t : Tpl) : Bool := (t.bx.all fun p => p.all pxOk) && (t.env.all fun p => p.2.all pxOk) && t.env.length == 1
theorem unE_len {rw : List Row} {R : Type} : ∀ {ps : List (Kd × List PX)} {d : DE ps R}, (unE rw ps d).1.length = ps.length
  | [], _ => rfl
  | p :: ps, d => by simp only [unE, List.length_cons, unE_len]
theorem unpack_inj {t : Tpl} (ht : tplOk t = true) {d d' : DT t} (h1 : hdT (unpack t d) = hdT (unpack t d')) (h2 : (unpack t d).h = (unpack t d').h) : d = d' := by
  simp only [tplOk, Bool.and_eq_true, beq_iff_eq] at ht
  obtain ⟨⟨o1, o2⟩, o3⟩ := ht
  simp only [unpack, Hp.mk.injEq] at h1 h2
  obtain ⟨hb, hr⟩ := h2
  refine unR_inj hr ?_
  rw [← hr] at hb h1
  refine unB_inj o1 hb (unE_inj (rw := (unR t.rw d).1) o2 ?_ rfl)
  obtain ⟨x, hx⟩ : ∃ x, (unE (unR t.rw d).1 t.env (unB (unR t.rw d).1 t.bx (unR t.rw d).2).2).1 = [x] := List.length_eq_one_iff.1 (by rw [unE_len, o3])
  obtain ⟨y, hy⟩ : ∃ x, (unE (unR t.rw d).1 t.env (unB (unR t.rw d).1 t.bx (unR t.rw d').2).2).1 = [x] := List.length_eq_one_iff.1 (by rw [unE_len, o3])
  rw [hx, hy]
  simp only [hdT, hx, hy, List.headD_cons] at h1
  rw [h1]

/-! A function's results, by its code -/
section
variable {P : Program} {A : Ann} {plans : FuncId → Nat → List (Nat × Bool)} {f : FuncId} {tin tout : Tpl}
open Classical in
noncomputable def Sof (P : Program) (A : Ann) (plans : FuncId → Nat → List (Nat × Bool)) (f : FuncId) (tin tout : Tpl) (d : DT tin) : Option (DT tout) :=
  if h : ∃ q, ∀ args0, wkL (A.wk f) args0 = (unpack tin d).env → callW P A plans f args0 (unpack tin d).h = some (hdT (unpack tout q), (unpack tout q).h) then some h.choose else none
theorem ctr_ok : (Ctr.mk f tin tout (Sof P A plans f tin tout)).ok P A plans := fun d q h args0 hw => by
  simp only [Sof] at h
  split at h
  · rename_i hx
    cases h
    exact hx.choose_spec args0 hw
  · cases h
theorem Sof_of {Q : Lift} {N n : Nat} {d : DT tin} {q : DT tout} (hQ : ∀ c ∈ Q.ctr, c.ok P A plans) (hB : ∀ f a h, (A.base f a h).isSome = true → Q.bs f = true) (hbs : Q.bs f = false) (ht : tplOk tout = true) (hw : wkL (A.wk f) (unpack tin d).env = (unpack tin d).env)
    (h : lifted Q P A plans N n f tin tout d = some q) : Sof P A plans f tin tout d = some q := by
  have hx : ∃ q, ∀ args0, wkL (A.wk f) args0 = (unpack tin d).env → callW P A plans f args0 (unpack tin d).h = some (hdT (unpack tout q), (unpack tout q).h) := ⟨q, fun args0 ha => lifted_ok hQ hB hbs h ha⟩
  have h1 := lifted_ok hQ hB hbs h hw
  have h2 := hx.choose_spec _ hw
  rw [h1] at h2
  simp only [Option.some.injEq, Prod.mk.injEq] at h2
  simp only [Sof, dif_pos hx]
  exact congrArg some (unpack_inj ht h2.1 h2.2).symm
end
end Go.Proofs.YtkdnbnkbnegckaaDoor
namespace Go.Proofs.YtkdnbnkbnegckaaDoor
open Go.RowKit

abbrev tI : Ty := .int .i64
abbrev tW : Ty := .int .u64
abbrev tY : Ty := .int .u8
abbrev tC : Ty := .pr tI tI
abbrev tN : Ty := .pr tI (.pr tI (.pr tI (.pr tI (.pr tI (.pr tI tI)))))
abbrev tS : Ty := .pr tW (.pr tW (.pr tW tW))
abbrev tF : Ty := .pr .str (.pr .bool (.pr (.sl 1 tI) (.pr (.sl 1 tI) (.pr (.sl 1 tI) (.pr (.sl 1 tI) (.pr (.sl 2 tC) (.pr (.sl 1 tI) (.pr (.sl 7 tN) (.pr (.sl 1 tI) (.sl 4 tS))))))))))
abbrev LB := List UInt8
abbrev LI := List Int
abbrev LC := List (Int × Int)
abbrev LN := List (Int × (Int × (Int × (Int × (Int × (Int × Int))))))
abbrev LS := List (Int × (Int × (Int × Int)))
abbrev LF := List (LB × (Bool × (LI × (LI × (LI × (LI × (LC × (LI × (LN × (LI × LS))))))))))
abbrev eI (l : LI) := encL tI l
abbrev eC (l : LC) := encL tC l
abbrev eN (l : LN) := encL tN l
abbrev eS (l : LS) := encL tS l
section
variable {β : Type}
noncomputable def dI (l : LI) (k : LI → Option β) : Option β := decL tI (encL tI l) k
noncomputable def dW (l : LI) (k : LI → Option β) : Option β := decL tW (encL tW l) k
noncomputable def dY (l : LB) (k : LB → Option β) : Option β := decL tY (encL tY l) k
noncomputable def dC (l : LC) (k : LC → Option β) : Option β := decL tC (encL tC l) k
noncomputable def dN (l : LN) (k : LN → Option β) : Option β := decL tN (encL tN l) k
noncomputable def dS (l : LS) (k : LS → Option β) : Option β := decL tS (encL tS l) k
noncomputable def dF (l : LF) (k : LF → Option β) : Option β := decL tF (encL tF l) k
noncomputable def qS (l : List (List C)) (r : Option β) : Option β := chk (eqES l l) r
noncomputable def qI (n : Int) (r : Option β) : Option β := chk (eqI n n) r
noncomputable def qN (n : Nat) (r : Option β) : Option β := chk (eqN n n) r
noncomputable def qB (b : ByteArray) (r : Option β) : Option β := chk (eqBA b b) r
noncomputable def qO (b : Bool) (r : Option β) : Option β := chk (eqB b b) r
end
end Go.Proofs.YtkdnbnkbnegckaaDoor
namespace Go.Proofs.YtkdnbnkbnegckaaDoor
open Go.RowKit

abbrev InstrT := Int × Int
structure NodeT where
  par : Int
  fn : Int
  line : Int
  frm : Int
  args : Int
  upto : Int
  res : Int
  deriving DecidableEq
structure SetT where
  a : Nat
  b : Nat
  c : Nat
  d : Nat
  deriving DecidableEq
structure FuncT where
  name : ByteArray
  inner : Bool
  outer : List Int
  params : List Int
  results : List Int
  locs : List Int
  code : List InstrT
  lines : List Int
  nodes : List NodeT
  ats : List Int
  live : List SetT
  deriving DecidableEq

def nodeC (n : NodeT) : List Value := [.int .i64 n.par, .int .i64 n.fn, .int .i64 n.line, .int .i64 n.frm, .int .i64 n.args, .int .i64 n.upto, .int .i64 n.res]
def setC (s : SetT) : List Value := [.int .u64 s.a, .int .u64 s.b, .int .u64 s.c, .int .u64 s.d]
def setI (s : SetT) : List Int := [(s.a : Int), s.b, s.c, s.d]
def I64 (n : Int) : Prop := -9223372036854775808 ≤ n ∧ n ≤ 9223372036854775807
def Node64 (n : NodeT) : Prop := I64 n.par ∧ I64 n.fn ∧ I64 n.line ∧ I64 n.frm ∧ I64 n.args ∧ I64 n.upto ∧ I64 n.res
def Set64 (s : SetT) : Prop := s.a < 18446744073709551616 ∧ s.b < 18446744073709551616 ∧ s.c < 18446744073709551616 ∧ s.d < 18446744073709551616

/-- Where the parts of a function lie. -/
structure FuncA where
  o1 : Option Addr
  c1 : Nat
  o2 : Option Addr
  c2 : Nat
  o3 : Option Addr
  c3 : Nat
  o4 : Option Addr
  c4 : Nat
  o5 : Option Addr
  c5 : Nat
  o6 : Option Addr
  c6 : Nat
  o7 : Option Addr
  c7 : Nat
  o8 : Option Addr
  c8 : Nat
  o9 : Option Addr
  c9 : Nat

/-- A function lies there. -/
structure FuncIn (w : World) (A : FuncA) (f : FuncT) : Prop where
  h1 : Cells w A.o1 (f.outer.map (.int .i64))
  h2 : Cells w A.o2 (f.params.map (.int .i64))
  h3 : Cells w A.o3 (f.results.map (.int .i64))
  h4 : Cells w A.o4 (f.locs.map (.int .i64))
  h5 : Cells w A.o5 (f.code.flatMap pairC)
  h6 : Cells w A.o6 (f.lines.map (.int .i64))
  h7 : Cells w A.o7 (f.nodes.flatMap nodeC)
  h8 : Cells w A.o8 (f.ats.map (.int .i64))
  h9 : Cells w A.o9 (f.live.flatMap setC)

theorem FuncIn.ext {w w' : World} {A : FuncA} {f : FuncT} (h : FuncIn w A f) (hb : Ext w w') : FuncIn w' A f :=
  ⟨h.h1.ext hb, h.h2.ext hb, h.h3.ext hb, h.h4.ext hb, h.h5.ext hb, h.h6.ext hb, h.h7.ext hb, h.h8.ext hb, h.h9.ext hb⟩

/-- What a machine's function is: numbers of 64 bits, lengths that may be. -/
structure FuncB (f : FuncT) : Prop where
  n0 : f.name.size ≤ 9223372036854775807
  n1 : f.outer.length ≤ 17592186044416
  n2 : f.params.length ≤ 17592186044416
  n3 : f.results.length ≤ 17592186044416
  n4 : f.locs.length ≤ 17592186044416
  n5 : f.code.length ≤ 17592186044416
  n6 : f.lines.length ≤ 17592186044416
  n7 : f.nodes.length ≤ 17592186044416
  n8 : f.ats.length ≤ 17592186044416
  n9 : f.live.length ≤ 17592186044416
  v1 : ∀ n ∈ f.outer, I64 n
  v2 : ∀ n ∈ f.params, I64 n
  v3 : ∀ n ∈ f.results, I64 n
  v4 : ∀ n ∈ f.locs, I64 n
  v5 : ∀ i ∈ f.code, I64 i.1 ∧ I64 i.2
  v6 : ∀ n ∈ f.lines, I64 n
  v7 : ∀ n ∈ f.nodes, Node64 n
  v8 : ∀ n ∈ f.ats, I64 n
  v9 : ∀ s ∈ f.live, Set64 s
end Go.Proofs.YtkdnbnkbnegckaaDoor
namespace Go.Proofs.YtkdnbnkbnegckaaDoor

def letterI (a : Int) : Int := if a = 1 then 105 else if a = 2 then 99 else 63
def letterB (a : Int) : UInt8 := if a = 1 then 105 else if a = 2 then 99 else 63
/-- The text of a list of types. -/
def textB (l : List Int) : List UInt8 := if l = [] then [45] else l.map letterB
def textS (l : List Int) : ByteArray := ⟨(textB l).toArray⟩

theorem letterI_cases (a : Int) : (letterI a = 105 ∧ letterB a = 105) ∨ (letterI a = 99 ∧ letterB a = 99) ∨ (letterI a = 63 ∧ letterB a = 63) := by
  unfold letterI letterB; repeat' split
  all_goals simp

theorem encode_letter (a : Int) : Utf8.encode (letterI a) = ⟨#[letterB a]⟩ := by
  rcases letterI_cases a with ⟨h1, h2⟩ | ⟨h1, h2⟩ | ⟨h1, h2⟩ <;> rw [h1, h2] <;> decide +kernel

theorem runesBytes_letters (l : List Int) : runesBytes (l.map letterI) = ⟨(l.map letterB).toArray⟩ := by
  have key : ∀ (l : List Int) (s : List UInt8), (l.map letterI).foldl (fun r n => r ++ Utf8.encode n) ⟨s.toArray⟩ = ⟨(s ++ l.map letterB).toArray⟩ := by
    intro l
    induction l with
    | nil => intro s; simp
    | cons a l ih =>
      intro s
      simp only [List.map_cons, List.foldl_cons, encode_letter]
      have e : (⟨s.toArray⟩ : ByteArray) ++ ⟨#[letterB a]⟩ = ⟨(s ++ [letterB a]).toArray⟩ := by
        apply ByteArray.ext
        simp [ByteArray.data_append]
      rw [e, ih]
      simp
  have h := key l []
  rw [List.nil_append] at h
  exact h

def isIC (b : UInt8) : Bool := b == 105 || b == 99
def typeB (b : UInt8) : Int := if b = 105 then 1 else 2
/-- The list whose text s is. -/
def readS (s : List UInt8) : Option (List Int) := if s = [45] then some [] else if s ≠ [] ∧ s.all isIC = true then some (s.map typeB) else none
def readL (s : List UInt8) : List Int := (readS s).getD []
def readE (s : List UInt8) : Int := if (readS s).isSome then 0 else 5

theorem textB_inj_none (xs : List Int) (hx : ∀ x ∈ xs, x = 1 ∨ x = 2) (s : List UInt8) (he : textB xs = s) : readS s = some xs := by
  subst he
  by_cases h : xs = []
  · subst h; rfl
  · have hl : ∀ x ∈ xs, isIC (letterB x) = true ∧ typeB (letterB x) = x := by
      intro x hm
      rcases hx x hm with rfl | rfl <;> decide
    have h45 : textB xs ≠ [45] := by
      intro e
      have : ∀ y ∈ xs.map letterB, isIC y = true := by simpa using fun x hm => (hl x hm).1
      simp only [textB, h, if_false] at e
      rw [e] at this
      exact absurd (this 45 (by simp)) (by decide)
    unfold readS
    rw [if_neg h45, if_pos]
    · congr 1
      simp only [textB, h, if_false, List.map_map]
      conv => rhs; rw [← List.map_id xs]
      exact List.map_congr_left fun x hm => (hl x hm).2
    · refine ⟨by simp [textB, h], ?_⟩
      simp only [textB, h, if_false, List.all_map, List.all_eq_true]
      exact fun x hm => (hl x hm).1

theorem textB_map (s : List UInt8) (h : s ≠ []) (ha : s.all isIC = true) : textB (s.map typeB) = s := by
  have : s.map typeB ≠ [] := by simpa using h
  simp only [textB, this, if_false, List.map_map]
  conv => rhs; rw [← List.map_id s]
  refine List.map_congr_left fun x hm => ?_
  have := (List.all_eq_true.1 ha) x hm
  simp only [isIC, Bool.or_eq_true, beq_iff_eq] at this
  rcases this with rfl | rfl <;> decide

/-- What the loop over a text's runes has gathered decides all. -/
theorem read_of (xs : List Int) (hx : ∀ x ∈ xs, x = 1 ∨ x = 2) (s : List UInt8) (h : s.all isIC = true → xs = s.map typeB) (h' : s.all (fun b => !isIC b) = true → xs = []) :
    (textB xs = s → readL s = xs ∧ readE s = 0) ∧ (textB xs ≠ s → readL s = [] ∧ readE s = 5) := by
  refine ⟨fun e => by simp [readL, readE, textB_inj_none xs hx s e], fun e => ?_⟩
  have : readS s = none := by
    unfold readS
    by_cases h45 : s = [45]
    · exfalso
      subst h45
      exact e (by simp [h' (by decide), textB])
    · rw [if_neg h45, if_neg]
      rintro ⟨h1, h2⟩
      exact e (by rw [h h2]; exact textB_map s h1 h2)
  simp [readL, readE, this]

/-- What is known of what the loop has gathered, pos bytes behind the beginning. -/
def Gath (s : ByteArray) (pos : Nat) (xs : List Int) : Prop :=
  (xs.length ≤ pos ∧ xs.length ≤ s.size) ∧ (∀ x ∈ xs, x = 1 ∨ x = 2) ∧ ((s.data.toList.take pos).all isIC = true → xs = (s.data.toList.take pos).map typeB) ∧ ((s.data.toList.take pos).all (fun b => !isIC b) = true → xs = [])

theorem Gath.end {s : ByteArray} {pos : Nat} {xs : List Int} (h : Gath s pos xs) (hp : ¬ pos < s.size) :
    (textB xs = s.data.toList → readL s.data.toList = xs ∧ readE s.data.toList = 0) ∧ (textB xs ≠ s.data.toList → readL s.data.toList = [] ∧ readE s.data.toList = 5) := by
  obtain ⟨h1, h2, h3, h4⟩ := h
  rw [List.take_of_length_le (by simpa using hp)] at h3 h4
  exact read_of xs h2 _ h3 h4

end Go.Proofs.YtkdnbnkbnegckaaDoor
