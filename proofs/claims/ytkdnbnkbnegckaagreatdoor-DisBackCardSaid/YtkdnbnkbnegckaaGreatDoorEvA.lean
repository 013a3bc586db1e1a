/- Whether two structs of ints, or two arrays of ints, are the same: what the model comes to. A second machine, of pure values: what a function's code does, without a heap's numbers and without draws. -/
import Derived.Test.YtkdnbnkbnegckaaGreatDoorBase
import Derived.Laws.StructEq
namespace Go.Proofs.YtkdnbnkbnegckaaGreatDoor
open Go.RowKit

/-- A struct of n ints of kind k, and of nothing else. -/
def intFields (P : Program) (k : IntKind) (t : TypeId) (n : Nat) : Bool :=
  match P.underlying t with
  | some (.struct fs) => fs.size == n && fs.toList.zipIdx.all fun p => p.1.name != "_" && p.1.offset == p.2 && (match P.underlying p.1.type with | some (.int k') => k' == k | _ => false) && !(P.stoodInHeld t)
  | _ => false

theorem run_part_int {P : Program} {k k' : IntKind} {t : TypeId} (w : World) (ht : P.underlying t = some (.int k)) (xs : Array Value) (off : Nat) (n : Int) (hx : xs[off]? = some (.int k' n)) : (part t xs off).run P w = .ok (.int k' n) w := by
  simp [part, isAgg, Sem.run_bind, run_underlying ht, hx]

theorem run_eqFields_ints {P : Program} (k : IntKind) (w : World) (d : Nat) (xs ys : Array Value) : ∀ (fs : List Field) (off : Nat) (l m : List Int), fs.length = l.length → fs.length = m.length →
    (∀ i f, fs[i]? = some f → f.name ≠ "_" ∧ f.offset = off + i ∧ P.underlying f.type = some (.int k)) →
    (∀ i n, l[i]? = some n → xs[off + i]? = some (.int k n)) → (∀ i n, m[i]? = some n → ys[off + i]? = some (.int k n)) →
    (Op.eqFields (d + 1) xs ys fs).run P w = .ok (decide (l = m)) w := by
  intro fs
  induction fs with
  | nil =>
    intro off l m hl hm _ _ _
    obtain rfl := List.eq_nil_of_length_eq_zero hl.symm
    obtain rfl := List.eq_nil_of_length_eq_zero hm.symm
    simp [Op.eqFields]
  | cons f fs ih =>
    intro off l m hl hm hf hx hy
    match l, m, hl, hm with
    | a :: l, b :: m, hl, hm =>
      obtain ⟨h1, h2, h3⟩ := hf 0 f rfl
      have e1 := hx 0 a rfl
      have e2 := hy 0 b rfl
      rw [Nat.add_zero] at h2 e1 e2
      have hr := ih (off + 1) l m (by simpa using hl) (by simpa using hm) (fun i g hg => by
          obtain ⟨q1, q2, q3⟩ := hf (i + 1) g (by simpa using hg)
          exact ⟨q1, by omega, q3⟩)
        (fun i n hn => by have := hx (i + 1) n (by simpa using hn); rwa [show off + (i + 1) = off + 1 + i by omega] at this)
        (fun i n hn => by have := hy (i + 1) n (by simpa using hn); rwa [show off + (i + 1) = off + 1 + i by omega] at this)
      simp only [Op.eqFields, h1, ne_eq, not_false_eq_true, if_true, Sem.run_bind, h2, run_part_int w h3 _ _ _ e1, run_part_int w h3 _ _ _ e2, Result.andThen_ok, run_equalIn_int w d f.type k k a b h3, Sem.run_ite]
      by_cases hab : a = b
      · subst hab
        simp [hr]
      · simp [hab, Sem.run_pure]

theorem intFields_of {P : Program} {k : IntKind} {t : TypeId} {n : Nat} (hn : 0 < n) (h : intFields P k t n = true) : P.underlying t = some (.struct (P.fieldsOf t)) ∧ P.stoodInHeld t = false ∧ (P.fieldsOf t).toList.length = n ∧
    ∀ i f, (P.fieldsOf t).toList[i]? = some f → f.name ≠ "_" ∧ f.offset = 0 + i ∧ P.underlying f.type = some (.int k) := by
  unfold intFields at h
  split at h
  · rename_i fs hfs
    have hu : P.fieldsOf t = fs := by simp [Program.fieldsOf, hfs]
    rw [hu]
    simp only [Bool.and_eq_true, beq_iff_eq, List.all_eq_true] at h
    obtain ⟨h1, h2⟩ := h
    have key : ∀ i f, fs.toList[i]? = some f → f.name ≠ "_" ∧ f.offset = 0 + i ∧ P.underlying f.type = some (.int k) ∧ P.stoodInHeld t = false := by
      intro i f hf
      have := h2 (f, i) (by
        rw [List.mem_iff_getElem?]
        exact ⟨i, by simp [List.getElem?_zipIdx, hf]⟩)
      obtain ⟨⟨⟨a1, a2⟩, a3⟩, a4⟩ := this
      refine ⟨by simpa using a1, by simpa using a2, ?_, by simpa using a4⟩
      simp only at a3
      split at a3
      · rename_i k' hk'; rw [hk']; simp at a3; rw [a3]
      · cases a3
    refine ⟨hfs, ?_, by simpa using h1, fun i f hf => ⟨(key i f hf).1, (key i f hf).2.1, (key i f hf).2.2.1⟩⟩
    cases hl : fs.toList with
    | nil =>
      have : fs.toList.length = 0 := by rw [hl]; rfl
      simp at this
      simp [this] at h1
      omega
    | cons f r => exact (key 0 f (by rw [hl]; rfl)).2.2.2
  · cases h

theorem run_equalIn_ints {P : Program} {k : IntKind} {t : TypeId} {n : Nat} (hn : 0 < n) (h : intFields P k t n = true) (w : World) (d : Nat) (l m : List Int) (hl : l.length = n) (hm : m.length = n) :
    (Op.equalIn (d + 2) t (.agg (l.map (Value.int k)).toArray) (.agg (m.map (Value.int k)).toArray)).run P w = .ok (decide (l = m)) w := by
  obtain ⟨h1, h2, h3, h4⟩ := intFields_of hn h
  rw [run_equalIn_struct w (d + 1) t _ _ h1 h2]
  exact run_eqFields_ints k w d _ _ _ 0 l m (by omega) (by omega) h4 (fun i n hn => by simp [hn]) (fun i n hn => by simp [hn])

theorem run_neq_ints {P : Program} {k : IntKind} {t : TypeId} {n : Nat} (hn : 0 < n) (h : intFields P k t n = true) (w : World) (l m : List Int) (hl : l.length = n) (hm : m.length = n) :
    (binOp .neq t (.agg (l.map (Value.int k)).toArray) (.agg (m.map (Value.int k)).toArray)).run P w = .ok (.bool (!decide (l = m))) w := by
  rw [run_neq_struct, run_equalIn_ints hn h w 9998 l m hl hm]; rfl
theorem run_eql_ints {P : Program} {k : IntKind} {t : TypeId} {n : Nat} (hn : 0 < n) (h : intFields P k t n = true) (w : World) (l m : List Int) (hl : l.length = n) (hm : m.length = n) :
    (binOp .eql t (.agg (l.map (Value.int k)).toArray) (.agg (m.map (Value.int k)).toArray)).run P w = .ok (.bool (decide (l = m))) w := by
  rw [run_eql_struct, run_equalIn_ints hn h w 9998 l m hl hm]; rfl

/-- An array of n ints. -/
theorem run_equalIn_arr {P : Program} {k : IntKind} {t e : TypeId} {n : Nat} (ht : P.underlying t = some (.array n e)) (he : P.underlying e = some (.int k)) (hs : ∀ w, (sizeOf e).run P w = .ok 1 w) (w : World) (d : Nat) (l m : List Int) (hl : l.length = n) (hm : m.length = n) :
    (Op.equalIn (d + 2) t (.agg (l.map (Value.int k)).toArray) (.agg (m.map (Value.int k)).toArray)).run P w = .ok (decide (l = m)) w := by
  rw [Op.equalIn]
  simp only [Sem.run_bind, run_underlying ht, Result.andThen_ok, hs]
  rw [Std.Legacy.Range.forIn_eq_forIn_range']
  simp only [Std.Legacy.Range.size, Nat.sub_zero, Nat.add_sub_cancel, Nat.div_one]
  have key : ∀ (c s : Nat), s + c = n → l.take s = m.take s → ∀ (F : Nat → Option Bool × Unit → Sem (ForInStep (Option Bool × Unit))),
      (∀ i, i < n → ∀ w, (F i (none, ())).run P w = .ok (if l[i]? = m[i]? then .yield (none, ()) else .done (some false, ())) w) →
      (forIn (List.range' s c) (none, ()) F).run P w = .ok (if l = m then (none, ()) else (some false, ())) w := by
    intro c
    induction c with
    | zero =>
      intro s hs' ht' F _
      have : l = m := by
        rw [← List.take_of_length_le (i := s) (l := l) (by omega), ht', List.take_of_length_le (by omega)]
      simp [this]
    | succ c ih =>
      intro s hs' ht' F hF
      rw [List.range'_succ, List.forIn_cons, Sem.run_bind, hF s (by omega) w, Result.andThen_ok]
      by_cases hq : l[s]? = m[s]?
      · rw [if_pos hq]
        exact ih (s + 1) (by omega) (by rw [List.take_add_one, List.take_add_one, ht', hq]) F hF
      · rw [if_neg hq, if_neg (fun e => hq (by rw [e]))]
        rfl
  rw [key n 0 (by omega) (by simp) _ ?_]
  · by_cases hq : l = m
    · simp [hq]
    · simp [hq]
  · intro i hi w
    have e1 : ((l.map (Value.int k)).toArray)[i * 1]? = some (.int k l[i]) := by simp [Nat.mul_one, hl, hi]
    have e2 : ((m.map (Value.int k)).toArray)[i * 1]? = some (.int k m[i]) := by simp [Nat.mul_one, hm, hi]
    simp only [Sem.run_bind, run_part_int w he _ _ _ e1, run_part_int w he _ _ _ e2, Result.andThen_ok, run_equalIn_int w d e k k _ _ he]
    have f1 : l[i]? = some l[i] := by simp [hl, hi]
    have f2 : m[i]? = some m[i] := by simp [hm, hi]
    rw [f1, f2]
    by_cases hab : l[i] = m[i]
    · simp [hab]
    · simp [hab]

theorem run_neq_arr {P : Program} {k : IntKind} {t e : TypeId} {n : Nat} (ht : P.underlying t = some (.array n e)) (he : P.underlying e = some (.int k)) (hs : ∀ w, (sizeOf e).run P w = .ok 1 w) (w : World) (l m : List Int) (hl : l.length = n) (hm : m.length = n) :
    (binOp .neq t (.agg (l.map (Value.int k)).toArray) (.agg (m.map (Value.int k)).toArray)).run P w = .ok (.bool (!decide (l = m))) w := by
  rw [run_neq_struct, run_equalIn_arr ht he hs w 9998 l m hl hm]; rfl
theorem run_eql_arr {P : Program} {k : IntKind} {t e : TypeId} {n : Nat} (ht : P.underlying t = some (.array n e)) (he : P.underlying e = some (.int k)) (hs : ∀ w, (sizeOf e).run P w = .ok 1 w) (w : World) (l m : List Int) (hl : l.length = n) (hm : m.length = n) :
    (binOp .eql t (.agg (l.map (Value.int k)).toArray) (.agg (m.map (Value.int k)).toArray)).run P w = .ok (.bool (decide (l = m))) w := by
  rw [run_eql_struct, run_equalIn_arr ht he hs w 9998 l m hl hm]; rfl

/-- An element of an array of ints. -/
theorem run_index_ints {P : Program} {k ki : IntKind} {t e : TypeId} {n : Nat} (ht : P.underlying t = some (.array n e)) (he : P.underlying e = some (.int k)) (hs : ∀ w, (sizeOf e).run P w = .ok 1 w) (l : List Int) (hl : l.length = n) (i : Nat) (hi : i < n) (r : Int) (hr : l[i]? = some r) (w : World) :
    (Instr.index t (.agg (l.map (Value.int k)).toArray) (.int ki i)).run P w = .ok (.int k r) w := by
  have e1 : ((l.map (Value.int k)).toArray)[i * 1]? = some (.int k r) := by simp [Nat.mul_one, hr]
  have h1 : (0 : Int) ≤ (i : Int) ∧ (i : Int) < (n : Int) := by omega
  simp only [Instr.index, asIntOf, Sem.run_bind, run_underlying ht, Result.andThen_ok, Sem.run_pure, Sem.run_ite, h1, if_true, Int.toNat_natCast, hs, and_self]
  exact run_part_int w he _ _ _ e1
end Go.Proofs.YtkdnbnkbnegckaaGreatDoor
namespace Go.Proofs.YtkdnbnkbnegckaaGreatDoor
open Go.RowKit

/-- What a cell holds for good: a scalar, or a slice whose cells turn no more (the size of an element, the elements). -/
inductive C where
  | v (v : Value)
  | fz (sz : Nat) (es : List (List C))

/-- What a cell may hold while code runs. -/
inductive X where
  | c (c : C)
  | own (r off n : Nat)
  | ptr (k off : Nat)
  | ep (r i off : Nat)
  | fp (e : List C) (off : Nat)
  | clo (bd : Bool) (f : FuncId) (caps : List Nat)
  | junk

inductive Kd where
  | one | agg | tup (sh : List (Bool × Nat))

structure T where
  k : Kd
  xs : List X

inductive Row where
  | dead
  | mu (ty : TypeId) (sz : Nat) (es : List (List C))
  | fro (sz : Nat) (es : List (List C))

structure Hp where
  bx : List (List X)
  rw : List Row

structure S where
  env : List T
  h : Hp

def scalar : Value → Bool
  | .bool _ | .int _ _ | .float _ _ | .string _ | .pointer none | .nilFunc | .nilIface | .slice none 0 0 | .map none => true
  | _ => false
def junkT : T := ⟨.one, [.junk]⟩
def cellOf (v : Value) : X := if scalar v then .c (.v v) else .junk
def ofVal : Value → T
  | .agg cs => if cs.toList.all scalar then ⟨.agg, cs.toList.map cellOf⟩ else junkT
  | .tuple cs => if cs.toList.isEmpty then ⟨.tup [], []⟩ else junkT
  | v => ⟨.one, [cellOf v]⟩
def X.val : X → Option Value
  | .c (.v u) => some u
  | _ => none
def T.val : T → Option Value
  | ⟨.one, [x]⟩ => x.val
  | ⟨.agg, xs⟩ => (xs.mapM X.val).map (fun l => .agg l.toArray)
  | _ => none
def X.cl : X → Option C
  | .c d => some d
  | _ => none

def S.rd (s : S) : Operand → T
  | .tmp t => s.env.getD t junkT
  | .const v => ofVal v
  | .func f => ⟨.one, [.clo false f []]⟩
  | .global _ => junkT
def S.x1 (s : S) (o : Operand) : Option X :=
  match s.rd o with
  | ⟨.one, [x]⟩ => some x
  | _ => none
def S.int (s : S) (o : Operand) : Option (IntKind × Int) :=
  match s.rd o with
  | ⟨.one, [.c (.v (.int k n))]⟩ => some (k, n)
  | _ => none
def S.bool (s : S) (o : Operand) : Option Bool :=
  match s.rd o with
  | ⟨.one, [.c (.v (.bool b))]⟩ => some b
  | _ => none

def S.capBox (s : S) (c : Operand) : Option Nat :=
  match s.x1 c with
  | some (.ptr k 0) => some k
  | _ => none

def Hp.row (h : Hp) (r : Nat) : Option (Nat × List (List C)) :=
  match h.rw[r]? with
  | some (.mu _ sz es) => some (sz, es)
  | some (.fro sz es) => some (sz, es)
  | _ => none
/-- The elements of a slice (none: what is no slice, or may have turned), and an element's size if it is known. -/
def Hp.view (h : Hp) : X → Option (Option Nat × List (List C))
  | .c (.v (.slice none 0 0)) => some (none, [])
  | .c (.fz sz es) => some (some sz, es)
  | .own r off n => (h.row r).bind fun p => if off + n ≤ p.2.length then some (some p.1, (p.2.drop off).take n) else none
  | _ => none
def szOk (sz : Nat) : Option Nat → Bool
  | none => true
  | some n => n == sz

/-! Types -/
def aggT (P : Program) (t : TypeId) : Option Bool :=
  match P.underlying t with
  | some (.struct _) | some (.array _ _) => some true
  | some _ => some false
  | none => none
def szT (P : Program) (t : TypeId) : Option Nat := (P.info? t).map (·.size)
def elemT (P : Program) (t : TypeId) : Option TypeId :=
  match P.underlying t with
  | some (.slice e) => some e
  | _ => none
def fldT (P : Program) (t : TypeId) (f : Nat) : Option (Nat × TypeId) :=
  match P.underlying t with
  | some (.struct fs) => (fs[f]?).map fun f => (f.offset, f.type)
  | _ => none
def mkT (ag : Bool) (xs : List X) : Option T :=
  if ag then some ⟨.agg, xs⟩ else match xs with
    | [x] => some ⟨.one, [x]⟩
    | _ => none
def partT (P : Program) (t : TypeId) (xs : List X) (off : Nat) : Option T :=
  (aggT P t).bind fun ag => (szT P t).bind fun n => if off + n ≤ xs.length then mkT ag ((xs.drop off).take n) else none

/-! Operations that leave the heap as it is -/
def addOff (x : X) (n : Nat) : Option X :=
  match x with
  | .ptr k off => some (.ptr k (off + n))
  | .ep r i off => some (.ep r i (off + n))
  | .fp e off => some (.fp e (off + n))
  | _ => none
def loadX (P : Program) (h : Hp) (t : TypeId) : X → Option T
  | .ptr k off => (h.bx[k]?).bind fun xs => partT P t xs off
  | .ep r i off => (h.row r).bind fun p => (p.2[i]?).bind fun e => partT P t (e.map .c) off
  | .fp e off => partT P t (e.map .c) off
  | _ => none
def indexAddrX (P : Program) (h : Hp) (t : TypeId) (x : X) (i : Int) : Option X :=
  match P.underlying t with
  | some (.slice e) => (szT P e).bind fun sz =>
    match x with
    | .c (.fz sz' es) => if sz' = sz ∧ 0 ≤ i then (es[i.toNat]?).map fun el => .fp el 0 else none
    | .own r off n => (h.row r).bind fun p => if p.1 = sz ∧ 0 ≤ i ∧ i < n ∧ off + n ≤ p.2.length then some (.ep r (off + i.toNat) 0) else none
    | _ => none
  | some (.array len e) => (szT P e).bind fun sz => if 0 ≤ i ∧ i < len then addOff x (i.toNat * sz) else none
  | _ => none
def sliceX (h : Hp) (x : X) (lo hi : Option Int) : Option X :=
  (h.view x).bind fun p =>
    let l := lo.getD 0
    let u := hi.getD p.2.length
    if 0 ≤ l ∧ l ≤ u ∧ u ≤ p.2.length then
      match x with
      | .c (.fz sz es) => some (.c (.fz sz ((es.drop l.toNat).take (u - l).toNat)))
      | .own r off _ => some (.own r (off + l.toNat) (u - l).toNat)
      | x => some x
    else none
def bytesOf : List (List C) → Option (List UInt8)
  | [] => some []
  | [.v (.int .u8 n)] :: es => (bytesOf es).map (UInt8.ofNat n.toNat :: ·)
  | _ => none
def optInt (s : S) : Option Operand → Option (Option Int)
  | none => some none
  | some o => (s.int o).map fun p => some p.2
def runPure {α : Type} (P : Program) : Sem α → Option α
  | .pure a => some a
  | .program k => runPure P (k P)
  | .mark _ k => runPure P k
  | _ => none
def valOf (s : S) (o : Operand) : Value := (s.rd o).val.getD undef
def allVal (s : S) (o : Oper) : Bool := o.op.operands.toList.all fun x => (s.rd x).val.isSome
/-- What a value comes to by the model's own steps. -/
def pureV (P : Program) (s : S) (o : Oper) : Option T :=
  if allVal s o then
    match runPure P (execOp (valOf s) o) with
    | some (.value v) => some (ofVal v)
    | _ => none
  else none
/-! The same for what is not known: by formulas -/
def intOp (op : BinOp) (k : IntKind) (a : Int) (k' : IntKind) (b : Int) : Option Value :=
  match op with
  | .shl => if b < 0 then none else some (.int k (k.wrap (a * 2 ^ min b.toNat k.bits)))
  | .shr => if b < 0 then none else some (.int k (a.fdiv (2 ^ min b.toNat k.bits)))
  | .quo => if b = 0 ∨ k ≠ k' then none else some (.int k (k.wrap (a.tdiv b)))
  | .rem => if b = 0 ∨ k ≠ k' then none else some (.int k (a.tmod b))
  | .and => if k = k' then some (.int k (bits .and k a b)) else none
  | .or => if k = k' then some (.int k (bits .or k a b)) else none
  | .xor => if k = k' then some (.int k (bits .xor k a b)) else none
  | .andNot => if k = k' then some (.int k (bits .andNot k a b)) else none
  | _ => none
def intsOf (k : IntKind) : List X → Option (List Int)
  | [] => some []
  | .c (.v (.int k' a)) :: xs => if k' = k then (intsOf k xs).map (a :: ·) else none
  | _ => none
/-- A struct or an array of n ints of one kind, and of nothing else. -/
def flatI (P : Program) (t : TypeId) (n : Nat) : Option IntKind :=
  if P.eqGuardType P.depth t || n == 0 then none else
  match P.underlying t with
  | some (.struct fs) =>
    match fs[0]? with
    | some f =>
      match P.underlying f.type with
      | some (.int k) => if intFields P k t n then some k else none
      | _ => none
    | none => none
  | some (.array len e) =>
    match P.underlying e with
    | some (.int k) => if len = n ∧ szT P e = some 1 then some k else none
    | _ => none
  | _ => none
def boolV (b : Bool) : T := ⟨.one, [.c (.v (.bool b))]⟩
def fastOp (P : Program) (s : S) (o : Oper) : Option T :=
  match o.op with
  | .binOp op t x y _ =>
    match s.rd x, s.rd y with
    | ⟨.one, [.c (.v (.int k a))]⟩, ⟨.one, [.c (.v (.int k' b))]⟩ => (intOp op k a k' b).map fun v => ⟨.one, [.c (.v v)]⟩
    | ⟨.one, [.c (.v (.bool a))]⟩, ⟨.one, [.c (.v (.bool b))]⟩ =>
      match P.underlying t, op with
      | some .bool, .eql => some (boolV (a == b))
      | some .bool, .neq => some (boolV !(a == b))
      | _, _ => none
    | ⟨.agg, xs⟩, ⟨.agg, ys⟩ => (flatI P t xs.length).bind fun k => (intsOf k xs).bind fun l => (intsOf k ys).bind fun m =>
      if xs.length = ys.length then
        match op with
        | .eql => some (boolV (decide (l = m)))
        | .neq => some (boolV !(decide (l = m)))
        | _ => none
      else none
    | _, _ => none
  | .unOp .neg _ x =>
    match s.rd x with
    | ⟨.one, [.c (.v (.int k a))]⟩ => some ⟨.one, [.c (.v (.int k (k.wrap (0 - a))))]⟩
    | _ => none
  | .convert src dst x =>
    match P.underlying src, P.underlying dst, s.rd x with
    | some _, some (.int k), ⟨.one, [.c (.v (.int _ a))]⟩ => some ⟨.one, [.c (.v (.int k (k.wrap a)))]⟩
    | _, _, _ => none
  | .index t x i =>
    match P.underlying t, s.rd x, s.rd i with
    | some .string, ⟨.one, [.c (.v (.string b))]⟩, ⟨.one, [.c (.v (.int _ n))]⟩ => if 0 ≤ n then (b.data[n.toNat]?).map fun u => ⟨.one, [.c (.v (.int .u8 u.toNat))]⟩ else none
    | _, _, _ => none
  | .call c =>
    match c.callee, c.args.toList, c.argTypes.toList with
    | .builtin .len, [x], [t] =>
      match P.underlying t, s.rd x with
      | some .string, ⟨.one, [.c (.v (.string b))]⟩ => some ⟨.one, [.c (.v (.int .i64 b.size))]⟩
      | _, _ => none
    | .builtin .max, [x, y], _ =>
      match s.rd x, s.rd y with
      | ⟨.one, [.c (.v (.int k a))]⟩, ⟨.one, [.c (.v (.int _ b))]⟩ => some ⟨.one, [.c (.v (.int k (if b > a then b else a)))]⟩
      | _, _ => none
    | .builtin .min, [x, y], _ =>
      match s.rd x, s.rd y with
      | ⟨.one, [.c (.v (.int k a))]⟩, ⟨.one, [.c (.v (.int _ b))]⟩ => some ⟨.one, [.c (.v (.int k (if b < a then b else a)))]⟩
      | _, _ => none
    | _, _, _ => none
  | _ => none
def pureOp (P : Program) (s : S) (o : Oper) : Option T :=
  match fastOp P s o with
  | some t => some t
  | none => pureV P s o
/-- The part of a tuple. -/
def extractX : List (Bool × Nat) → List X → Nat → Option T
  | (ag, n) :: _, xs, 0 => if n ≤ xs.length then mkT ag (xs.take n) else none
  | (_, n) :: sh, xs, i + 1 => extractX sh (xs.drop n) i
  | [], _, _ => none
/-- Parts of a struct or an array laid into cells. -/
def fillX (place : Nat → Option (Nat × Nat)) : List X → List (Nat × T) → Option (List X)
  | cells, [] => some cells
  | cells, (i, v) :: rest =>
    (place i).bind fun p => if v.xs.length = p.2 ∧ p.1 + p.2 ≤ cells.length then fillX place (cells.take p.1 ++ v.xs ++ cells.drop (p.1 + p.2)) rest else none
def T.whole (v : T) : Bool :=
  match v with
  | ⟨.one, [.junk]⟩ => false
  | ⟨.one, _⟩ | ⟨.agg, _⟩ => true
  | _ => false
def zeroX (P : Program) (t : TypeId) : Option (List X) := ((P.info? t).bind (·.zero)).bind fun v => if (ofVal v).whole then some (ofVal v).xs else none
def placeT (P : Program) (t : TypeId) (i : Nat) : Option (Nat × Nat) :=
  match P.underlying t with
  | some (.struct fs) => (fs[i]?).bind fun f => (szT P f.type).map fun n => (f.offset, n)
  | some (.array _ e) => (szT P e).map fun n => (i * n, n)
  | _ => none
def intBin (op : BinOp) (k : IntKind) (a b : Int) : Option Value :=
  match op with
  | .add => some (.int k (k.wrap (a + b)))
  | .sub => some (.int k (k.wrap (a - b)))
  | .mul => some (.int k (k.wrap (a * b)))
  | .eql => some (.bool (a == b))
  | .neq => some (.bool (a != b))
  | .lss => some (.bool (decide (a < b)))
  | .leq => some (.bool (decide (a ≤ b)))
  | .gtr => some (.bool (decide (a > b)))
  | .geq => some (.bool (decide (a ≥ b)))
  | _ => none

def opR (P : Program) (s : S) (o : Oper) : Option T :=
  match o.op with
  | .move x | .assign x => some (s.rd x)
  | .pick c a b => (s.bool c).map fun t => if t then s.rd a else s.rd b
  | .nilCheck x =>
    match s.x1 x with
    | some (.ptr k off) => some ⟨.one, [.ptr k off]⟩
    | some (.ep r i off) => some ⟨.one, [.ep r i off]⟩
    | some (.fp e off) => some ⟨.one, [.fp e off]⟩
    | some (.clo b f cs) => some ⟨.one, [.clo b f cs]⟩
    | _ => none
  | .load t a => (s.x1 a).bind (loadX P s.h t)
  | .fieldAddr t x f => (fldT P t f).bind fun p => (szT P p.2).bind fun n => if n = 0 then none else (s.x1 x).bind fun x => (addOff x p.1).map fun y => ⟨.one, [y]⟩
  | .field t x f => (fldT P t f).bind fun p =>
    match s.rd x with
    | ⟨.agg, xs⟩ => partT P p.2 xs p.1
    | _ => none
  | .indexAddr t x i => (s.int i).bind fun p => (s.x1 x).bind fun x => (indexAddrX P s.h t x p.2).map fun y => ⟨.one, [y]⟩
  | .extract x i =>
    match s.rd x with
    | ⟨.tup sh, xs⟩ => extractX sh xs i
    | _ => none
  | .build t parts =>
    match P.underlying t with
    | some (.struct fs) => if !fs.toList.all (fun f => (szT P f.type).isSome) then none else
      if parts.toList.all (fun p => (s.rd p.2).whole) then (zeroX P t).bind fun z => (fillX (placeT P t) z (parts.toList.map fun p => (p.1, s.rd p.2))).map fun xs => ⟨.agg, xs⟩ else none
    | some (.array _ e) => if (szT P e).isNone then none else
      if parts.toList.all (fun p => (s.rd p.2).whole) then (zeroX P t).bind fun z => (fillX (placeT P t) z (parts.toList.map fun p => (p.1, s.rd p.2))).map fun xs => ⟨.agg, xs⟩ else none
    | _ => none
  | .slice t x lo hi none =>
    match elemT P t with
    | some e => (s.x1 x).bind fun x => (optInt s lo).bind fun l => (optInt s hi).bind fun u => (s.h.view x).bind fun p =>
      if (szT P e).any (fun sz => szOk sz p.1) then (sliceX s.h x l u).map fun y => ⟨.one, [y]⟩ else none
    | none => pureOp P s o
  | .convert src dst x =>
    match P.underlying src, P.underlying dst with
    | some (.slice e), some .string =>
      match P.underlying e with
      | some (.int .u8) => (s.x1 x).bind fun x => (s.h.view x).bind fun p => (bytesOf p.2).map fun bs => ⟨.one, [.c (.v (.string ⟨bs.toArray⟩))]⟩
      | _ => none
    | _, _ => pureOp P s o
  | .call c =>
    match c.callee with
    | .builtin .len =>
      match c.args.toList, c.argTypes.toList with
      | [x], [t] =>
        match P.underlying t with
        | some (.slice _) => (s.x1 x).bind fun x => (s.h.view x).map fun p => ⟨.one, [.c (.v (.int .i64 p.2.length))]⟩
        | _ => pureOp P s o
      | _, _ => none
    | .builtin .max | .builtin .min => pureOp P s o
    | _ => none
  | .makeFunc fn first caps =>
    match fn, first.toList with
    | .func f, [] => (caps.toList.mapM s.capBox).map fun ks => ⟨.one, [.clo false f ks]⟩
    | .func f, fs => if caps.toList.isEmpty then (fs.mapM s.capBox).map fun ks => ⟨.one, [.clo true f ks]⟩ else none
    | _, _ => none
  | .index t x i =>
    match P.underlying t, s.rd x with
    | some (.array len e), ⟨.agg, xs⟩ => (s.int i).bind fun p => (szT P e).bind fun sz => if 0 ≤ p.2 ∧ p.2 < len then partT P e xs (p.2.toNat * sz) else none
    | _, _ => pureOp P s o
  | .binOp op t x y _ =>
    match s.rd x, s.rd y with
    | ⟨.one, [.ptr _ _]⟩, ⟨.one, [.c (.v (.pointer none))]⟩ =>
      match P.underlying t, op with
      | some (.pointer _), .eql => some ⟨.one, [.c (.v (.bool false))]⟩
      | some (.pointer _), .neq => some ⟨.one, [.c (.v (.bool true))]⟩
      | _, _ => none
    | ⟨.one, [.c (.v (.int k a))]⟩, ⟨.one, [.c (.v (.int k' b))]⟩ =>
      match (if k = k' then intBin op k a b else none) with
      | some v => some ⟨.one, [.c (.v v)]⟩
      | none => pureOp P s o
    | ⟨.one, [.c (.v (.string a))]⟩, ⟨.one, [.c (.v (.string b))]⟩ =>
      match op with
      | .eql => some ⟨.one, [.c (.v (.bool (a.toList == b.toList)))]⟩
      | .neq => some ⟨.one, [.c (.v (.bool !(a.toList == b.toList)))]⟩
      | .add => if (a.size : Int) + (b.size : Int) ≤ 9223372036854775807 then some ⟨.one, [.c (.v (.string (a ++ b)))]⟩ else none
      | _ => pureOp P s o
    | _, _ => pureOp P s o
  | .unOp op _ x =>
    match op, s.rd x with
    | .not, ⟨.one, [.c (.v (.bool b))]⟩ => some ⟨.one, [.c (.v (.bool !b))]⟩
    | _, _ => pureOp P s o
  | _ => none
end Go.Proofs.YtkdnbnkbnegckaaGreatDoor
