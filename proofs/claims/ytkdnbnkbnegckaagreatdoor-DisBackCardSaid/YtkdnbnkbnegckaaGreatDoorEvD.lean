/- The second machine: operations that turn the heap, calls, regions, code. -/
import Derived.Test.YtkdnbnkbnegckaaGreatDoorEvC2
namespace Go.Proofs.YtkdnbnkbnegckaaGreatDoor
open Go.RowKit

/-! Freezing: a slice of one's own becomes a value -/
def Hp.freeze (h : Hp) : X → Option (C × Hp)
  | .c d => some (d, h)
  | .own r off n => (h.row r).bind fun p => if off + n ≤ p.2.length then some (.fz p.1 ((p.2.drop off).take n), ⟨h.bx, h.rw.set r (.fro p.1 p.2)⟩) else none
  | _ => none
def Hp.freezeL (h : Hp) : List X → Option (List C × Hp)
  | [] => some ([], h)
  | x :: xs => (h.freeze x).bind fun p => (p.2.freezeL xs).map fun q => (p.1 :: q.1, q.2)

def storeX (P : Program) (h : Hp) (t : TypeId) (x : X) (v : T) : Option Hp :=
  if v.whole then
    (szT P t).bind fun n => if v.xs.length = n then
      match x with
      | .ptr k off => (h.bx[k]?).bind fun xs => if off + n ≤ xs.length then some ⟨h.bx.set k (xs.take off ++ v.xs ++ xs.drop (off + n)), h.rw⟩ else none
      | .ep r i off => (h.freezeL v.xs).bind fun q =>
        match q.2.rw[r]? with
        | some (.mu ty sz es) => (es[i]?).bind fun e => if off + n ≤ e.length then some ⟨q.2.bx, q.2.rw.set r (.mu ty sz (es.set i (e.take off ++ q.1 ++ e.drop (off + n))))⟩ else none
        | _ => none
      | _ => none
    else none
  else none

def encB (bs : List UInt8) : List (List C) := bs.map fun b => [.v (.int .u8 b.toNat)]
def elemI (P : Program) (e : TypeId) : Option (Nat × Nat) :=
  (P.info? e).bind fun i => i.zero.bind fun z => if z.cells.size = i.size ∧ 0 < i.size then some (i.size, i.bytes) else none
/-- What is appended. -/
def srcX (P : Program) (s : S) (t : TypeId) (y : Operand) (sz : Nat) : Option (List (List C)) :=
  match P.underlying t with
  | some (.slice _) => (s.x1 y).bind fun x => (s.h.view x).bind fun p => if szOk sz p.1 then some p.2 else none
  | some .string =>
    match s.rd y with
    | ⟨.one, [.c (.v (.string b))]⟩ => if sz = 1 then some (encB b.data.toList) else none
    | _ => none
  | _ => none
def dstX (h : Hp) (e sz : Nat) : X → Option (Option Nat × List (List C))
  | .c (.v (.slice none 0 0)) => some (none, [])
  | .own r 0 n =>
    match h.rw[r]? with
    | some (.mu ty sz' es) => if ty = e ∧ sz' = sz ∧ n = es.length then some (some r, es) else none
    | _ => none
  | _ => none
def kill (rw : List Row) : Option Nat → List Row
  | none => rw
  | some r => rw.set r .dead
def strT (P : Program) (t : TypeId) : Bool :=
  match P.underlying t with
  | some .string => true
  | _ => false
def appendX (P : Program) (s : S) (t t' : TypeId) (x y : Operand) : Option (T × Hp) :=
  (elemT P t).bind fun e => (elemI P e).bind fun i => (srcX P s t' y i.1).bind fun news => (s.x1 x).bind fun x => (dstX s.h e i.1 x).bind fun p =>
    if (t' = t ∨ strT P t' = true ∧ i.2 = 1) ∧ p.2.length + news.length ≤ maxLen ∧ (p.2.length + news.length) * i.2 ≤ 140737488355328 then
      some (⟨.one, [.own s.h.rw.length 0 (p.2.length + news.length)]⟩, ⟨s.h.bx, kill s.h.rw p.1 ++ [.mu e i.1 (p.2 ++ news)]⟩)
    else none

def fillRows (s : S) (sz : Nat) : Hp → List (List C) → List (Nat × Operand) → Option (List (List C) × Hp)
  | h, es, [] => some (es, h)
  | h, es, (i, o) :: ps =>
    let v := s.rd o
    if v.whole ∧ v.xs.length = sz ∧ i < es.length then (h.freezeL v.xs).bind fun q => fillRows s sz q.2 (es.set i q.1) ps else none
def buildSliceX (P : Program) (s : S) (t : TypeId) (len : Nat) (parts : List (Nat × Operand)) : Option (T × Hp) :=
  (elemT P t).bind fun e => (szT P e).bind fun sz => (zeroX P e).bind fun z => (z.mapM X.cl).bind fun zc =>
    if zc.length = sz ∧ 0 < sz ∧ len * sz ≤ 16777216 then
      (fillRows s sz s.h (List.replicate len zc) parts).map fun q => (⟨.one, [.own q.2.rw.length 0 len]⟩, ⟨q.2.bx, q.2.rw ++ [.mu e sz q.1]⟩)
    else none

/-! Compaction: rows that nothing holds go, the others are numbered in order -/
def X.ren (f g : Nat → Nat) : X → X
  | .own r off n => .own (f r) off n
  | .ep r i off => .ep (f r) i off
  | .ptr k off => .ptr (g k) off
  | .clo bd fn ks => .clo bd fn (ks.map g)
  | x => x
def T.ren (f g : Nat → Nat) (t : T) : T := ⟨t.k, t.xs.map (X.ren f g)⟩
def X.rows : X → List Nat
  | .own r _ _ | .ep r _ _ => [r]
  | _ => []
def X.ptrs : X → List Nat
  | .ptr k _ => [k]
  | .clo _ _ ks => ks
  | _ => []
def dedup (nr : Nat) : List Nat → List Nat → List Nat
  | [], acc => acc
  | r :: rs, acc => dedup nr rs (if r < nr ∨ acc.contains r then acc else acc ++ [r])
def renTo (nr : Nat) (ids : List Nat) (r : Nat) : Nat := if r < nr then r else nr + ids.idxOf r
/-- The boxes from nb on go, if nothing points there; the rows from nr on that nothing holds. -/
def compact (nb nr : Nat) (ts : List T) (h : Hp) : List T × Hp :=
  let nb' := if (ts.flatMap (·.xs) ++ (h.bx.take nb).flatten).all fun x => x.ptrs.all (· < nb) then nb else h.bx.length
  let ids := dedup nr ((ts.flatMap (·.xs) ++ (h.bx.take nb').flatten).flatMap X.rows) []
  let f := renTo nr ids
  (ts.map (T.ren f id), ⟨(h.bx.take nb').map (·.map (X.ren f id)), h.rw.take nr ++ ids.map fun r => h.rw.getD r .dead⟩)

/-! Calls -/
abbrev CallFn := FuncId → List T → Hp → Option (T × Hp)
/-- What is known of a function beside its code: which arguments it may append to; at a loop (by its first region) which slots are wanted from round to round, and which slices grow there. -/
structure Ann where
  mv : FuncId → List Nat
  keep : FuncId → Nat → List Nat
  post : FuncId → Nat → List Nat
  acc : FuncId → Nat → List (Nat × Option Nat × TypeId)
  base : CallFn
  wk : FuncId → List (Nat × Nat × Nat)
  out : FuncId → List (Nat × Nat × Nat)
  join : FuncId → Nat → Bool
  weak : FuncId → Nat → List (Bool × Nat × Nat × Nat)

def closeB (bx : List (List X)) : Nat → List Nat → List Nat → List Nat
  | 0, _, done => done
  | _ + 1, [], done => done
  | n + 1, k :: todo, done => if done.contains k then closeB bx n todo done else closeB bx n (((bx.getD k []).flatMap X.ptrs) ++ todo) (done ++ [k])
/-- An argument as the callee sees it: rows that go along keep their number, others are seen as values. -/
def argX (h : Hp) (ks rs : List Nat) : X → Option X
  | .c d => some (.c d)
  | .own r off n => if rs.contains r then some (.own (rs.idxOf r) off n) else
      (h.row r).bind fun p => if off + n ≤ p.2.length then some (.c (.fz p.1 ((p.2.drop off).take n))) else none
  | .ptr k off => if ks.contains k then some (.ptr (ks.idxOf k) off) else none
  | .clo bd f cs => if cs.all ks.contains then some (.clo bd f (cs.map ks.idxOf)) else none
  | .junk => some .junk
  | _ => none
def argT (h : Hp) (ks rs : List Nat) (t : T) : Option T := (t.xs.mapM (argX h ks rs)).map fun xs => ⟨t.k, xs⟩
def boxX (ks rs : List Nat) (x : X) : Option X :=
  match x with
  | .own r off n => if rs.contains r then some (.own (rs.idxOf r) off n) else none
  | .ep _ _ _ => none
  | .fp _ _ => none
  | .ptr k off => if ks.contains k then some (.ptr (ks.idxOf k) off) else none
  | .clo bd f cs => if cs.all ks.contains then some (.clo bd f (cs.map ks.idxOf)) else none
  | x => some x
def setMany {α : Type} : List α → List Nat → List α → List α
  | l, i :: is, x :: xs => setMany (l.set i x) is xs
  | l, _, _ => l
def backTo (n : Nat) (ks : List Nat) (i : Nat) : Nat := (ks[i]?).getD (n + (i - ks.length))
def X.plain : X → Bool
  | .c (.v _) => true
  | _ => false
def Row.frz : Row → Row
  | .mu _ sz es => .fro sz es
  | x => x
def freezeRows : List Row → List Nat → List Row
  | rw, [] => rw
  | rw, r :: rs => freezeRows (rw.modify r Row.frz) rs
/-- Arguments that the callee may append to: nil becomes an empty row. -/
def adopt1 (P : Program) (h : Hp) (t : TypeId) (v : T) : Option (T × Hp × List Nat) :=
  match v with
  | ⟨.one, [.c (.v (.slice none 0 0))]⟩ => (elemT P t).bind fun e => (elemI P e).map fun i => (⟨.one, [.own h.rw.length 0 0]⟩, ⟨h.bx, h.rw ++ [.mu e i.1 []]⟩, [h.rw.length])
  | ⟨.one, [.own r off n]⟩ => some (⟨.one, [.own r off n]⟩, h, [r])
  | v => some (v, h, [])
def adopt (P : Program) (mv : List Nat) : Nat → List TypeId → List T → Hp → Option (List T × Hp × List Nat)
  | j, t :: tys, v :: vs, h =>
    if mv.contains j then (adopt1 P h t v).bind fun p => (adopt P mv (j + 1) tys vs p.2.1).map fun q => (p.1 :: q.1, q.2.1, p.2.2 ++ q.2.2)
    else (adopt P mv (j + 1) tys vs h).map fun q => (v :: q.1, q.2.1, q.2.2)
  | _, _, vs, h => some (vs, h, [])
def ksOf (h : Hp) (vs : List T) : List Nat := closeB h.bx (vs.length + 2 * h.bx.length + 40) (vs.flatMap fun v => v.xs.flatMap X.ptrs) []
def rsOf (h : Hp) (ks mr : List Nat) : List Nat := dedup 0 (mr ++ ks.flatMap fun k => (h.bx.getD k []).flatMap X.rows) []
def callMods (P : Program) (A : Ann) (f : FuncId) (tys : List TypeId) (vs0 : List T) (h0 : Hp) : List Nat × List Nat :=
  match adopt P (A.mv f) 0 tys vs0 h0 with
  | some p => (ksOf p.2.1 p.1, rsOf p.2.1 (ksOf p.2.1 p.1) p.2.2)
  | none => ([], [])
def callX (K : CallFn) (P : Program) (A : Ann) (f : FuncId) (tys : List TypeId) (vs0 : List T) (h0 : Hp) : Option (T × Hp) :=
  (adopt P (A.mv f) 0 tys vs0 h0).bind fun p =>
    let vs := p.1
    let h := p.2.1
    let ks := ksOf h vs
    let rs := rsOf h ks p.2.2
    (vs.mapM (argT h ks rs)).bind fun args => (ks.mapM fun k => (h.bx[k]?).bind fun xs => xs.mapM (boxX ks rs)).bind fun bx => (rs.mapM fun r => h.rw[r]?).bind fun rw =>
      (K f args ⟨bx, rw⟩).map fun q =>
        if ks.isEmpty && rs.isEmpty && q.1.xs.all X.plain then (q.1, h) else
          let fr := backTo h.rw.length rs
          let gk := backTo h.bx.length ks
          let rw1 := freezeRows h.rw (((vs.flatMap (·.xs)).flatMap X.rows).filter fun r => !rs.contains r)
          (q.1.ren fr gk, ⟨setMany h.bx ks ((q.2.bx.take ks.length).map (·.map (X.ren fr gk))) ++ (q.2.bx.drop ks.length).map (·.map (X.ren fr gk)), setMany rw1 rs (q.2.rw.take rs.length) ++ q.2.rw.drop rs.length⟩)

/-! One operation -/
def undefT : T := ⟨.tup [], []⟩
def evOp (K : CallFn) (P : Program) (A : Ann) (s : S) (o : Oper) : Option (T × Hp) :=
  match o.op with
  | .alloc t => (zeroX P t).map fun z => (⟨.one, [.ptr s.h.bx.length 0]⟩, ⟨s.h.bx ++ [z], s.h.rw⟩)
  | .box _ x => if (s.rd x).whole then some (⟨.one, [.ptr s.h.bx.length 0]⟩, ⟨s.h.bx ++ [(s.rd x).xs], s.h.rw⟩) else none
  | .store t a x => (s.x1 a).bind fun y => (storeX P s.h t y (s.rd x)).map fun h => (undefT, h)
  | .buildSlice t len parts => buildSliceX P s t len parts.toList
  | .convert src dst x =>
    match P.underlying src, P.underlying dst with
    | some .string, some (.slice e) =>
      match P.underlying e, s.rd x with
      | some (.int .u8), ⟨.one, [.c (.v (.string b))]⟩ => some (⟨.one, [.c (.fz 1 (encB b.data.toList))]⟩, s.h)
      | _, _ => none
    | _, _ => (opR P s o).map fun v => (v, s.h)
  | .call c =>
    match c.callee with
    | .builtin .append =>
      match c.args.toList, c.argTypes.toList with
      | [x, y], [t, t'] => appendX P s t t' x y
      | _, _ => none
    | .value f =>
      match s.x1 f with
      | some (.clo _ f []) => callX K P A f c.argTypes.toList (c.args.toList.map s.rd) s.h
      | some (.clo false f ks) => callX K P A f c.argTypes.toList (c.args.toList.map s.rd ++ ks.map fun k => ⟨.one, [.ptr k 0]⟩) s.h
      | some (.clo true f ks) => callX K P A f (List.replicate ks.length 0 ++ c.argTypes.toList) ((ks.map fun k => ⟨.one, [.ptr k 0]⟩) ++ c.args.toList.map s.rd) s.h
      | _ => none
    | _ => (opR P s o).map fun v => (v, s.h)
  | _ => (opR P s o).map fun v => (v, s.h)

def S.put (s : S) (d : Option Tmp) (v : T) : S :=
  match d with
  | some d => ⟨s.env.set d v, s.h⟩
  | none => s
def guardX (ops : Array Oper) (s : S) (o : Oper) : Option Bool :=
  match o.guard with
  | none => some true
  | some (j, want) =>
    match (ops[j]?).bind (·.dst) with
    | none => some false
    | some d =>
      match s.env[d]? with
      | some ⟨.one, [.c (.v (.bool b))]⟩ => some (b == want)
      | some ⟨.tup [], []⟩ => some false
      | _ => none
def evOps (K : CallFn) (P : Program) (A : Ann) (ops : Array Oper) : List Oper → S → Option S
  | [], s => some s
  | o :: os, s =>
    match guardX ops s o with
    | some true => (evOp K P A s o).bind fun p => evOps K P A ops os (S.put ⟨s.env, p.2⟩ o.dst p.1)
    | some false => evOps K P A ops os (s.put o.dst undefT)
    | none => none

/-! A region that draws: a plan says which operation is taken ahead of its turn, and which comes up alone -/
def afterB (ops : Array Oper) (j i : Nat) : Bool := (ops[j]?).any fun o => o.after.any fun e => Region.binds .any e && e.on == i
def modRow (s : S) (x : Operand) : List Nat := (s.x1 x).elim [] X.rows
def modsX (P : Program) (A : Ann) (s : S) (o : Oper) : List Nat × List Nat :=
  match o.op with
  | .store _ a _ => (s.x1 a).elim ([], []) depsX
  | .call c =>
    match c.callee with
    | .builtin .append =>
      match c.args.toList with
      | x :: _ => ([], modRow s x)
      | _ => ([], [])
    | .value f =>
      match s.x1 f with
      | some (.clo _ f []) => callMods P A f c.argTypes.toList (c.args.toList.map s.rd) s.h
      | some (.clo false f ks) => callMods P A f c.argTypes.toList (c.args.toList.map s.rd ++ ks.map fun k => ⟨.one, [.ptr k 0]⟩) s.h
      | some (.clo true f ks) => callMods P A f (List.replicate ks.length 0 ++ c.argTypes.toList) ((ks.map fun k => ⟨.one, [.ptr k 0]⟩) ++ c.args.toList.map s.rd) s.h
      | _ => ([], [])
    | _ => ([], [])
  | _ => ([], [])
def apartD (a b : List Nat × List Nat) : Bool := a.1.all (fun k => !b.1.contains k) && a.2.all (fun k => !b.2.contains k)
/-- A text's bytes. -/
def strBy (P : Program) (src dst : TypeId) : Bool :=
  match P.underlying src, P.underlying dst with
  | some .string, some (.slice e) => (match P.underlying e with | some (.int .u8) => true | _ => false)
  | _, _ => false
/-- Two operations that may come in either order: a call, and the making of a text's bytes. -/
def pairOk (P : Program) (ops : Array Oper) (i j : Nat) : Bool :=
  match ops[i]?, ops[j]? with
  | some ⟨some di, .call ⟨.value (.func _), ar, _⟩, _, _, _, none⟩, some ⟨some dj, .convert src dst (.tmp x), _, _, _, none⟩ =>
    di != dj && di != x && (ar.toList.all fun a => match a with | .tmp t => t != dj | _ => true) && strBy P src dst
  | _, _ => false
def planOk (P : Program) (ops : Array Oper) : List (Nat × Bool) → Array Bool → Bool
  | [], listed => (Region.ready .any ops listed).isEmpty
  | (i, true) :: pl, listed => (Region.ready .any ops listed).contains i && Region.free .any ops listed i && planOk P ops pl (listed.setIfInBounds i true)
  | (i, false) :: pl, listed => (decide (Region.ready .any ops listed = [i]) || (match pl with
    | (j, false) :: _ => decide (Region.ready .any ops listed = [i, j]) && pairOk P ops i j && decide (Region.ready .any ops (listed.setIfInBounds j true) = [i])
    | _ => false)) && planOk P ops pl (listed.setIfInBounds i true)
def evPlan (K : CallFn) (P : Program) (A : Ann) (ops : Array Oper) : List (Nat × Bool) → List (Nat × (List Nat × List Nat)) → S → Option S
  | [], _, s => some s
  | (i, tk) :: pl, pend, s => (ops[i]?).bind fun o =>
    match guardX ops s o with
    | none => none
    | some false => evPlan K P A ops pl (if tk then (i, ([], [])) :: pend else pend.filter fun q => !afterB ops i q.1) (s.put o.dst undefT)
    | some true =>
      if tk then (opR P s o).bind fun v => evPlan K P A ops pl ((i, deps s o) :: pend) (s.put o.dst v)
      else
        let pend' := pend.filter fun q => !afterB ops i q.1
        if pend'.all fun q => apartD q.2 (modsX P A s o) then (evOp K P A s o).bind fun p => evPlan K P A ops pl pend' (S.put ⟨s.env, p.2⟩ o.dst p.1) else none

/-! Code -/
inductive Out where
  | normal | exit (id : Nat) | ret

def Code.key : Code → Nat
  | .region id _ _ => id
  | .seq a _ => Code.key a
  | .block _ b | .loop b | .scope b => Code.key b
  | _ => 0
/-- The first, and the last, region of a code (0: none). -/
def Code.fst : Code → Nat
  | .region id _ _ => id + 1
  | .seq a b | .cond _ a b => if Code.fst a = 0 then Code.fst b else Code.fst a
  | .block _ b | .loop b | .scope b => Code.fst b
  | _ => 0
def Code.lst : Code → Nat
  | .region id _ _ => id + 1
  | .seq a b | .cond _ a b => if Code.lst b = 0 then Code.lst a else Code.lst b
  | .block _ b | .loop b | .scope b => Code.lst b
  | _ => 0
def jk (a b : Code) : Nat := 1000000 + Code.lst a * 4096 + Code.fst b
def maskE (keep : List Nat) : Nat → List T → List T
  | _, [] => []
  | i, x :: xs => (if keep.contains i then x else junkT) :: maskE keep (i + 1) xs
/-- A row that came in gets a number of its own, wherever it is held. -/
def mvF (n r : Nat) (x : Nat) : Nat := if x = r then n else x
def S.moveRow (s : S) (r : Nat) : S := ⟨s.env.map (T.ren (mvF s.h.rw.length r) id), ⟨s.h.bx.map (·.map (X.ren (mvF s.h.rw.length r) id)), s.h.rw.set r .dead ++ [s.h.rw.getD r .dead]⟩⟩
/-- A slice that is nil ahead of a loop in which it grows becomes an empty row: in a slot, or in a box that a slot points to. -/
def adoptE (P : Program) (nr : Nat) : List (Nat × Option Nat × TypeId) → S → Option S
  | [], s => some s
  | (t, none, ty) :: l, s =>
    match s.env[t]? with
    | some ⟨.one, [.c (.v (.slice none 0 0))]⟩ => (elemT P ty).bind fun e => (szT P e).bind fun sz => adoptE P nr l ⟨s.env.set t ⟨.one, [.own s.h.rw.length 0 0]⟩, ⟨s.h.bx, s.h.rw ++ [.mu e sz []]⟩⟩
    | some ⟨.one, [.own r 0 _]⟩ => if r < nr ∧ r < s.h.rw.length then adoptE P nr l (s.moveRow r) else adoptE P nr l s
    | _ => adoptE P nr l s
  | (t, some off, ty) :: l, s =>
    match s.env[t]? with
    | some ⟨.one, [.ptr k 0]⟩ =>
      match (s.h.bx[k]?).bind fun xs => (xs[off]?).map fun x => (xs, x) with
      | some (xs, .c (.v (.slice none 0 0))) => (elemT P ty).bind fun e => (szT P e).bind fun sz => adoptE P nr l ⟨s.env, ⟨s.h.bx.set k (xs.set off (.own s.h.rw.length 0 0)), s.h.rw ++ [.mu e sz []]⟩⟩
      | some (_, .own r 0 _) => if r < nr ∧ r < s.h.rw.length then adoptE P nr l (s.moveRow r) else adoptE P nr l s
      | _ => adoptE P nr l s
    | _ => adoptE P nr l s

/-! A slice that is nil is seen as one without elements: in a slot, or in a box -/
def wkX (sz : Nat) : X → X
  | .c (.v (.slice none 0 0)) => .c (.fz sz [])
  | x => x
def wkT (i sz : Nat) (t : T) : T :=
  match t.k with
  | .tup _ => t
  | k => ⟨k, t.xs.modify i (wkX sz)⟩
def wkE : List (Bool × Nat × Nat × Nat) → S → S
  | [], s => s
  | (false, t, i, sz) :: l, s => wkE l ⟨s.env.modify t (wkT i sz), s.h⟩
  | (true, k, i, sz) :: l, s => wkE l ⟨s.env, ⟨s.h.bx.modify k (·.modify i (wkX sz)), s.h.rw⟩⟩

structure Cx where
  P : Program
  A : Ann
  f : FuncId
  nr : Nat

/-- What a loop's round begins with: the slots that are wanted, the heap in order. -/
def norm (cx : Cx) (nb key : Nat) (s : S) : Option S :=
  (adoptE cx.P cx.nr (cx.A.acc cx.f key) s).map fun s =>
    let s := wkE (cx.A.weak cx.f key) s
    let p := compact nb cx.nr (maskE (cx.A.keep cx.f key) 0 s.env) s.h
    ⟨p.1, p.2⟩
/-- Ways that come together: the state in order. -/
def joinS (cx : Cx) (nb key : Nat) (s : S) : Option S := if cx.A.join cx.f key then norm cx nb key s else some s

inductive Task where
  | code (c : Code)
  | round (nb : Nat) (c : Code)

/-- The plans are such as may be followed. -/
def codeOk (P : Program) (plan : Nat → List (Nat × Bool)) : Code → Bool
  | .region id ops draw => !draw || (plan id).isEmpty || (planOk P ops (plan id) (Array.replicate ops.size false) && Region.noSelect ops && (plan id).length == ops.size)
  | .seq a b => codeOk P plan a && codeOk P plan b
  | .cond _ a b => codeOk P plan a && codeOk P plan b
  | .block _ b | .loop b | .scope b => codeOk P plan b
  | _ => true
def Task.ok (P : Program) (plan : Nat → List (Nat × Bool)) : Task → Bool
  | .code c | .round _ c => codeOk P plan c

def run (K : CallFn) (cx : Cx) (plan : Nat → List (Nat × Bool)) : Nat → Task → S → Option (Out × S)
  | 0, _, _ => none
  | n + 1, .code c, s =>
    match c with
    | .skip | .label _ => some (.normal, s)
    | .region id ops draw =>
      if draw then
        match plan id with
        | [] => none
        | pl => (evPlan K cx.P cx.A ops pl [] s).map fun s => (.normal, s)
      else (evOps K cx.P cx.A ops ops.toList s).map fun s => (.normal, s)
    | .seq a b =>
      match run K cx plan n (.code a) s with
      | some (.normal, s1) => (joinS cx s.h.bx.length (jk a b) s1).bind fun s => run K cx plan n (.code b) s
      | r => r
    | .cond o a b => (s.bool o).bind fun t => run K cx plan n (.code (if t then a else b)) s
    | .block id b =>
      match run K cx plan n (.code b) s with
      | some (.exit i, s) => if i = id then some (.normal, s) else some (.exit i, s)
      | r => r
    | .loop b => (run K cx plan n (.round s.h.bx.length b) s).map fun r =>
      let p := compact s.h.bx.length cx.nr (maskE (cx.A.post cx.f (Code.key b)) 0 r.2.env) r.2.h
      (r.1, ⟨p.1, p.2⟩)
    | .scope b => run K cx plan n (.code b) s
    | .exit id => some (.exit id, s)
    | .ret => some (.ret, s)
    | _ => none
  | n + 1, .round nb b, s => (norm cx nb (Code.key b) s).bind fun s =>
    match run K cx plan n (.code b) s with
    | some (.normal, s) => run K cx plan n (.round nb b) s
    | r => r

def resT (P : Program) (s : S) : ResultVar → Option T
  | .tmp t => some (s.rd (.tmp t))
  | .cell a t => (s.x1 (.tmp a)).bind (loadX P s.h t)
def kdSh (v : T) : Option (Bool × Nat) :=
  match v with
  | ⟨.one, xs⟩ => some (false, xs.length)
  | ⟨.agg, xs⟩ => some (true, xs.length)
  | _ => none
def joinT (vs : List T) : Option T :=
  match vs with
  | [v] => some v
  | vs => (vs.mapM kdSh).map fun sh => ⟨.tup sh, vs.flatMap (·.xs)⟩
/-! A slice that is nil is seen as one without elements; a result's rows turn no more -/
def wkL : List (Nat × Nat × Nat) → List T → List T
  | [], ts => ts
  | (j, i, sz) :: cs, ts => wkL cs (ts.modify j (wkT i sz))
def coerX (sz : Nat) (x : X) (h : Hp) : Option (X × Hp) :=
  match x with
  | .c (.v (.slice none 0 0)) => some (.c (.fz sz []), h)
  | .own r off n => (h.freeze (.own r off n)).map fun p => (.c p.1, p.2)
  | x => some (x, h)
def lookC : List (Nat × Nat × Nat) → Nat → Nat → Option Nat
  | [], _, _ => none
  | (j, i, sz) :: cs, j', i' => if j == j' && i == i' then some sz else lookC cs j' i'
def coerXs (cs : List (Nat × Nat × Nat)) (j : Nat) : Nat → List X → Hp → Option (List X × Hp)
  | _, [], h => some ([], h)
  | i, x :: xs, h =>
    match lookC cs j i with
    | none => (coerXs cs j (i + 1) xs h).map fun q => (x :: q.1, q.2)
    | some sz => (coerX sz x h).bind fun p => (coerXs cs j (i + 1) xs p.2).map fun q => (p.1 :: q.1, q.2)
def coerTs (cs : List (Nat × Nat × Nat)) : Nat → List T → Hp → Option (List T × Hp)
  | _, [], h => some ([], h)
  | j, t :: ts, h =>
    match t.k with
    | .tup _ => none
    | k => (coerXs cs j 0 t.xs h).bind fun p => (coerTs cs (j + 1) ts p.2).map fun q => (⟨k, p.1⟩ :: q.1, q.2)
def leave (P : Program) (cs : List (Nat × Nat × Nat)) (fn : Func) (nb nr : Nat) (s : S) : Option (T × Hp) :=
  (fn.results.toList.mapM (resT P s)).bind fun vs => (coerTs cs 0 vs s.h).bind fun q =>
    (joinT q.1).bind fun v =>
      match compact nb nr [v] q.2 with
      | ([v], h) => some (v, h)
      | _ => none
def callN (P : Program) (A : Ann) (plans : FuncId → Nat → List (Nat × Bool)) : Nat → CallFn
  | 0, _, _, _ => none
  | n + 1, f, args0, h =>
    let args := wkL (A.wk f) args0
    match A.base f args h with
    | some r => some r
    | none => (P.funcs[f]?).bind fun fn => fn.body.bind fun c =>
    if decide (args.length ≤ fn.ntmps) && !(fn.name == "runtime.NumGoroutine") then
      (run (callN P A plans n) ⟨P, A, f, h.rw.length⟩ (plans f) n (.code c) ⟨args ++ List.replicate (fn.ntmps - args.length) undefT, h⟩).bind fun r =>
        match r.1 with
        | .normal | .ret => leave P (A.out f) fn h.bx.length h.rw.length r.2
        | _ => none
    else none
/-! Tables -/
inductive BT (α : Type) where
  | o
  | n (k : Nat) (v : α) (l r : BT α)
def BT.get {α : Type} (d : α) : BT α → Nat → α
  | .o, _ => d
  | .n k v l r, i => match Nat.blt i k with
    | true => l.get d i
    | false => match Nat.beq i k with
      | true => v
      | false => r.get d i
def lookK {α : Type} (d : α) : List (Nat × α) → Nat → α
  | [], _ => d
  | (k, v) :: l, i => match Nat.beq i k with
    | true => v
    | false => lookK d l i
def look2 {α : Type} (d : α) (t : BT (List (Nat × α))) (f k : Nat) : α := lookK d (t.get [] f) k
abbrev LoopRow := List Nat × List Nat × List (Nat × Option Nat × Nat)
abbrev L3 := List (Nat × Nat × Nat)
def annOf (mv : BT (List Nat)) (lp : BT (List (Nat × LoopRow))) (base : CallFn) (wk out : BT L3) (jn : BT (List Nat)) (we : BT (List (Nat × List (Bool × Nat × Nat × Nat)))) : Ann :=
  ⟨mv.get [], fun f k => (look2 ([], [], []) lp f k).1, fun f k => (look2 ([], [], []) lp f k).2.1, fun f k => (look2 ([], [], []) lp f k).2.2, base, wk.get [], out.get [], fun f k => (jn.get [] f).contains k, look2 [] we⟩
def progOk (P : Program) (plans : FuncId → Nat → List (Nat × Bool)) : Bool :=
  P.follows .mixedOrders && P.funcs.toList.zipIdx.all fun p => match p.1.body with | some c => codeOk P (plans p.2) c | none => true
end Go.Proofs.YtkdnbnkbnegckaaGreatDoor
