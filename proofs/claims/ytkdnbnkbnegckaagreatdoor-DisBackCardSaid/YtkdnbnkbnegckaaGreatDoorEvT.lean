/- The second machine with what comes behind handed on: so that the kernel reckons a function's code, of arguments that are not known, to a plain function. -/
import Derived.Test.YtkdnbnkbnegckaaGreatDoorEvD
namespace Go.Proofs.YtkdnbnkbnegckaaGreatDoor
open Go.RowKit

/-! Typed data -/
inductive Ty where
  | int (k : IntKind) | bool | str | sl (sz : Nat) (e : Ty) | nul | pr (a b : Ty)
abbrev DI : IntKind → Type
  | .u8 => UInt8
  | _ => Int
abbrev Data : Ty → Type
  | .int k => DI k
  | .bool => Bool
  | .str => List UInt8
  | .sl _ e => List (Data e)
  | .nul => Unit
  | .pr a b => Data a × Data b
def u8I (u : UInt8) : Int := u.toNat
def encI : (k : IntKind) → DI k → Int
  | .u8, b => u8I b
  | .u16, n | .u32, n | .u64, n | .i8, n | .i16, n | .i32, n | .i64, n => n
def mapE {α : Type} (f : α → List C) (l : List α) : List (List C) := l.map f
def enc : (τ : Ty) → Data τ → List C
  | .int k, n => [.v (.int k (encI k n))]
  | .bool, b => [.v (.bool b)]
  | .str, s => [.v (.string ⟨⟨s⟩⟩)]
  | .sl sz e, l => [.fz sz (mapE (enc e) l)]
  | .nul, _ => []
  | .pr a b, p => enc a p.1 ++ enc b p.2
def encL (τ : Ty) (l : List (Data τ)) : List (List C) := mapE (enc τ) l

/-! What may end a run, or part it -/
section
variable {β α : Type}
def chk (b : Bool) (r : Option β) : Option β := match b with | true => r | false => none
def cnd (b : Bool) (x y : Option β) : Option β := match b with | true => x | false => y
def bnd (r : Option α) (k : α → Option β) : Option β := match r with | some a => k a | none => none
/-- A loop of which nothing is told yet. -/
def atLoop (_ : FuncId) (_ : Nat) (_ : S) : Option β := none
/-- Ways that come together (l), or leave (r). -/
def joinK {δ : Type} (r : Option (δ ⊕ β)) (k : δ → Option β) : Option β :=
  match r with
  | some (.inl d) => k d
  | some (.inr x) => some x
  | none => none
def leftK {δ : Type} (d : δ) : Option (δ ⊕ β) := some (.inl d)
def rightK {δ : Type} (r : Option β) : Option (δ ⊕ β) :=
  match r with
  | some x => some (.inr x)
  | none => none
def iter (f : α → (α → Option β) → Option β) : Nat → α → Option β
  | 0, _ => none
  | n + 1, a => f a (iter f n)
open Classical in
noncomputable def decK (τ : Ty) (c : List C) (k : Data τ → Option β) : Option β := if h : ∃ x, c = enc τ x then k h.choose else none
open Classical in
noncomputable def decL (τ : Ty) (es : List (List C)) (k : List (Data τ) → Option β) : Option β := if h : ∃ l, es = encL τ l then k h.choose else none
noncomputable def getE (τ : Ty) (es : List (List C)) (i : Nat) (k : Data τ → Option β) : Option β := bnd es[i]? fun c => decK τ c k
def getS (b : ByteArray) (i : Nat) (k : UInt8 → Option β) : Option β := bnd b.data[i]? k
def strK (es : List (List C)) (k : ByteArray → Option β) : Option β := bnd (bytesOf es) fun l => k ⟨l.toArray⟩
end

/-! Formulas for what is not known -/
def vlen (es : List (List C)) : Int := ((es.length : Nat) : Int)
def vcut (es : List (List C)) (a b : Nat) : List (List C) := (es.drop a).take b
def vapp (a b : List (List C)) : List (List C) := a ++ b
def vset (es : List (List C)) (i : Nat) (c : List C) : List (List C) := es.set i c
def vnum (es : List (List C)) : Nat := es.length
def slen (b : ByteArray) : Int := ((b.size : Nat) : Int)
def seq2 (a b : ByteArray) : Bool := a.toList == b.toList
def lapp (a b : List UInt8) : List UInt8 := a ++ b
def encS (b : ByteArray) : List (List C) := encB b.data.toList
open Classical in
noncomputable def eqES (a b : List (List C)) : Bool := decide (a = b)
open Classical in
noncomputable def eqBA (a b : ByteArray) : Bool := decide (a = b)
def leN (a b : Nat) : Bool := decide (a ≤ b)
def ltN (a b : Nat) : Bool := decide (a < b)
def eqN (a b : Nat) : Bool := decide (a = b)
def leI (a b : Int) : Bool := decide (a ≤ b)
def ltI (a b : Int) : Bool := decide (a < b)
def eqI (a b : Int) : Bool := a == b
def eqB (a b : Bool) : Bool := a == b
def eqL (a b : List Int) : Bool := decide (a = b)
def wrp (k : IntKind) (n : Int) : Int := k.wrap n
def natI (n : Int) : Nat := n.toNat
def addN (a b : Nat) : Nat := a + b
def subN (a b : Int) : Nat := (a - b).toNat
def shlI (k : IntKind) (a b : Int) : Int := a * 2 ^ min b.toNat k.bits
def shrI (k : IntKind) (a b : Int) : Int := a.fdiv (2 ^ min b.toNat k.bits)
def maxI (a b : Int) : Int := if b > a then b else a
def minI (a b : Int) : Int := if b < a then b else a
def inU8 (n : Int) : Bool := decide (0 ≤ n ∧ n < 256)
def toU8 (n : Int) : UInt8 := UInt8.ofNat n.toNat
def addI (a b : Int) : Int := a + b
def subI (a b : Int) : Int := a - b
def mulI (a b : Int) : Int := a * b
def quoI (a b : Int) : Int := a.tdiv b
def remI (a b : Int) : Int := a.tmod b
def negI (a : Int) : Int := 0 - a
def bitI (op : BinOp) (k : IntKind) (a b : Int) : Int := bits op k a b
def notB (b : Bool) : Bool := !b

/-! What is there is brought to its form: the kernel reckons it once. It changes nothing. -/
section
variable {ρ : Type}
def lits : List Nat := [0, 1, 2, 3, 4, 5, 6, 7, 8, 9, 10, 11, 12, 13, 14, 15, 16, 17, 18, 19, 20, 21, 22, 23, 24, 25, 26, 27, 28, 29, 30, 31, 32, 33, 34, 35, 36, 37, 38, 39, 40, 41, 42, 43, 44, 45, 46, 47, 48, 49, 50]
def fN : List Nat → Nat → (Nat → ρ) → ρ
  | [], n, k => k n
  | i :: is, n, k => match Nat.beq n i with
    | true => k i
    | false => fN is n k
def fL {α : Type} (f : α → (α → ρ) → ρ) : List α → (List α → ρ) → ρ
  | [], k => k []
  | x :: xs, k => f x fun x => fL f xs fun xs => k (x :: xs)
def fI (i : IntKind) (k : IntKind → ρ) : ρ :=
  match i with
  | .i8 => k .i8 | .i16 => k .i16 | .i32 => k .i32 | .i64 => k .i64 | .u8 => k .u8 | .u16 => k .u16 | .u32 => k .u32 | .u64 => k .u64
def fV (v : Value) (k : Value → ρ) : ρ :=
  match v with
  | .int i n => fI i fun i => k (.int i n)
  | .bool b => k (.bool b)
  | .string s => k (.string s)
  | .slice none 0 0 => k (.slice none 0 0)
  | v => k v
def fB (b : Bool) (k : Bool → ρ) : ρ :=
  match b with
  | true => k true
  | false => k false
def fX (x : X) (k : X → ρ) : ρ :=
  match x with
  | .c (.v v) => fV v fun v => k (.c (.v v))
  | .c (.fz sz es) => fN lits sz fun sz => k (.c (.fz sz es))
  | .own r off n => fN lits r fun r => k (.own r off n)
  | .ptr b off => fN lits b fun b => fN lits off fun off => k (.ptr b off)
  | .ep r i off => fN lits r fun r => fN lits off fun off => k (.ep r i off)
  | .fp e off => fN lits off fun off => k (.fp e off)
  | .clo b f ks => fB b fun b => fL (fN lits) ks fun ks => k (.clo b f ks)
  | .junk => k .junk
def fT (t : T) (k : T → ρ) : ρ :=
  match t with
  | ⟨.one, xs⟩ => fL fX xs fun xs => k ⟨.one, xs⟩
  | ⟨.agg, xs⟩ => fL fX xs fun xs => k ⟨.agg, xs⟩
  | ⟨.tup sh, xs⟩ => fL fX xs fun xs => k ⟨.tup sh, xs⟩
def fR (r : Row) (k : Row → ρ) : ρ :=
  match r with
  | .dead => k .dead
  | .mu ty sz es => fN lits sz fun sz => k (.mu ty sz es)
  | .fro sz es => fN lits sz fun sz => k (.fro sz es)
def fH (h : Hp) (k : Hp → ρ) : ρ :=
  match h with
  | ⟨b, r⟩ => fL (fL fX) b fun b => fL fR r fun r => k ⟨b, r⟩
def fS (s : S) (k : S → ρ) : ρ :=
  match s with
  | ⟨e, h⟩ => fL fT e fun e => fH h fun h => k ⟨e, h⟩
/-- A slot that is set. -/
def fP (s : S) (d : Option Tmp) (v : T) (k : S → ρ) : ρ :=
  match d with
  | some d => fT v fun v => fL (fun x k => k x) (s.env.set d v) fun e => fH s.h fun h => k ⟨e, h⟩
  | none => fH s.h fun h => k ⟨s.env, h⟩
def fQ (q : T × Hp) (k : T × Hp → ρ) : ρ :=
  match q with
  | (t, h) => fT t fun t => fH h fun h => k (t, h)
end

/-! Templates: a state with places for data -/
inductive PX where
  | hole (τ : Ty) | own (r : Nat) | stat (x : X) | nilp | junk | fix
inductive PRow where
  | mu (ty sz : Nat) (τ : Ty) | fro (sz : Nat) (τ : Ty) | dead | stat (r : Row) | fix
def rp (n : Nat) (x : Kd × List PX) (l : List (Kd × List PX)) : List (Kd × List PX) := List.replicate n x ++ l
structure Tpl where
  rw : List PRow
  bx : List (List PX)
  env : List (Kd × List PX)

def DX : List PX → Type → Type
  | [], R => R
  | .hole τ :: ps, R => Data τ × DX ps R
  | _ :: ps, R => DX ps R
def DR : List PRow → Type → Type
  | [], R => R
  | .mu _ _ τ :: ps, R => List (Data τ) × DR ps R
  | .fro _ τ :: ps, R => List (Data τ) × DR ps R
  | _ :: ps, R => DR ps R
def DB : List (List PX) → Type → Type
  | [], R => R
  | p :: ps, R => DX p (DB ps R)
def DE : List (Kd × List PX) → Type → Type
  | [], R => R
  | p :: ps, R => DX p.2 (DE ps R)
def DT (t : Tpl) : Type := DR t.rw (DB t.bx (DE t.env Unit))

def rowLen (rw : List Row) (r : Nat) : Nat :=
  match rw[r]? with
  | some (.mu _ _ es) => vnum es
  | some (.fro _ es) => vnum es
  | _ => 0
def holeX : (τ : Ty) → Data τ → X
  | .int k, n => .c (.v (.int k (encI k n)))
  | .bool, b => .c (.v (.bool b))
  | .str, s => .c (.v (.string ⟨⟨s⟩⟩))
  | .sl sz e, l => .c (.fz sz (encL e l))
  | _, _ => .junk
def unX (rw : List Row) {R : Type} : (ps : List PX) → DX ps R → List X × R
  | [], d => ([], d)
  | .hole τ :: ps, d => (holeX τ d.1 :: (unX rw ps d.2).1, (unX rw ps d.2).2)
  | .own r :: ps, d => (.own r 0 (rowLen rw r) :: (unX rw (R := R) ps d).1, (unX rw (R := R) ps d).2)
  | .stat x :: ps, d => (x :: (unX rw (R := R) ps d).1, (unX rw (R := R) ps d).2)
  | .nilp :: ps, d => (.c (.v (.pointer none)) :: (unX rw (R := R) ps d).1, (unX rw (R := R) ps d).2)
  | .junk :: ps, d => (.junk :: (unX rw (R := R) ps d).1, (unX rw (R := R) ps d).2)
  | .fix :: ps, d => (.junk :: (unX rw (R := R) ps d).1, (unX rw (R := R) ps d).2)
def unR {R : Type} : (ps : List PRow) → DR ps R → List Row × R
  | [], d => ([], d)
  | .mu ty sz τ :: ps, d => (.mu ty sz (encL τ d.1) :: (unR ps d.2).1, (unR ps d.2).2)
  | .fro sz τ :: ps, d => (.fro sz (encL τ d.1) :: (unR ps d.2).1, (unR ps d.2).2)
  | .dead :: ps, d => (.dead :: (unR (R := R) ps d).1, (unR (R := R) ps d).2)
  | .stat r :: ps, d => (r :: (unR (R := R) ps d).1, (unR (R := R) ps d).2)
  | .fix :: ps, d => (.dead :: (unR (R := R) ps d).1, (unR (R := R) ps d).2)
def unB (rw : List Row) {R : Type} : (ps : List (List PX)) → DB ps R → List (List X) × R
  | [], d => ([], d)
  | p :: ps, d => ((unX rw p d).1 :: (unB rw ps (unX rw p d).2).1, (unB rw ps (unX rw p d).2).2)
def unE (rw : List Row) {R : Type} : (ps : List (Kd × List PX)) → DE ps R → List T × R
  | [], d => ([], d)
  | p :: ps, d => (⟨p.1, (unX rw p.2 d).1⟩ :: (unE rw ps (unX rw p.2 d).2).1, (unE rw ps (unX rw p.2 d).2).2)
/-- The state of a template and its data. -/
def unpack (t : Tpl) (d : DT t) : S :=
  let r := unR t.rw d
  let b := unB r.1 t.bx r.2
  let e := unE r.1 t.env b.2
  ⟨e.1, ⟨b.1, r.1⟩⟩

section
variable {β : Type}
def beqK : Kd → Kd → Bool
  | .one, .one => true
  | .agg, .agg => true
  | .tup a, .tup b => a == b
  | _, _ => false
def beqK' (a b : IntKind) : Bool := decide (a = b)
def same0 : X → X → Bool
  | .ptr k off, .ptr k' off' => k == k' && off == off'
  | .clo b f cs, .clo b' f' cs' => b == b' && f == f' && cs == cs'
  | .c (.v (.slice none 0 0)), .c (.v (.slice none 0 0)) => true
  | .c (.v (.map none)), .c (.v (.map none)) => true
  | .c (.v .nilFunc), .c (.v .nilFunc) => true
  | .c (.v .nilIface), .c (.v .nilIface) => true
  | _, _ => false
noncomputable def sameX (x y : X) : Bool :=
  match x, y with
  | .c (.v (.int k n)), .c (.v (.int k' n')) => if k = k' then eqI n n' else false
  | .c (.v (.bool b)), .c (.v (.bool b')) => eqB b b'
  | .c (.v (.string b)), .c (.v (.string b')) => eqBA b b'
  | .c (.fz sz es), .c (.fz sz' es') => if sz = sz' then eqES es es' else false
  | .own r 0 n, .own r' 0 n' => if r = r' then eqN n n' else false
  | x, y => same0 x y
noncomputable def sameR (x y : Row) : Bool :=
  match x, y with
  | .mu ty sz es, .mu ty' sz' es' => if ty = ty' ∧ sz = sz' then eqES es es' else false
  | .fro sz es, .fro sz' es' => if sz = sz' then eqES es es' else false
  | _, _ => false
def decI : (k : IntKind) → Int → (DI k → Option β) → Option β
  | .u8, n, kk => chk (inU8 n) (kk (toU8 n))
  | .u16, n, kk | .u32, n, kk | .u64, n, kk | .i8, n, kk | .i16, n, kk | .i32, n, kk | .i64, n, kk => kk n
noncomputable def packH : (τ : Ty) → X → (Data τ → Option β) → Option β
  | .int k, .c (.v (.int k' n)), kk => if k' = k then decI k n kk else none
  | .bool, .c (.v (.bool b)), kk => kk b
  | .str, .c (.v (.string b)), kk => kk b.data.toList
  | .sl sz e, .c (.fz sz' es), kk => if sz' = sz then decL e es kk else none
  | _, _, _ => none
noncomputable def packX (rw : List Row) {R : Type} : (ps : List PX) → List X → ((R → Option β) → Option β) → (DX ps R → Option β) → Option β
  | [], [], r, kk => r kk
  | .hole τ :: ps, x :: xs, r, kk => packH τ x fun d => packX rw (R := R) ps xs r fun q => kk (d, q)
  | .own i :: ps, .own i' 0 n :: xs, r, kk => if i' = i then chk (eqN n (rowLen rw i)) (packX rw (R := R) ps xs r kk) else none
  | .stat y :: ps, x :: xs, r, kk => chk (sameX x y) (packX rw (R := R) ps xs r kk)
  | .nilp :: ps, .c (.v (.pointer none)) :: xs, r, kk => packX rw (R := R) ps xs r kk
  | .junk :: ps, .junk :: xs, r, kk => packX rw (R := R) ps xs r kk
  | _, _, _, _ => none
noncomputable def packR {R : Type} : (ps : List PRow) → List Row → ((R → Option β) → Option β) → (DR ps R → Option β) → Option β
  | [], [], r, kk => r kk
  | .mu ty sz τ :: ps, .mu ty' sz' es :: xs, r, kk => if ty' = ty ∧ sz' = sz then decL τ es fun d => packR (R := R) ps xs r fun q => kk (d, q) else none
  | .fro sz τ :: ps, .fro sz' es :: xs, r, kk => if sz' = sz then decL τ es fun d => packR (R := R) ps xs r fun q => kk (d, q) else none
  | .dead :: ps, .dead :: xs, r, kk => packR (R := R) ps xs r kk
  | .stat y :: ps, x :: xs, r, kk => chk (sameR x y) (packR (R := R) ps xs r kk)
  | _, _, _, _ => none
noncomputable def packB (rw : List Row) {R : Type} : (ps : List (List PX)) → List (List X) → ((R → Option β) → Option β) → (DB ps R → Option β) → Option β
  | [], [], r, kk => r kk
  | p :: ps, x :: xs, r, kk => packX rw (R := DB ps R) p x (packB rw ps xs r) kk
  | _, _, _, _ => none
noncomputable def packE (rw : List Row) {R : Type} : (ps : List (Kd × List PX)) → List T → ((R → Option β) → Option β) → (DE ps R → Option β) → Option β
  | [], [], r, kk => r kk
  | p :: ps, x :: xs, r, kk => if beqK p.1 x.k then packX rw (R := DE ps R) p.2 x.xs (packE rw ps xs r) kk else none
  | _, _, _, _ => none
/-- The data of a state: what comes to none, if it is not of the template. -/
noncomputable def packK (t : Tpl) (s : S) (kk : DT t → Option β) : Option β :=
  packR t.rw s.h.rw (packB s.h.rw t.bx s.h.bx (packE s.h.rw t.env s.env fun k => k ())) kk
end

/-! Does a state look like a template? -/
def fitX : PX → X → Bool
  | .hole (.int k), .c (.v (.int k' _)) => beqK' k k'
  | .hole .bool, .c (.v (.bool _)) => true
  | .hole .str, .c (.v (.string _)) => true
  | .hole (.sl sz _), .c (.fz sz' _) => sz == sz'
  | .own i, .own i' 0 _ => i == i'
  | .stat y, x => same0 x y
  | .nilp, .c (.v (.pointer none)) => true
  | .junk, .junk => true
  | _, _ => false
def fitXs : List PX → List X → Bool
  | [], [] => true
  | p :: ps, x :: xs => fitX p x && fitXs ps xs
  | _, _ => false
def fitR : List PRow → List Row → Bool
  | [], [] => true
  | .mu ty sz _ :: ps, .mu ty' sz' _ :: xs => ty == ty' && sz == sz' && fitR ps xs
  | .fro sz _ :: ps, .fro sz' _ :: xs => sz == sz' && fitR ps xs
  | .dead :: ps, .dead :: xs => fitR ps xs
  | _, _ => false
def fitB : List (List PX) → List (List X) → Bool
  | [], [] => true
  | p :: ps, x :: xs => fitXs p x && fitB ps xs
  | _, _ => false
def fitE : List (Kd × List PX) → List T → Bool
  | [], [] => true
  | p :: ps, x :: xs => beqK p.1 x.k && fitXs p.2 x.xs && fitE ps xs
  | _, _ => false
def fits (t : Tpl) (s : S) : Bool := fitR t.rw s.h.rw && fitB t.bx s.h.bx && fitE t.env s.env

/-- What stays as it is, in a loop: it is what it was ahead of it. -/
def fixX : List PX → List X → List PX
  | .fix :: ps, x :: xs => .stat x :: fixX ps xs
  | p :: ps, _ :: xs => p :: fixX ps xs
  | ps, _ => ps
def fixR : List PRow → List Row → List PRow
  | .fix :: ps, x :: xs => .stat x :: fixR ps xs
  | p :: ps, _ :: xs => p :: fixR ps xs
  | ps, _ => ps
def fixB : List (List PX) → List (List X) → List (List PX)
  | p :: ps, x :: xs => fixX p x :: fixB ps xs
  | ps, _ => ps
def fixE : List (Kd × List PX) → List T → List (Kd × List PX)
  | p :: ps, x :: xs => (p.1, fixX p.2 x.xs) :: fixE ps xs
  | ps, _ => ps
def fixT (t : Tpl) (s : S) : Tpl := ⟨fixR t.rw s.h.rw, fixB t.bx s.h.bx, fixE t.env s.env⟩

/-- What is known of a function: by what it is called with, what it comes to. -/
structure Ctr where
  f : FuncId
  tin : Tpl
  tout : Tpl
  spec : DT tin → Option (DT tout)
inductive LoopAs where
  | as (t : Tpl) | times (n : Nat) | todo
structure Lift where
  ty : TypeId → Option Ty
  loop : FuncId → Nat → LoopAs
  ctr : List Ctr
  bs : FuncId → Bool

section
variable {β : Type}
abbrev CallK (β : Type) := FuncId → List T → Hp → (T × Hp → Option β) → Option β

/-! Operations -/
def oneI (k : IntKind) (n : Int) : T := ⟨.one, [.c (.v (.int k n))]⟩
def binK (op : BinOp) (k : IntKind) (a : Int) (k' : IntKind) (b : Int) (kk : T → Option β) : Option β :=
  match op with
  | .shl => chk (leI 0 b) (kk (oneI k (wrp k (shlI k a b))))
  | .shr => chk (leI 0 b) (kk (oneI k (shrI k a b)))
  | op => if k = k' then
    match op with
    | .add => kk (oneI k (wrp k (addI a b)))
    | .sub => kk (oneI k (wrp k (subI a b)))
    | .mul => kk (oneI k (wrp k (mulI a b)))
    | .eql => kk (boolV (eqI a b))
    | .neq => kk (boolV (notB (eqI a b)))
    | .lss => kk (boolV (ltI a b))
    | .leq => kk (boolV (leI a b))
    | .gtr => kk (boolV (ltI b a))
    | .geq => kk (boolV (leI b a))
    | .quo => chk (notB (eqI b 0)) (kk (oneI k (wrp k (quoI a b))))
    | .rem => chk (notB (eqI b 0)) (kk (oneI k (remI a b)))
    | .and => kk (oneI k (bitI .and k a b))
    | .or => kk (oneI k (bitI .or k a b))
    | .xor => kk (oneI k (bitI .xor k a b))
    | .andNot => kk (oneI k (bitI .andNot k a b))
    | _ => none
    else none
def otherK (P : Program) (s : S) (o : Oper) (kk : T → Option β) : Option β :=
  match opR P s o with
  | some t => kk t
  | none => none
/-- The places of an array, one by one. -/
def caseK (i : Int) : Nat → (Nat → Option β) → Option β
  | 0, _ => none
  | n + 1, kk => cnd (eqI i (n : Int)) (kk n) (caseK i n kk)
def partK (P : Program) (t : TypeId) (xs : List X) (off : Nat) (kk : T → Option β) : Option β :=
  match partT P t xs off with
  | some x => kk x
  | none => none
/-- What a slice shows: its elements, and an element's size. -/
def viewK (h : Hp) (x : X) (kk : Option Nat → List (List C) → Option β) : Option β :=
  match x with
  | .c (.v (.slice none 0 0)) => kk none []
  | .c (.fz sz es) => kk (some sz) es
  | .own r off n =>
    match h.row r with
    | some p => chk (leN (addN off n) (vnum p.2)) (kk (some p.1) (vcut p.2 off n))
    | none => none
  | _ => none
noncomputable def loadK (Q : Lift) (P : Program) (h : Hp) (t : TypeId) (x : X) (kk : T → Option β) : Option β :=
  match x with
  | .ep r i off =>
    match h.rw[r]? with
    | some (.mu ty _ es) => match Q.ty ty with
      | some τ => getE τ es i fun e => partK P t ((enc τ e).map .c) off kk
      | none => none
    | _ => none
  | x => match loadX P h t x with
    | some y => kk y
    | none => none
noncomputable def indexAddrK (Q : Lift) (P : Program) (h : Hp) (t : TypeId) (x : X) (i : Int) (kk : X → Option β) : Option β :=
  match P.underlying t with
  | some (.slice e) =>
    match szT P e with
    | none => none
    | some sz =>
    match x with
    | .c (.fz sz' es) => if sz' = sz then chk (leI 0 i) (match Q.ty e with
      | some τ => getE τ es (natI i) fun el => kk (.fp (enc τ el) 0)
      | none => none) else none
    | .own r off n =>
      match h.row r with
      | some p => if p.1 = sz then chk (leI 0 i) (chk (ltI i (n : Int)) (chk (leN (addN off n) (vnum p.2)) (kk (.ep r (addN off (natI i)) 0)))) else none
      | none => none
    | _ => none
  | some (.array len e) =>
    match szT P e with
    | none => none
    | some sz => caseK i len fun j => match addOff x (j * sz) with
      | some y => kk y
      | none => none
  | _ => none
def sliceK (P : Program) (h : Hp) (t : TypeId) (x : X) (lo hi : Option Int) (kk : T → Option β) : Option β :=
  match elemT P t with
  | none => none
  | some e => viewK h x fun sz es =>
    if (szT P e).any (fun n => szOk n sz) then
      let l := lo.getD 0
      let u := hi.getD (vlen es)
      chk (leI 0 l) (chk (leI l u) (chk (leI u (vlen es)) (match x with
        | .c (.fz sz _) => kk ⟨.one, [.c (.fz sz (vcut es (natI l) (subN u l)))]⟩
        | .own r off _ => kk ⟨.one, [.own r (addN off (natI l)) (subN u l)]⟩
        | x => kk ⟨.one, [x]⟩)))
    else none
noncomputable def opK (Q : Lift) (P : Program) (s : S) (o : Oper) (kk : T → Option β) : Option β :=
  match o.op with
  | .pick c a b =>
    match s.bool c with
    | some t => cnd t (kk (s.rd a)) (kk (s.rd b))
    | none => none
  | .load t a =>
    match s.x1 a with
    | some x => loadK Q P s.h t x kk
    | none => none
  | .indexAddr t x i =>
    match s.int i, s.x1 x with
    | some p, some x => indexAddrK Q P s.h t x p.2 fun y => kk ⟨.one, [y]⟩
    | _, _ => none
  | .slice t x lo hi none =>
    match elemT P t, s.x1 x, optInt s lo, optInt s hi with
    | some _, some x, some l, some u => sliceK P s.h t x l u kk
    | _, _, _, _ => none
  | .convert src dst x =>
    match P.underlying src, P.underlying dst with
    | some (.slice e), some .string =>
      match P.underlying e, s.x1 x with
      | some (.int .u8), some x => viewK s.h x fun _ es => strK es fun b => kk ⟨.one, [.c (.v (.string b))]⟩
      | _, _ => none
    | some _, some (.int k) =>
      match s.rd x with
      | ⟨.one, [.c (.v (.int _ a))]⟩ => kk (oneI k (wrp k a))
      | _ => none
    | _, _ => otherK P s o kk
  | .call c =>
    match c.callee, c.args.toList, c.argTypes.toList with
    | .builtin .len, [x], [t] =>
      match P.underlying t with
      | some (.slice _) =>
        match s.x1 x with
        | some x => viewK s.h x fun _ es => kk (oneI .i64 (vlen es))
        | none => none
      | some .string =>
        match s.rd x with
        | ⟨.one, [.c (.v (.string b))]⟩ => kk (oneI .i64 (slen b))
        | _ => none
      | _ => none
    | .builtin .max, [x, y], _ =>
      match s.rd x, s.rd y with
      | ⟨.one, [.c (.v (.int k a))]⟩, ⟨.one, [.c (.v (.int _ b))]⟩ => kk (oneI k (maxI a b))
      | _, _ => none
    | .builtin .min, [x, y], _ =>
      match s.rd x, s.rd y with
      | ⟨.one, [.c (.v (.int k a))]⟩, ⟨.one, [.c (.v (.int _ b))]⟩ => kk (oneI k (minI a b))
      | _, _ => none
    | _, _, _ => none
  | .index t x i =>
    match P.underlying t, s.rd x, s.int i with
    | some (.array len e), ⟨.agg, xs⟩, some p =>
      match szT P e with
      | some sz => caseK p.2 len fun j => partK P e xs (j * sz) kk
      | none => none
    | some .string, ⟨.one, [.c (.v (.string b))]⟩, some p => chk (leI 0 p.2) (getS b (natI p.2) fun u => kk (oneI .u8 (u8I u)))
    | _, _, _ => none
  | .binOp op t x y _ =>
    match s.rd x, s.rd y with
    | ⟨.one, [.c (.v (.int k a))]⟩, ⟨.one, [.c (.v (.int k' b))]⟩ => binK op k a k' b kk
    | ⟨.one, [.c (.v (.bool a))]⟩, ⟨.one, [.c (.v (.bool b))]⟩ =>
      match P.underlying t, op with
      | some .bool, .eql => kk (boolV (eqB a b))
      | some .bool, .neq => kk (boolV (notB (eqB a b)))
      | _, _ => none
    | ⟨.one, [.c (.v (.string a))]⟩, ⟨.one, [.c (.v (.string b))]⟩ =>
      match op with
      | .eql => kk (boolV (seq2 a b))
      | .neq => kk (boolV (notB (seq2 a b)))
      | .add => chk (leN (addN (vnum (encS a)) (vnum (encS b))) 9223372036854775807) (kk ⟨.one, [.c (.v (.string ⟨⟨lapp a.data.toList b.data.toList⟩⟩))]⟩)
      | _ => none
    | ⟨.agg, xs⟩, ⟨.agg, ys⟩ =>
      match flatI P t xs.length with
      | some k =>
        match intsOf k xs, intsOf k ys with
        | some l, some m => if xs.length = ys.length then
          match op with
          | .eql => kk (boolV (eqL l m))
          | .neq => kk (boolV (notB (eqL l m)))
          | _ => none
          else none
        | _, _ => none
      | none => none
    | _, _ => otherK P s o kk
  | .unOp op _ x =>
    match op, s.rd x with
    | .not, ⟨.one, [.c (.v (.bool b))]⟩ => kk (boolV (notB b))
    | .neg, ⟨.one, [.c (.v (.int k a))]⟩ => kk (oneI k (wrp k (negI a)))
    | _, _ => none
  | _ => otherK P s o kk

/-! Operations that turn the heap -/
def freezeK (x : X) (h : Hp) (kk : C → Hp → Option β) : Option β :=
  match x with
  | .c d => kk d h
  | .own r off n =>
    match h.row r with
    | some p => chk (leN (addN off n) (vnum p.2)) (kk (.fz p.1 (vcut p.2 off n)) ⟨h.bx, h.rw.set r (.fro p.1 p.2)⟩)
    | none => none
  | _ => none
def freezeLK : List X → Hp → (List C → Hp → Option β) → Option β
  | [], h, kk => kk [] h
  | x :: xs, h, kk => freezeK x h fun c h => freezeLK xs h fun cs h => kk (c :: cs) h
def fillK (s : S) (sz : Nat) : Hp → List (List C) → List (Nat × Operand) → (List (List C) → Hp → Option β) → Option β
  | h, es, [], kk => kk es h
  | h, es, (i, o) :: ps, kk =>
    if (s.rd o).whole = true ∧ (s.rd o).xs.length = sz ∧ i < es.length then freezeLK (s.rd o).xs h fun cs h => fillK s sz h (es.set i cs) ps kk else none
def buildSliceK (P : Program) (s : S) (t : TypeId) (len : Nat) (parts : List (Nat × Operand)) (kk : T × Hp → Option β) : Option β :=
  match elemT P t with
  | none => none
  | some e => match szT P e, (zeroX P e).bind fun z => z.mapM X.cl with
    | some sz, some zc =>
      if zc.length = sz ∧ 0 < sz ∧ len * sz ≤ 16777216 then
        fillK s sz s.h (List.replicate len zc) parts fun es h => kk (⟨.one, [.own h.rw.length 0 len]⟩, ⟨h.bx, h.rw ++ [.mu e sz es]⟩)
      else none
    | _, _ => none
def coerXK (sz : Nat) (x : X) (h : Hp) (kk : X → Hp → Option β) : Option β :=
  match x with
  | .c (.v (.slice none 0 0)) => kk (.c (.fz sz [])) h
  | .own r off n => freezeK (.own r off n) h fun c h => kk (.c c) h
  | x => kk x h
def coerXsK (cs : List (Nat × Nat × Nat)) (j : Nat) : Nat → List X → Hp → (List X → Hp → Option β) → Option β
  | _, [], h, kk => kk [] h
  | i, x :: xs, h, kk =>
    match lookC cs j i with
    | none => coerXsK cs j (i + 1) xs h fun ys h => kk (x :: ys) h
    | some sz => coerXK sz x h fun y h => coerXsK cs j (i + 1) xs h fun ys h => kk (y :: ys) h
def coerTsK (cs : List (Nat × Nat × Nat)) : Nat → List T → Hp → (List T → Hp → Option β) → Option β
  | _, [], h, kk => kk [] h
  | j, t :: ts, h, kk =>
    match t.k with
    | .tup _ => none
    | k => coerXsK cs j 0 t.xs h fun ys h => coerTsK cs (j + 1) ts h fun us h => kk (⟨k, ys⟩ :: us) h
noncomputable def storeK (Q : Lift) (P : Program) (h : Hp) (t : TypeId) (x : X) (v : T) (kk : Hp → Option β) : Option β :=
  match x with
  | .ep r i off =>
    if v.whole then
      match szT P t with
      | some n => if v.xs.length = n then freezeLK v.xs h fun cs h =>
        match h.rw[r]? with
        | some (.mu ty sz es) => match Q.ty ty with
          | some τ => getE τ es i fun e => if off + n ≤ (enc τ e).length then kk ⟨h.bx, h.rw.set r (.mu ty sz (vset es i ((enc τ e).take off ++ cs ++ (enc τ e).drop (off + n))))⟩ else none
          | none => none
        | _ => none
        else none
      | none => none
    else none
  | x => match storeX P h t x v with
    | some h => kk h
    | none => none
def srcK (P : Program) (s : S) (t : TypeId) (y : Operand) (sz : Nat) (kk : List (List C) → Option β) : Option β :=
  match P.underlying t with
  | some (.slice _) =>
    match s.x1 y with
    | some x => viewK s.h x fun n es => if szOk sz n then kk es else none
    | none => none
  | some .string =>
    match s.rd y with
    | ⟨.one, [.c (.v (.string b))]⟩ => if sz = 1 then kk (encS b) else none
    | _ => none
  | _ => none
def dstK (h : Hp) (e sz : Nat) (x : X) (kk : Option Nat → List (List C) → Option β) : Option β :=
  match x with
  | .c (.v (.slice none 0 0)) => kk none []
  | .own r 0 n =>
    match h.rw[r]? with
    | some (.mu ty sz' es) => if ty = e ∧ sz' = sz then chk (eqN n (vnum es)) (kk (some r) es) else none
    | _ => none
  | _ => none
def room (a b c : Nat) : Bool := decide (a + b ≤ maxLen ∧ (a + b) * c ≤ 140737488355328)
def appendK (P : Program) (s : S) (t t' : TypeId) (x y : Operand) (kk : T × Hp → Option β) : Option β :=
  match elemT P t with
  | none => none
  | some e => match elemI P e, s.x1 x with
    | some i, some x => srcK P s t' y i.1 fun news => dstK s.h e i.1 x fun r es =>
      if t' = t ∨ strT P t' = true ∧ i.2 = 1 then
        chk (room (vnum es) (vnum news) i.2) (kk (⟨.one, [.own s.h.rw.length 0 (addN (vnum es) (vnum news))]⟩, ⟨s.h.bx, kill s.h.rw r ++ [.mu e i.1 (vapp es news)]⟩))
      else none
    | _, _ => none
def argK (h : Hp) (ks rs : List Nat) : List X → (List X → Option β) → Option β
  | [], kk => kk []
  | .own r off n :: xs, kk => if rs.contains r then argK h ks rs xs fun ys => kk (.own (rs.idxOf r) off n :: ys) else viewK h (.own r off n) fun sz es => argK h ks rs xs fun ys => kk (.c (.fz (sz.getD 0) es) :: ys)
  | x :: xs, kk => match argX h ks rs x with
    | some y => argK h ks rs xs fun ys => kk (y :: ys)
    | none => none
def argsK (h : Hp) (ks rs : List Nat) : List T → (List T → Option β) → Option β
  | [], kk => kk []
  | t :: ts, kk => argK h ks rs t.xs fun xs => argsK h ks rs ts fun ys => kk (⟨t.k, xs⟩ :: ys)
noncomputable def callXK (K : CallK β) (P : Program) (A : Ann) (f : FuncId) (tys : List TypeId) (vs0 : List T) (h0 : Hp) (kk : T × Hp → Option β) : Option β :=
  match adopt P (A.mv f) 0 tys vs0 h0 with
  | none => none
  | some p =>
    let vs := p.1
    let h := p.2.1
    let ks := ksOf h vs
    let rs := rsOf h ks p.2.2
    match ks.mapM fun k => (h.bx[k]?).bind fun xs => xs.mapM (boxX ks rs), rs.mapM fun r => h.rw[r]? with
    | some bx, some rw => argsK h ks rs vs fun args =>
      K f args ⟨bx, rw⟩ fun q =>
        match ks.isEmpty && rs.isEmpty && q.1.xs.all X.plain with
        | true => kk (q.1, h)
        | false =>
          let fr := backTo h.rw.length rs
          let gk := backTo h.bx.length ks
          let rw1 := freezeRows h.rw (((vs.flatMap (·.xs)).flatMap X.rows).filter fun r => !rs.contains r)
          kk (q.1.ren fr gk, ⟨setMany h.bx ks ((q.2.bx.take ks.length).map (·.map (X.ren fr gk))) ++ (q.2.bx.drop ks.length).map (·.map (X.ren fr gk)), setMany rw1 rs (q.2.rw.take rs.length) ++ q.2.rw.drop rs.length⟩)
    | _, _ => none
noncomputable def evOpK (Q : Lift) (K : CallK β) (P : Program) (A : Ann) (s : S) (o : Oper) (kk : T × Hp → Option β) : Option β :=
  match o.op with
  | .store t a x =>
    match s.x1 a with
    | some y => storeK Q P s.h t y (s.rd x) fun h => kk (undefT, h)
    | none => none
  | .buildSlice t len parts => buildSliceK P s t len parts.toList kk
  | .alloc _ | .box _ _ =>
    match evOp (fun _ _ _ => none) P A s o with
    | some p => kk p
    | none => none
  | .convert src dst _ =>
    match P.underlying src, P.underlying dst with
    | some .string, some (.slice e) =>
      match P.underlying e, s.rd (match o.op with | .convert _ _ x => x | _ => .tmp 0) with
      | some (.int .u8), ⟨.one, [.c (.v (.string b))]⟩ => kk (⟨.one, [.c (.fz 1 (encS b))]⟩, s.h)
      | _, _ => none
    | _, _ => opK Q P s o fun v => kk (v, s.h)
  | .call c =>
    match c.callee with
    | .builtin .append =>
      match c.args.toList, c.argTypes.toList with
      | [x, y], [t, t'] => appendK P s t t' x y kk
      | _, _ => none
    | .value f =>
      match s.x1 f with
      | some (.clo _ f []) => callXK K P A f c.argTypes.toList (c.args.toList.map s.rd) s.h kk
      | some (.clo false f ks) => callXK K P A f c.argTypes.toList (c.args.toList.map s.rd ++ ks.map fun k => ⟨.one, [.ptr k 0]⟩) s.h kk
      | some (.clo true f ks) => callXK K P A f (List.replicate ks.length 0 ++ c.argTypes.toList) ((ks.map fun k => ⟨.one, [.ptr k 0]⟩) ++ c.args.toList.map s.rd) s.h kk
      | _ => none
    | _ => opK Q P s o fun v => kk (v, s.h)
  | _ => opK Q P s o fun v => kk (v, s.h)

/-- A test: both ways, in each of which its slot is known. -/
def guardK (ops : Array Oper) (s : S) (o : Oper) (yes no : S → Option β) : Option β :=
  match o.guard with
  | none => yes s
  | some (j, want) =>
    match (ops[j]?).bind (·.dst) with
    | none => no s
    | some d =>
      match s.env[d]? with
      | some ⟨.one, [.c (.v (.bool b))]⟩ =>
        let st := fun t => (⟨s.env.set d (boolV t), s.h⟩ : S)
        match want with
        | true => cnd b (yes (st true)) (no (st false))
        | false => cnd b (no (st true)) (yes (st false))
      | some ⟨.tup [], []⟩ => no s
      | _ => none
noncomputable def evOpsK (Q : Lift) (K : CallK β) (P : Program) (A : Ann) (ops : Array Oper) : List Oper → S → (S → Option β) → Option β
  | [], s, kk => kk s
  | o :: os, s, kk => guardK ops s o
    (fun s => evOpK Q K P A s o fun p => fP ⟨s.env, p.2⟩ o.dst p.1 fun s => evOpsK Q K P A ops os s kk)
    (fun s => fP s o.dst undefT fun s => evOpsK Q K P A ops os s kk)
noncomputable def evPlanK (Q : Lift) (K : CallK β) (P : Program) (A : Ann) (ops : Array Oper) : List (Nat × Bool) → List (Nat × (List Nat × List Nat)) → S → (S → Option β) → Option β
  | [], _, s, kk => kk s
  | (i, tk) :: pl, pend, s, kk =>
    match ops[i]? with
    | none => none
    | some o => guardK ops s o
      (fun s =>
        match tk with
        | true => opK Q P s o fun v => fP s o.dst v fun s' => evPlanK Q K P A ops pl ((i, deps s o) :: pend) s' kk
        | false =>
          match (pend.filter fun q => !afterB ops i q.1).all fun q => apartD q.2 (modsX P A s o) with
          | true => evOpK Q K P A s o fun p => fP ⟨s.env, p.2⟩ o.dst p.1 fun s => evPlanK Q K P A ops pl (pend.filter fun q => !afterB ops i q.1) s kk
          | false => none)
      (fun s => evPlanK Q K P A ops pl (if tk then (i, ([], [])) :: pend else pend.filter fun q => !afterB ops i q.1) (s.put o.dst undefT) kk)

/-! Code -/
def roundsK {β : Type} (step : S → (S → Option β) → Option β) : Nat → S → Option β
  | 0, _ => none
  | n + 1, s => step s (roundsK step n)
noncomputable def runK (Q : Lift) (K : ∀ β : Type, CallK β) (cx : Cx) (plan : Nat → List (Nat × Bool)) (N : Nat) : Code → (β : Type) → S → (Out → S → Option β) → Option β
  | .skip, _, s, kk | .label _, _, s, kk => kk .normal s
  | .region id ops draw, β, s, kk =>
    match draw with
    | true => match plan id with
      | [] => none
      | pl => evPlanK Q (K β) cx.P cx.A ops pl [] s fun s => fS s fun s => kk .normal s
    | false => evOpsK Q (K β) cx.P cx.A ops ops.toList s fun s => fS s fun s => kk .normal s
  | .seq a b, β, s, kk =>
    let key := jk a b
    match cx.A.join cx.f key with
    | false => runK Q K cx plan N a β s fun o s => match o with
      | .normal => runK Q K cx plan N b β s kk
      | o => kk o s
    | true =>
      let nb := s.h.bx.length
      match Q.loop cx.f key with
      | .as t => match norm cx nb key s with
        | none => none
        | some s0 => let t := fixT t s0
          joinK (runK Q K cx plan N a (DT t ⊕ β) s fun o s' => match o with
            | .normal => match norm cx nb key s' with
              | none => none
              | some s' => fS s' fun s' => packK t s' leftK
            | o => rightK (kk o s')) fun d => fS (unpack t d) fun s => runK Q K cx plan N b β s kk
      | .todo => runK Q K cx plan N a β s fun o s' => match o with
        | .normal => match norm cx nb key s' with
          | none => none
          | some s' => atLoop cx.f key s'
        | o => kk o s'
      | .times _ => runK Q K cx plan N a β s fun o s' => match o with
        | .normal => match norm cx nb key s' with
          | none => none
          | some s' => fS s' fun s' => runK Q K cx plan N b β s' kk
        | o => kk o s'
  | .cond o a b, β, s, kk =>
    match s.bool o with
    | some t => cnd t (runK Q K cx plan N a β s kk) (runK Q K cx plan N b β s kk)
    | none => none
  | .block id b, β, s, kk => runK Q K cx plan N b β s fun o s => match o with
    | .exit i => if i = id then kk .normal s else kk (.exit i) s
    | o => kk o s
  | .scope b, β, s, kk => runK Q K cx plan N b β s kk
  | .exit id, _, s, kk => kk (.exit id) s
  | .ret, _, s, kk => kk .ret s
  | .loop b, β, s, kk =>
    let nb := s.h.bx.length
    let key := Code.key b
    let out := fun (o : Out) (s' : S) =>
      let p := compact nb cx.nr (maskE (cx.A.post cx.f key) 0 s'.env) s'.h
      fS ⟨p.1, p.2⟩ fun s => kk o s
    match Q.loop cx.f key with
    | .as t => match norm cx nb key s with
      | none => none
      | some s => let t := fixT t s
        fS s fun s => packK t s (iter (fun d again => fS (unpack t d) fun s => runK Q K cx plan N b β s fun o s' => match o with
        | .normal => match norm cx nb key s' with
          | none => none
          | some s' => fS s' fun s' => packK t s' again
        | o => out o s') N)
    | .todo => match norm cx nb key s with
      | none => none
      | some s => atLoop cx.f key s
    | .times n => roundsK (fun s again => match norm cx nb key s with
        | none => none
        | some s => fS s fun s => runK Q K cx plan N b β s fun o s' => match o with
          | .normal => again s'
          | o => out o s') n s
  | _, _, _, _ => none

def leaveK (P : Program) (cs : List (Nat × Nat × Nat)) (fn : Func) (nb nr : Nat) (s : S) (kk : T × Hp → Option β) : Option β :=
  match fn.results.toList.mapM (resT P s) with
  | none => none
  | some vs => coerTsK cs 0 vs s.h fun vs h =>
    match joinT vs with
    | none => none
    | some v => match compact nb nr [v] h with
      | ([v], h) => kk (v, h)
      | _ => none
noncomputable def bodyK (Q : Lift) (K : ∀ β : Type, CallK β) (P : Program) (A : Ann) (plans : FuncId → Nat → List (Nat × Bool)) (N : Nat) (f : FuncId) (args : List T) (h : Hp) (kk : T × Hp → Option β) : Option β :=
  match P.funcs[f]? with
  | none => none
  | some fn => match fn.body with
    | none => none
    | some c =>
      if decide (args.length ≤ fn.ntmps) && !(fn.name == "runtime.NumGoroutine") then
        fS ⟨args ++ List.replicate (fn.ntmps - args.length) undefT, h⟩ fun s => runK Q K ⟨P, A, f, h.rw.length⟩ (plans f) N c β s fun o s => match o with
          | .normal => leaveK P (A.out f) fn h.bx.length h.rw.length s fun q => fQ q kk
          | .ret => leaveK P (A.out f) fn h.bx.length h.rw.length s fun q => fQ q kk
          | _ => none
      else none
def hdT (s : S) : T := s.env.headD junkT
noncomputable def ctrK : List Ctr → (Unit → Option β) → FuncId → List T → Hp → (T × Hp → Option β) → Option β
  | [], r, _, _, _, _ => r ()
  | c :: cs, r, f, args, h, kk => match c.f == f && fits c.tin ⟨args, h⟩ with
    | true => packK c.tin ⟨args, h⟩ fun d => bnd (c.spec d) fun q => kk (hdT (unpack c.tout q), (unpack c.tout q).h)
    | false => ctrK cs r f args h kk
noncomputable def callK (Q : Lift) (P : Program) (A : Ann) (plans : FuncId → Nat → List (Nat × Bool)) (N : Nat) : Nat → (β : Type) → CallK β
  | 0, _, f, args, h, kk => ctrK Q.ctr (fun _ => none) f (wkL (A.wk f) args) h kk
  | n + 1, β, f, args, h, kk => ctrK Q.ctr (fun _ => match Q.bs f with
    | true => none
    | false => bodyK (β := β) Q (callK Q P A plans N n) P A plans N f (wkL (A.wk f) args) h kk) f (wkL (A.wk f) args) h kk
end
/-- A function's code, of a template's arguments, as a plain function. -/
noncomputable def lifted (Q : Lift) (P : Program) (A : Ann) (plans : FuncId → Nat → List (Nat × Bool)) (N n : Nat) (f : FuncId) (tin tout : Tpl) (d : DT tin) : Option (DT tout) :=
  bodyK Q (callK Q P A plans N n) P A plans N f (unpack tin d).env (unpack tin d).h fun p => packK tout ⟨[p.1], p.2⟩ some
end Go.Proofs.YtkdnbnkbnegckaaGreatDoor
