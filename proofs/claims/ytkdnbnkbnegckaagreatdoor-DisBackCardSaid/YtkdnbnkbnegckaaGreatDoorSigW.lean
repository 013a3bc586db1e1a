/- What a function comes to, by its own code: the lifted functions' results are those of the second machine. Short words for the texts of lifted functions. From the second machine to a law's walk: arguments that came in, and what is left behind. Lists of types, in plain Lean: their letters, their text, the list of a text. The walks of package sig's small functions, and of its reference's. -/
import Derived.Test.YtkdnbnkbnegckaaGreatDoorEvV
import Derived.Test.YtkdnbnkbnegckaaGreatDoorEvM
import Derived.Test.YtkdnbnkbnegckaaGreatDoorStrA
import Derived.Laws.Cover4
import Derived.Laws.RangeAny
import Derived.Test.YtkdnbnkbnegckaaGreatDoorBase
namespace Go.Proofs.YtkdnbnkbnegckaaGreatDoor
open Go.RowKit

/-! What is packed is not lost -/
def width : Ty → Nat
  | .int _ | .bool | .str | .sl _ _ => 1
  | .nul => 0
  | .pr a b => width a + width b
theorem enc_len : ∀ (τ : Ty) (x : Data τ), (enc τ x).length = width τ
  | .int _, _ | .bool, _ | .str, _ | .sl _ _, _ | .nul, _ => rfl
  | .pr a b, x => by simp only [enc, width, List.length_append, enc_len a, enc_len b]
theorem encI_inj : ∀ {k : IntKind} {a b : DI k}, encI k a = encI k b → a = b
  | .u8, a, b, h => UInt8.toNat_inj.1 (Int.ofNat_inj.1 h)
  | .u16, _, _, h | .u32, _, _, h | .u64, _, _, h | .i8, _, _, h | .i16, _, _, h | .i32, _, _, h | .i64, _, _, h => h
theorem map_inj {α β : Type} {f : α → β} (hf : ∀ x y, f x = f y → x = y) : ∀ {l m : List α}, l.map f = m.map f → l = m
  | [], [], _ => rfl
  | [], y :: m, h => by simp at h
  | x :: l, [], h => by simp at h
  | x :: l, y :: m, h => by
    simp only [List.map_cons, List.cons.injEq] at h
    rw [hf x y h.1, map_inj hf h.2]
theorem enc_inj : ∀ {τ : Ty} {x y : Data τ}, enc τ x = enc τ y → x = y
  | .int k, x, y, h => by
    simp only [enc, List.cons.injEq, C.v.injEq, Value.int.injEq, true_and, and_true] at h
    exact encI_inj h
  | .bool, x, y, h => Value.bool.inj (C.v.inj (List.cons.inj h).1)
  | .str, x, y, h => Array.mk.inj (ByteArray.mk.inj (Value.string.inj (C.v.inj (List.cons.inj h).1)))
  | .sl sz e, x, y, h => by
    simp only [enc, List.cons.injEq, C.fz.injEq, true_and, and_true] at h
    exact map_inj (fun a b => enc_inj) h
  | .nul, _, _, _ => rfl
  | .pr a b, x, y, h => by
    simp only [enc] at h
    obtain ⟨h1, h2⟩ := List.append_inj h (by rw [enc_len, enc_len])
    exact Prod.ext (enc_inj h1) (enc_inj h2)
theorem encL_inj {τ : Ty} {l m : List (Data τ)} (h : encL τ l = encL τ m) : l = m := map_inj (fun _ _ => enc_inj) h

def cellTy : Ty → Bool
  | .int _ | .bool | .str | .sl _ _ => true
  | _ => false
def pxOk : PX → Bool
  | .hole τ => cellTy τ
  | _ => true
theorem holeX_inj {τ : Ty} (ht : cellTy τ = true) {x y : Data τ} (h : holeX τ x = holeX τ y) : x = y := by
  cases τ with
  | int k =>
    simp only [holeX, X.c.injEq, C.v.injEq, Value.int.injEq, true_and] at h
    exact encI_inj h
  | bool => exact Value.bool.inj (C.v.inj (X.c.inj h))
  | str => exact Array.mk.inj (ByteArray.mk.inj (Value.string.inj (C.v.inj (X.c.inj h))))
  | sl sz e =>
    simp only [holeX, X.c.injEq, C.fz.injEq, true_and] at h
    exact encL_inj h
  | nul => cases ht
  | pr a b => cases ht
theorem unX_inj {rw : List Row} {R : Type} : ∀ {ps : List PX} {d d' : DX ps R}, ps.all pxOk = true → (unX rw ps d).1 = (unX rw ps d').1 → (unX rw ps d).2 = (unX rw ps d').2 → d = d'
  | [], d, d', _, _, h => h
  | p :: ps, d, d', ho, h1, h2 => by
    simp only [List.all_cons, Bool.and_eq_true] at ho
    cases p with
    | hole τ =>
      simp only [unX, List.cons.injEq] at h1 h2
      exact Prod.ext (holeX_inj ho.1 h1.1) (unX_inj ho.2 h1.2 h2)
    | _ =>
      simp only [unX, List.cons.injEq, true_and] at h1 h2
      exact unX_inj (R := R) (ps := ps) ho.2 h1 h2
theorem unR_inj {R : Type} : ∀ {ps : List PRow} {d d' : DR ps R}, (unR ps d).1 = (unR ps d').1 → (unR ps d).2 = (unR ps d').2 → d = d'
  | [], d, d', _, h => h
  | p :: ps, d, d', h1, h2 => by
    cases p with
    | mu ty sz τ =>
      simp only [unR, List.cons.injEq, Row.mu.injEq, true_and] at h1 h2
      exact Prod.ext (encL_inj h1.1) (unR_inj h1.2 h2)
    | fro sz τ =>
      simp only [unR, List.cons.injEq, Row.fro.injEq, true_and] at h1 h2
      exact Prod.ext (encL_inj h1.1) (unR_inj h1.2 h2)
    | _ =>
      simp only [unR, List.cons.injEq, true_and] at h1 h2
      exact unR_inj (R := R) (ps := ps) h1 h2
theorem unB_inj {rw : List Row} {R : Type} : ∀ {ps : List (List PX)} {d d' : DB ps R}, (ps.all fun p => p.all pxOk) = true → (unB rw ps d).1 = (unB rw ps d').1 → (unB rw ps d).2 = (unB rw ps d').2 → d = d'
  | [], d, d', _, _, h => h
  | p :: ps, d, d', ho, h1, h2 => by
    simp only [List.all_cons, Bool.and_eq_true] at ho
    simp only [unB, List.cons.injEq] at h1 h2
    exact unX_inj ho.1 h1.1 (unB_inj ho.2 h1.2 h2)
theorem unE_inj {rw : List Row} {R : Type} : ∀ {ps : List (Kd × List PX)} {d d' : DE ps R}, (ps.all fun p => p.2.all pxOk) = true → (unE rw ps d).1 = (unE rw ps d').1 → (unE rw ps d).2 = (unE rw ps d').2 → d = d'
  | [], d, d', _, _, h => h
  | p :: ps, d, d', ho, h1, h2 => by
    simp only [List.all_cons, Bool.and_eq_true] at ho
    simp only [unE, List.cons.injEq, T.mk.injEq, true_and] at h1 h2
    exact unX_inj ho.1 h1.1 (unE_inj ho.2 h1.2 h2)
/-- A template in which nothing is lost, of one value. -/
def tplOk (t : Tpl) : Bool := (t.bx.all fun p => p.all pxOk) && (t.env.all fun p => p.2.all pxOk) && t.env.length == 1
theorem unE_len {rw : List Row} {R : Type} : ∀ {ps : List (Kd × List PX)} {d : DE ps R}, (unE rw ps d).1.length = ps.length
  | [], _ => rfl
  | p :: ps, d => by simp only [unE, List.length_cons, unE_len]
theorem unpack_inj {t : Tpl} (ht : tplOk t = true) {d d' : DT t} (h1 : hdT (unpack t d) = hdT (unpack t d')) (h2 : (unpack t d).h = (unpack t d').h) : d = d' := by
  simp only [tplOk, Bool.and_eq_true, beq_iff_eq] at ht
  obtain ⟨⟨o1, o2⟩, o3⟩ := ht
  simp only [unpack, Hp.mk.injEq] at h1 h2
  obtain ⟨hb, hr⟩ := h2
  refine unR_inj hr ?_
  rw [← hr] at hb h1
  refine unB_inj o1 hb (unE_inj (rw := (unR t.rw d).1) o2 ?_ rfl)
  obtain ⟨x, hx⟩ : ∃ x, (unE (unR t.rw d).1 t.env (unB (unR t.rw d).1 t.bx (unR t.rw d).2).2).1 = [x] := List.length_eq_one_iff.1 (by rw [unE_len, o3])
  obtain ⟨y, hy⟩ : ∃ x, (unE (unR t.rw d).1 t.env (unB (unR t.rw d).1 t.bx (unR t.rw d').2).2).1 = [x] := List.length_eq_one_iff.1 (by rw [unE_len, o3])
  rw [hx, hy]
  simp only [hdT, hx, hy, List.headD_cons] at h1
  rw [h1]

/-! A function's results, by its code -/
section
variable {P : Program} {A : Ann} {plans : FuncId → Nat → List (Nat × Bool)} {f : FuncId} {tin tout : Tpl}
open Classical in
noncomputable def Sof (P : Program) (A : Ann) (plans : FuncId → Nat → List (Nat × Bool)) (f : FuncId) (tin tout : Tpl) (d : DT tin) : Option (DT tout) :=
  if h : ∃ q, ∀ args0, wkL (A.wk f) args0 = (unpack tin d).env → callW P A plans f args0 (unpack tin d).h = some (hdT (unpack tout q), (unpack tout q).h) then some h.choose else none
theorem ctr_ok : (Ctr.mk f tin tout (Sof P A plans f tin tout)).ok P A plans := fun d q h args0 hw => by
  simp only [Sof] at h
  split at h
  · rename_i hx
    cases h
    exact hx.choose_spec args0 hw
  · cases h
theorem Sof_of {Q : Lift} {N n : Nat} {d : DT tin} {q : DT tout} (hQ : ∀ c ∈ Q.ctr, c.ok P A plans) (hB : ∀ f a h, (A.base f a h).isSome = true → Q.bs f = true) (hbs : Q.bs f = false) (ht : tplOk tout = true) (hw : wkL (A.wk f) (unpack tin d).env = (unpack tin d).env)
    (h : lifted Q P A plans N n f tin tout d = some q) : Sof P A plans f tin tout d = some q := by
  have hx : ∃ q, ∀ args0, wkL (A.wk f) args0 = (unpack tin d).env → callW P A plans f args0 (unpack tin d).h = some (hdT (unpack tout q), (unpack tout q).h) := ⟨q, fun args0 ha => lifted_ok hQ hB hbs h ha⟩
  have h1 := lifted_ok hQ hB hbs h hw
  have h2 := hx.choose_spec _ hw
  rw [h1] at h2
  simp only [Option.some.injEq, Prod.mk.injEq] at h2
  simp only [Sof, dif_pos hx]
  exact congrArg some (unpack_inj ht h2.1 h2.2).symm
end
end Go.Proofs.YtkdnbnkbnegckaaGreatDoor
namespace Go.Proofs.YtkdnbnkbnegckaaGreatDoor
open Go.RowKit

abbrev tI : Ty := .int .i64
abbrev tW : Ty := .int .u64
abbrev tY : Ty := .int .u8
abbrev tC : Ty := .pr tI tI
abbrev tN : Ty := .pr tI (.pr tI (.pr tI (.pr tI (.pr tI (.pr tI tI)))))
abbrev tS : Ty := .pr tW (.pr tW (.pr tW tW))
abbrev tF : Ty := .pr .str (.pr .bool (.pr (.sl 1 tI) (.pr (.sl 1 tI) (.pr (.sl 1 tI) (.pr (.sl 1 tI) (.pr (.sl 2 tC) (.pr (.sl 1 tI) (.pr (.sl 7 tN) (.pr (.sl 1 tI) (.sl 4 tS))))))))))
abbrev LB := List UInt8
abbrev LI := List Int
abbrev LC := List (Int × Int)
abbrev LN := List (Int × (Int × (Int × (Int × (Int × (Int × Int))))))
abbrev LS := List (Int × (Int × (Int × Int)))
abbrev LF := List (LB × (Bool × (LI × (LI × (LI × (LI × (LC × (LI × (LN × (LI × LS))))))))))
abbrev eI (l : LI) := encL tI l
abbrev eC (l : LC) := encL tC l
abbrev eN (l : LN) := encL tN l
abbrev eS (l : LS) := encL tS l
abbrev eF (l : LF) := encL tF l
abbrev bA0 : ByteArray := ByteArray.mk (Array.mk [])
section
variable {β : Type}
noncomputable def dI (l : LI) (k : LI → Option β) : Option β := decL tI (encL tI l) k
noncomputable def dW (l : LI) (k : LI → Option β) : Option β := decL tW (encL tW l) k
noncomputable def dY (l : LB) (k : LB → Option β) : Option β := decL tY (encL tY l) k
noncomputable def dC (l : LC) (k : LC → Option β) : Option β := decL tC (encL tC l) k
noncomputable def dN (l : LN) (k : LN → Option β) : Option β := decL tN (encL tN l) k
noncomputable def dS (l : LS) (k : LS → Option β) : Option β := decL tS (encL tS l) k
noncomputable def dF (l : LF) (k : LF → Option β) : Option β := decL tF (encL tF l) k
noncomputable def qS (l : List (List C)) (r : Option β) : Option β := chk (eqES l l) r
noncomputable def qI (n : Int) (r : Option β) : Option β := chk (eqI n n) r
noncomputable def qN (n : Nat) (r : Option β) : Option β := chk (eqN n n) r
noncomputable def qB (b : ByteArray) (r : Option β) : Option β := chk (eqBA b b) r
noncomputable def qO (b : Bool) (r : Option β) : Option β := chk (eqB b b) r
end
end Go.Proofs.YtkdnbnkbnegckaaGreatDoor
namespace Go.Proofs.YtkdnbnkbnegckaaGreatDoor
open Go.RowKit

abbrev W0 : Nat → Who := fun _ => .frozen
abbrev L0 : Lay := ⟨id, fun _ => undef⟩
/-- A slice that came in. -/
theorem repC_in {W : World} {sz cap : Nat} {es : List (List C)} {ao : Option Addr} {us : List Value} (h0 : 0 < sz) (hu : ∀ e ∈ es, e.length = sz) (hc : es.length ≤ cap) (hC : Cells W ao us) (hr : RepCs W W0 es.flatten us) : RepC W W0 (.fz sz es) (.slice ao es.length cap) := by
  have hne : es ≠ [] → us ≠ [] := fun he hn => by
    subst hn
    have h1 := hr.1
    rw [flatten_len es hu] at h1
    have : 0 < es.length := List.length_pos_iff.2 he
    have : 0 < es.length * sz := Nat.mul_pos this h0
    simp at h1
    omega
  exact .fz sz cap es ao us hu hc (fun he => hC.addr (hne he)) (fun b off he ha => ⟨rfl, Cells.lt (ha ▸ hC) (hne he)⟩) (fun b off ha j v hj => hC.cell b off ha j v hj) hr.1 hr.2
/-- What lies above the heap that was is taken for frozen. -/
def whoN (W : World) (who : Nat → Who) : Nat → Who := fun b => if b < W.heap.size then who b else .frozen
theorem ext_frozen {W W' : World} {who : Nat → Who} {L : Lay} {h : Hp} (H : HSim W who L h) (hext : Ext W W') : HSim W' (whoN W who) L h ∧ Step .no W who L h W' (whoN W who) L h := by
  have hw2 : ∀ b, b < W.heap.size → whoN W who b = who b := fun b hb => if_pos hb
  have hsame : ∀ k, k < W.heap.size → W'.heap[k]? = W.heap[k]? := fun k hk => hext.block hk
  have S2 : Step .no W who L h W' (whoN W who) L h :=
    { os := hext.b.os, tape := hext.b.tape, output := hext.b.output, size := hext.size
      fro := fun b hb hlt => ⟨hsame b hlt, (hw2 b hlt).trans hb⟩
      oth := fun b hb hlt => ⟨hsame b hlt, (hw2 b hlt).trans hb⟩
      bx := Nat.le_refl _, box := fun _ _ => rfl
      rw := Nat.le_refl _, row := fun r _ sz es he => ⟨⟨es, he, rfl⟩, rfl⟩
      keepB := fun b hlt k hb _ => ⟨hsame b hlt, (hw2 b hlt).trans hb⟩
      keepR := fun b hlt k hb _ => ⟨hsame b hlt, .inl ((hw2 b hlt).trans hb)⟩ }
  refine ⟨⟨fun k xs hk => ?_, fun r ty sz es hr => ?_, fun r sz es hr => S2.froR (H.frz r sz es hr)⟩, S2⟩
  · have hb := (H.box_lt (List.getElem?_eq_some_iff.1 hk).1).1
    exact box_same S2 H hk (hsame _ hb) (hw2 _ hb)
  · have hmu := H.mu r ty sz es hr
    exact own_same S2 hmu fun g hg => ⟨hsame g (hmu.lt hg), (hw2 g (hmu.lt hg)).trans (hmu.who g hg)⟩
end Go.Proofs.YtkdnbnkbnegckaaGreatDoor
namespace Go.Proofs.YtkdnbnkbnegckaaGreatDoor

def letterI (a : Int) : Int := if a = 1 then 105 else if a = 2 then 99 else 63
def letterB (a : Int) : UInt8 := if a = 1 then 105 else if a = 2 then 99 else 63
/-- The text of a list of types. -/
def textB (l : List Int) : List UInt8 := if l = [] then [45] else l.map letterB
def textS (l : List Int) : ByteArray := ⟨(textB l).toArray⟩

theorem letterI_cases (a : Int) : (letterI a = 105 ∧ letterB a = 105) ∨ (letterI a = 99 ∧ letterB a = 99) ∨ (letterI a = 63 ∧ letterB a = 63) := by
  unfold letterI letterB; repeat' split
  all_goals simp

theorem encode_letter (a : Int) : Utf8.encode (letterI a) = ⟨#[letterB a]⟩ := by
  rcases letterI_cases a with ⟨h1, h2⟩ | ⟨h1, h2⟩ | ⟨h1, h2⟩ <;> rw [h1, h2] <;> decide +kernel

theorem runesBytes_letters (l : List Int) : runesBytes (l.map letterI) = ⟨(l.map letterB).toArray⟩ := by
  have key : ∀ (l : List Int) (s : List UInt8), (l.map letterI).foldl (fun r n => r ++ Utf8.encode n) ⟨s.toArray⟩ = ⟨(s ++ l.map letterB).toArray⟩ := by
    intro l
    induction l with
    | nil => intro s; simp
    | cons a l ih =>
      intro s
      simp only [List.map_cons, List.foldl_cons, encode_letter]
      have e : (⟨s.toArray⟩ : ByteArray) ++ ⟨#[letterB a]⟩ = ⟨(s ++ [letterB a]).toArray⟩ := by
        apply ByteArray.ext
        simp [ByteArray.data_append]
      rw [e, ih]
      simp
  have h := key l []
  rw [List.nil_append] at h
  exact h

def isIC (b : UInt8) : Bool := b == 105 || b == 99
def typeB (b : UInt8) : Int := if b = 105 then 1 else 2
/-- The list whose text s is. -/
def readS (s : List UInt8) : Option (List Int) := if s = [45] then some [] else if s ≠ [] ∧ s.all isIC = true then some (s.map typeB) else none
def readL (s : List UInt8) : List Int := (readS s).getD []
def readE (s : List UInt8) : Int := if (readS s).isSome then 0 else 5

theorem decode_ic (s : ByteArray) (pos : Nat) (h : pos < s.size) : ∃ c d, Utf8.decode s pos = (c, d) ∧ 1 ≤ d ∧ (c = 105 → s[pos] = 105 ∧ d = 1) ∧ (c = 99 → s[pos] = 99 ∧ d = 1) ∧
    (c ≠ 105 → c ≠ 99 → isIC s[pos] = false) := by
  refine ⟨(Utf8.decode s pos).1, (Utf8.decode s pos).2, rfl, ?_⟩
  by_cases ha : (s[pos]'h).toNat < 128
  · rw [decode_ascii s pos h ha]
    refine ⟨Nat.le_refl _, fun e => ⟨UInt8.toNat_inj.1 e, rfl⟩, fun e => ⟨UInt8.toNat_inj.1 e, rfl⟩, fun h1 h2 => ?_⟩
    simp only [isIC, Bool.or_eq_false_iff, beq_eq_false_iff_ne]
    exact ⟨fun e => h1 (by rw [e]; rfl), fun e => h2 (by rw [e]; rfl)⟩
  · obtain ⟨h1, h2⟩ := decode_high s pos h (by omega)
    refine ⟨h2, fun e => by omega, fun e => by omega, fun _ _ => ?_⟩
    simp only [isIC, Bool.or_eq_false_iff, beq_eq_false_iff_ne]
    exact ⟨fun e => by rw [e] at ha; exact ha (by decide), fun e => by rw [e] at ha; exact ha (by decide)⟩

theorem textB_inj_none (xs : List Int) (hx : ∀ x ∈ xs, x = 1 ∨ x = 2) (s : List UInt8) (he : textB xs = s) : readS s = some xs := by
  subst he
  by_cases h : xs = []
  · subst h; rfl
  · have hl : ∀ x ∈ xs, isIC (letterB x) = true ∧ typeB (letterB x) = x := by
      intro x hm
      rcases hx x hm with rfl | rfl <;> decide
    have h45 : textB xs ≠ [45] := by
      intro e
      have : ∀ y ∈ xs.map letterB, isIC y = true := by simpa using fun x hm => (hl x hm).1
      simp only [textB, h, if_false] at e
      rw [e] at this
      exact absurd (this 45 (by simp)) (by decide)
    unfold readS
    rw [if_neg h45, if_pos]
    · congr 1
      simp only [textB, h, if_false, List.map_map]
      conv => rhs; rw [← List.map_id xs]
      exact List.map_congr_left fun x hm => (hl x hm).2
    · refine ⟨by simp [textB, h], ?_⟩
      simp only [textB, h, if_false, List.all_map, List.all_eq_true]
      exact fun x hm => (hl x hm).1

theorem textB_map (s : List UInt8) (h : s ≠ []) (ha : s.all isIC = true) : textB (s.map typeB) = s := by
  have : s.map typeB ≠ [] := by simpa using h
  simp only [textB, this, if_false, List.map_map]
  conv => rhs; rw [← List.map_id s]
  refine List.map_congr_left fun x hm => ?_
  have := (List.all_eq_true.1 ha) x hm
  simp only [isIC, Bool.or_eq_true, beq_iff_eq] at this
  rcases this with rfl | rfl <;> decide

/-- What the loop over a text's runes has gathered decides all. -/
theorem read_of (xs : List Int) (hx : ∀ x ∈ xs, x = 1 ∨ x = 2) (s : List UInt8) (h : s.all isIC = true → xs = s.map typeB) (h' : s.all (fun b => !isIC b) = true → xs = []) :
    (textB xs = s → readL s = xs ∧ readE s = 0) ∧ (textB xs ≠ s → readL s = [] ∧ readE s = 5) := by
  refine ⟨fun e => by simp [readL, readE, textB_inj_none xs hx s e], fun e => ?_⟩
  have : readS s = none := by
    unfold readS
    by_cases h45 : s = [45]
    · exfalso
      subst h45
      exact e (by simp [h' (by decide), textB])
    · rw [if_neg h45, if_neg]
      rintro ⟨h1, h2⟩
      exact e (by rw [h h2]; exact textB_map s h1 h2)
  simp [readL, readE, this]

/-- What is known of what the loop has gathered, pos bytes behind the beginning. -/
def Gath (s : ByteArray) (pos : Nat) (xs : List Int) : Prop :=
  (xs.length ≤ pos ∧ xs.length ≤ s.size) ∧ (∀ x ∈ xs, x = 1 ∨ x = 2) ∧ ((s.data.toList.take pos).all isIC = true → xs = (s.data.toList.take pos).map typeB) ∧ ((s.data.toList.take pos).all (fun b => !isIC b) = true → xs = [])

theorem Gath.start (s : ByteArray) : Gath s 0 [] := ⟨⟨Nat.le_refl _, Nat.zero_le _⟩, by simp, by simp, by simp⟩

theorem take_succ_get (s : ByteArray) (pos : Nat) (h : pos < s.size) : s.data.toList.take (pos + 1) = s.data.toList.take pos ++ [s[pos]] := by
  rw [List.take_succ_eq_append_getElem (by simpa using h)]; rfl

theorem Gath.hit {s : ByteArray} {pos : Nat} {xs : List Int} (h : Gath s pos xs) (hp : pos < s.size) (hc : isIC s[pos] = true) : Gath s (pos + 1) (xs ++ [typeB s[pos]]) := by
  obtain ⟨h1, h2, h3, h4⟩ := h
  refine ⟨by simp only [List.length_append, List.length_singleton]; omega, ?_, fun ha => ?_, fun ha => ?_⟩
  · intro x hx
    rcases List.mem_append.1 hx with hx | hx
    · exact h2 x hx
    · simp only [List.mem_singleton] at hx; subst hx; unfold typeB; split <;> simp
  · rw [take_succ_get s pos hp] at ha ⊢
    simp only [List.all_append, Bool.and_eq_true] at ha
    rw [h3 ha.1, List.map_append]; rfl
  · rw [take_succ_get s pos hp] at ha
    simp [hc] at ha

theorem Gath.miss {s : ByteArray} {pos d : Nat} {xs : List Int} (h : Gath s pos xs) (hp : pos < s.size) (hd : 1 ≤ d) (hc : isIC s[pos] = false) : Gath s (pos + d) xs := by
  obtain ⟨h1, h2, h3, h4⟩ := h
  have hsub : ∀ p : UInt8 → Bool, (s.data.toList.take (pos + d)).all p = true → (s.data.toList.take (pos + 1)).all p = true := by
    intro p ha
    rw [List.all_eq_true] at ha ⊢
    intro x hx
    refine ha x ?_
    have e : s.data.toList.take (pos + 1) = (s.data.toList.take (pos + d)).take (pos + 1) := by rw [List.take_take, Nat.min_eq_left (by omega)]
    rw [e] at hx
    exact List.mem_of_mem_take hx
  refine ⟨⟨by omega, h1.2⟩, h2, fun ha => ?_, fun ha => ?_⟩
  · have := hsub _ ha
    rw [take_succ_get s pos hp] at this
    simp [hc] at this
  · have := hsub _ ha
    rw [take_succ_get s pos hp, List.all_append, Bool.and_eq_true] at this
    exact h4 this.1

theorem Gath.end {s : ByteArray} {pos : Nat} {xs : List Int} (h : Gath s pos xs) (hp : ¬ pos < s.size) :
    (textB xs = s.data.toList → readL s.data.toList = xs ∧ readE s.data.toList = 0) ∧ (textB xs ≠ s.data.toList → readL s.data.toList = [] ∧ readE s.data.toList = 5) := by
  obtain ⟨h1, h2, h3, h4⟩ := h
  rw [List.take_of_length_le (by simpa using hp)] at h3 h4
  exact read_of xs h2 _ h3 h4

end Go.Proofs.YtkdnbnkbnegckaaGreatDoor
namespace Go.Proofs.YtkdnbnkbnegckaaGreatDoor
open Go.RowKit

theorem sig_letter (a : Int) (w : World) :
    Calls Tryz.prog 82 #[.int .i64 a] w fun e w' => e = .returned (.int .i32 (letterI a)) ∧ w = w' := by
  go_enter Tryz.func82, Tryz.ntmps82
  go_wp2
  all_goals go_ret
  all_goals (refine ⟨?_, rfl⟩; simp_all [letterI])

set_option maxHeartbeats 400000 in
theorem sig_Text (ao : Option Addr) (cap : Nat) (l : List Int) (w : World) (hc : Cells w ao (l.map (.int .i64))) (hl : l.length ≤ 17592186044416) :
    Calls Tryz.prog 58 #[.slice ao l.length cap] w fun e w' => e = .returned (.string (textS l)) ∧ Ext w w' := by
  by_cases h0 : l = []
  · subst h0
    go_enter Tryz.func58, Tryz.ntmps58
    go_wp2
    go_ret
    exact ⟨rfl, Ext.rf _⟩
  · have hpos : 0 < l.length := by cases l with | nil => exact absurd rfl h0 | cons => simp
    have hz : ((l.length : Int) == 0) = false := by simp; omega
    go_enter Tryz.func58, Tryz.ntmps58
    go_wp2
    go_loopw [3, 11] (fun v i wr => ∃ k : Nat, k ≤ l.length ∧ i = .int .i64 k ∧ wr.ownsRow w.heap.size 21 1 v k ((l.map fun x => .int .i32 (letterI x)).take k) ∧ Ext w wr)
      (fun _ i _ => l.length - (intOf i).toNat)
    case atStart => exact ⟨0, Nat.zero_le _, rfl, World.ownsRow_nil _ _ _ _, Ext.rf _⟩
    case round =>
      obtain ⟨k, hk, rfl, hown, hext⟩ := hrel
      by_cases hlt : k < l.length
      · obtain ⟨b, off, rfl, hcell⟩ := (hc.ext hext).at (k := k) (by simpa using hlt)
        simp only [List.getElem_map] at hcell
        go_wp2_with (first
          | (go_at_call 82; refine (sig_letter _ _).mono ?_; rintro e w1 ⟨rfl, rfl⟩)
          | (at_builtin; refine wpList_push rfl (.tmp 15) (.tmp 18) 128 rfl w.heap.size 21 21 (.int .i32 0) 1 4 Tryz.underlying128 (by kernel_rfl) rfl (by decide) _ k _ [.int .i32 (letterI l[k])] rfl hown _ rfl (by simp) rfl (by simp [Value.oneCell']) (by unfold maxLen; omega) (by omega) hext.size ?_))
        intro v' w1 hown1 hg
        have hext1 := hext.push hown (Nat.le_refl _) hg
        clear hg hcell hext hown
        go_wp2
        go_roundw
        case rel => exact ⟨k + 1, by omega, by go_num, by rw [List.take_add_one]; simpa [hlt] using hown1, hext1⟩
        case measure => simp [intOf]; omega
      · obtain rfl : k = l.length := by omega
        rw [List.take_of_length_le (by simp)] at hown
        obtain ⟨ao', cap', rfl, -, -, hc'⟩ := Cells.own hown
        have hconv := run_runes_string (P := Tryz.prog) (src := 128) (dst := 9) (e := 21) (cap := cap') (zs := l.map letterI) l.length (by simp) Tryz.underlying128 Tryz.underlying21 Tryz.underlying9 (by simpa [Function.comp_def] using hc')
        rw [runesBytes_letters] at hconv
        clear hown hc' hlt
        go_wp2
        go_ret
        exact ⟨by simp [textS, textB, h0], hext⟩
/-- What a call that hands back a new list leaves. -/
def RetList (k : IntKind) (xs : List Int) (err : Int) (w : World) (e : Ending) (w' : World) : Prop :=
  ∃ ao cap, e = .returned (.tuple #[.slice ao xs.length cap, .int .i64 err]) ∧ Cells w' ao (xs.map (.int k)) ∧ Ext w w' ∧ xs.length ≤ cap ∧ Fresh w.heap.size ao

set_option maxHeartbeats 1000000 in
set_option maxRecDepth 20000 in
theorem sig_Read (s : ByteArray) (w : World) (hl : s.size ≤ 17592186044416) :
    Calls Tryz.prog 25 #[.string s] w (RetList .i64 (readL s.data.toList) (readE s.data.toList) w) := by
  go_enter Tryz.func25, Tryz.ntmps25
  go_wp2
  go_loopw [4] (fun v wr => ∃ pos xs, wr.heap[w.heap.size]? = some (.stringIter s pos) ∧ wr.ownsRow (w.heap.size + 1) 99 1 v xs.length (xs.map (.int .i64)) ∧ Ext w wr ∧ w.heap.size + 1 ≤ wr.heap.size ∧ Gath s pos xs)
    (fun _ wr => s.size - wr.iterPos w.heap.size)
  case atStart => exact ⟨0, [], by simp [World.iter_heap], World.ownsRow_nil _ _ _ _, (Ext.rf w).al _, by simp [World.iter], Gath.start _⟩
  case round =>
    obtain ⟨pos, xs, hk, hown, hext, hsz, hg⟩ := hrel
    have hip : wr.iterPos w.heap.size = pos := by simp [World.iterPos, hk]
    by_cases hlt : pos < s.size
    · obtain ⟨c, d, hdec, hd1, hc1, hc2, hc3⟩ := decode_ic s pos hlt
      have hn := fun ty => Lib.run_next_any_at (P := Tryz.prog) wr w.heap.size s pos ty hk hlt
      rw [hdec] at hn
      have hk2 := Lib.iterAt_heap wr w.heap.size s pos (pos + d) hk
      have hsz2 : w.heap.size + 1 ≤ (wr.iterAt w.heap.size s (pos + d)).heap.size := by rw [Lib.iterAt_size]; exact hsz
      have hown2 := ownsRow_iterAt hown (Nat.lt_succ_self _) s (pos + d)
      have hext2 := hext.iterAt (Nat.le_refl _) s (pos + d)
      generalize wr.iterAt w.heap.size s (pos + d) = wi at *
      obtain ⟨hxl, hxs⟩ := hg.1
      by_cases e1 : c = 105
      · obtain ⟨hb, rfl⟩ := hc1 e1
        subst e1
        have hg2 := hg.hit hlt (by rw [hb]; rfl)
        rw [hb, show typeB 105 = 1 from rfl] at hg2
        clear hc1 hc2 hc3 hg hdec hb
        go_wp2_with (at_builtin; (refine wpList_push rfl (.tmp 15) (.tmp 16) 29 rfl (w.heap.size + 1) 99 99 (.int .i64 0) 1 8 Tryz.underlying29 (by kernel_rfl) rfl (by decide) _ xs.length _ [.int .i64 1] rfl hown2 _ rfl (by simp) rfl (by simp [Value.oneCell']) (by unfold maxLen; omega) (by omega) (by omega) ?_; intro v' w1 hown1 hgr; have hext1 := hext2.push hown2 (by omega) hgr; have hk1 := push_keeps hown2 hgr (Nat.lt_succ_self _) hk2; have hs1 := hgr.size; clear hgr hk2 hown2 hext2))
        go_roundw
        case rel => exact ⟨pos + 1, xs ++ [1], hk1, by simpa using hown1, hext1, by omega, hg2⟩
        case measure => rw [hip, iterPos_of hk1]; omega
      · by_cases e2 : c = 99
        · obtain ⟨hb, rfl⟩ := hc2 e2
          subst e2
          have hg2 := hg.hit hlt (by rw [hb]; rfl)
          rw [hb, show typeB 99 = 2 from rfl] at hg2
          clear hc1 hc2 hc3 hg hdec hb
          go_wp2_with (at_builtin; (refine wpList_push rfl (.tmp 20) (.tmp 21) 29 rfl (w.heap.size + 1) 99 99 (.int .i64 0) 1 8 Tryz.underlying29 (by kernel_rfl) rfl (by decide) _ xs.length _ [.int .i64 2] rfl hown2 _ rfl (by simp) rfl (by simp [Value.oneCell']) (by unfold maxLen; omega) (by omega) (by omega) ?_; intro v' w1 hown1 hgr; have hext1 := hext2.push hown2 (by omega) hgr; have hk1 := push_keeps hown2 hgr (Nat.lt_succ_self _) hk2; have hs1 := hgr.size; clear hgr hk2 hown2 hext2))
          go_roundw
          case rel => exact ⟨pos + 1, xs ++ [2], hk1, by simpa using hown1, hext1, by omega, hg2⟩
          case measure => rw [hip, iterPos_of hk1]; omega
        · have hg2 := hg.miss hlt hd1 (hc3 e1 e2)
          have t1 : ((c : Int) == 105) = false := by simp; omega
          have t2 : ((c : Int) == 99) = false := by simp; omega
          clear hc1 hc2 hc3 hg hdec e1 e2
          go_wp2
          go_roundw
          case rel => exact ⟨pos + d, xs, hk2, hown2, hext2, by omega, hg2⟩
          case measure => rw [hip, iterPos_of hk2]; omega
    · have hn := fun ty => Lib.run_next_end_at (P := Tryz.prog) wr w.heap.size s pos ty hk hlt
      have hend := hg.end hlt
      obtain ⟨ao', cap', rfl, hcl', -, hc'⟩ := Cells.own hown
      have HFR := Lib.hid (show Fresh w.heap.size ao' from by obtain ⟨a2, c2, e2, -, h2⟩ := own_cells hown; cases e2; exact h2.mono (by omega))
      have HCL := Lib.hid hcl'
      clear hcl'
      obtain ⟨hxl, hxs⟩ := hg.1
      clear hown hk hg
      have HE := Lib.hid hend
      clear hend
      go_wp2_with (go_at_call 58; (refine (sig_Text ao' cap' xs wr hc' (by omega)).mono ?_; rintro e w1 ⟨rfl, hb⟩))
      all_goals have ht := ‹(!(textS xs).toList == s.toList) = _›
      all_goals simp only [strEq, textS, Bool.not_eq_true', Bool.not_eq_false', decide_eq_true_eq, decide_eq_false_iff_not] at ht
      · go_ret2
        obtain ⟨e1, e2⟩ := HE.out.2 ht
        exact ⟨none, 0, by rw [e1, e2]; rfl, by rw [e1]; exact Cells.nil _ _, hext.tr hb, by rw [e1]; simp, fun ad e => by cases e⟩
      · go_ret2
        obtain ⟨e1, e2⟩ := HE.out.1 ht
        exact ⟨ao', cap', by rw [e1, e2]; rfl, by rw [e1]; exact hc'.ext hb, hext.tr hb, by rw [e1]; exact HCL.out, HFR.out⟩

end Go.Proofs.YtkdnbnkbnegckaaGreatDoor
