/- What a function comes to, by its own code: the lifted functions' results are those of the second machine. Short words for the texts of lifted functions. From the second machine to a law's walk: arguments that came in, and what is left behind. How data that came in are opened, as the second machine's data: along their type. -/
import Derived.Test.YtkdnbnkbnegckaaGreatEvV
import Derived.Test.YtkdnbnkbnegckaaGreatEvM
import Derived.Test.YtkdnbnkbnegckaaGreatOpen
import Derived.Test.YtkdnbnkbnegckaaGreatOpenW
import Derived.OpenShut
namespace Go.Proofs.YtkdnbnkbnegckaaGreat
open Go.RowKit

/-! What is packed is not lost -/
def width : Ty → Nat
  | .int _ | .bool | .str | .sl _ _ => 1
  | .nul => 0
  | .pr a b => width a + width b
theorem enc_len : ∀ (τ : Ty) (x : Data τ), (enc τ x).length = width τ
  | .int _, _ | .bool, _ | .str, _ | .sl _ _, _ | .nul, _ => rfl
  | .pr a b, x => by simp only [enc, width, List.length_append, enc_len a, enc_len b]
theorem encI_inj : ∀ {k : IntKind} {a b : DI k}, encI k a = encI k b → a = b
  | .u8, a, b, h => UInt8.toNat_inj.1 (Int.ofNat_inj.1 h)
  | .u16, _, _, h | .u32, _, _, h | .u64, _, _, h | .i8, _, _, h | .i16, _, _, h | .i32, _, _, h | .i64, _, _, h => h
theorem map_inj {α β : Type} {f : α → β} (hf : ∀ x y, f x = f y → x = y) : ∀ {l m : List α}, l.map f = m.map f → l = m
  | [], [], _ => rfl
  | [], y :: m, h => by simp at h
  | x :: l, [], h => by simp at h
  | x :: l, y :: m, h => by
    simp only [List.map_cons, List.cons.injEq] at h
    rw [hf x y h.1, map_inj hf h.2]
theorem enc_inj : ∀ {τ : Ty} {x y : Data τ}, enc τ x = enc τ y → x = y
  | .int k, x, y, h => by
    simp only [enc, List.cons.injEq, C.v.injEq, Value.int.injEq, true_and, and_true] at h
    exact encI_inj h
  | .bool, x, y, h => Value.bool.inj (C.v.inj (List.cons.inj h).1)
  | .str, x, y, h => Array.mk.inj (ByteArray.mk.inj (Value.string.inj (C.v.inj (List.cons.inj h).1)))
  | .sl sz e, x, y, h => by
    simp only [enc, List.cons.injEq, C.fz.injEq, true_and, and_true] at h
    exact map_inj (fun a b => enc_inj) h
  | .nul, _, _, _ => rfl
  | .pr a b, x, y, h => by
    simp only [enc] at h
    obtain ⟨h1, h2⟩ := List.append_inj h (by rw [enc_len, enc_len])
    exact Prod.ext (enc_inj h1) (enc_inj h2)
theorem encL_inj {τ : Ty} {l m : List (Data τ)} (h : encL τ l = encL τ m) : l = m := map_inj (fun _ _ => enc_inj) h

def cellTy : Ty → Bool
  | .int _ | .bool | .str | .sl _ _ => true
  | _ => false
def pxOk : PX → Bool
  | .hole τ => cellTy τ
  | _ => true
theorem holeX_inj {τ : Ty} (ht : cellTy τ = true) {x y : Data τ} (h : holeX τ x = holeX τ y) : x = y := by
  cases τ with
  | int k =>
    simp only [holeX, X.c.injEq, C.v.injEq, Value.int.injEq, true_and] at h
    exact encI_inj h
  | bool => exact Value.bool.inj (C.v.inj (X.c.inj h))
  | str => exact Array.mk.inj (ByteArray.mk.inj (Value.string.inj (C.v.inj (X.c.inj h))))
  | sl sz e =>
    simp only [holeX, X.c.injEq, C.fz.injEq, true_and] at h
    exact encL_inj h
  | nul => cases ht
  | pr a b => cases ht
theorem unX_inj {rw : List Row} {R : Type} : ∀ {ps : List PX} {d d' : DX ps R}, ps.all pxOk = true → (unX rw ps d).1 = (unX rw ps d').1 → (unX rw ps d).2 = (unX rw ps d').2 → d = d'
  | [], d, d', _, _, h => h
  | p :: ps, d, d', ho, h1, h2 => by
    simp only [List.all_cons, Bool.and_eq_true] at ho
    cases p with
    | hole τ =>
      simp only [unX, List.cons.injEq] at h1 h2
      exact Prod.ext (holeX_inj ho.1 h1.1) (unX_inj ho.2 h1.2 h2)
    | _ =>
      simp only [unX, List.cons.injEq, true_and] at h1 h2
      exact unX_inj (R := R) (ps := ps) ho.2 h1 h2
theorem unR_inj {R : Type} : ∀ {ps : List PRow} {d d' : DR ps R}, (unR ps d).1 = (unR ps d').1 → (unR ps d).2 = (unR ps d').2 → d = d'
  | [], d, d', _, h => h
  | p :: ps, d, d', h1, h2 => by
    cases p with
    | mu ty sz τ =>
      simp only [unR, List.cons.injEq, Row.mu.injEq, true_and] at h1 h2
      exact Prod.ext (encL_inj h1.1) (unR_inj h1.2 h2)
    | fro sz τ =>
      simp only [unR, List.cons.injEq, Row.fro.injEq, true_and] at h1 h2
      exact Prod.ext (encL_inj h1.1) (unR_inj h1.2 h2)
    | _ =>
      simp only [unR, List.cons.injEq, true_and] at h1 h2
      exact unR_inj (R := R) (ps := ps) h1 h2
theorem unB_inj {rw : List Row} {R : Type} : ∀ {ps : List (List PX)} {d d' : DB ps R}, (ps.all fun p => p.all pxOk) = true → (unB rw ps d).1 = (unB rw ps d').1 → (unB rw ps d).2 = (unB rw ps d').2 → d = d'
  | [], d, d', _, _, h => h
  | p :: ps, d, d', ho, h1, h2 => by
    simp only [List.all_cons, Bool.and_eq_true] at ho
    simp only [unB, List.cons.injEq] at h1 h2
    exact unX_inj ho.1 h1.1 (unB_inj ho.2 h1.2 h2)
theorem unE_inj {rw : List Row} {R : Type} : ∀ {ps : List (Kd × List PX)} {d d' : DE ps R}, (ps.all fun p => p.2.all pxOk) = true → (unE rw ps d).1 = (unE rw ps d').1 → (unE rw ps d).2 = (unE rw ps d').2 → d = d'
  | [], d, d', _, _, h => h
  | p :: ps, d, d', ho, h1, h2 => by
    simp only [List.all_cons, Bool.and_eq_true] at ho
    simp only [unE, List.cons.injEq, T.mk.injEq, true_and] at h1 h2
    exact unX_inj ho.1 h1.1 (unE_inj ho.2 h1.2 h2)
/-- A template in which nothing is lost, of one value. -/
def tplOk (t : Tpl) : Bool := (t.bx.all fun p => p.all pxOk) && (t.env.all fun p => p.2.all pxOk) && t.env.length == 1
theorem unE_len {rw : List Row} {R : Type} : ∀ {ps : List (Kd × List PX)} {d : DE ps R}, (unE rw ps d).1.length = ps.length
  | [], _ => rfl
  | p :: ps, d => by simp only [unE, List.length_cons, unE_len]
theorem unpack_inj {t : Tpl} (ht : tplOk t = true) {d d' : DT t} (h1 : hdT (unpack t d) = hdT (unpack t d')) (h2 : (unpack t d).h = (unpack t d').h) : d = d' := by
  simp only [tplOk, Bool.and_eq_true, beq_iff_eq] at ht
  obtain ⟨⟨o1, o2⟩, o3⟩ := ht
  simp only [unpack, Hp.mk.injEq] at h1 h2
  obtain ⟨hb, hr⟩ := h2
  refine unR_inj hr ?_
  rw [← hr] at hb h1
  refine unB_inj o1 hb (unE_inj (rw := (unR t.rw d).1) o2 ?_ rfl)
  obtain ⟨x, hx⟩ : ∃ x, (unE (unR t.rw d).1 t.env (unB (unR t.rw d).1 t.bx (unR t.rw d).2).2).1 = [x] := List.length_eq_one_iff.1 (by rw [unE_len, o3])
  obtain ⟨y, hy⟩ : ∃ x, (unE (unR t.rw d).1 t.env (unB (unR t.rw d).1 t.bx (unR t.rw d').2).2).1 = [x] := List.length_eq_one_iff.1 (by rw [unE_len, o3])
  rw [hx, hy]
  simp only [hdT, hx, hy, List.headD_cons] at h1
  rw [h1]

/-! A function's results, by its code -/
section
variable {P : Program} {A : Ann} {plans : FuncId → Nat → List (Nat × Bool)} {f : FuncId} {tin tout : Tpl}
open Classical in
noncomputable def Sof (P : Program) (A : Ann) (plans : FuncId → Nat → List (Nat × Bool)) (f : FuncId) (tin tout : Tpl) (d : DT tin) : Option (DT tout) :=
  if h : ∃ q, ∀ args0, wkL (A.wk f) args0 = (unpack tin d).env → callW P A plans f args0 (unpack tin d).h = some (hdT (unpack tout q), (unpack tout q).h) then some h.choose else none
theorem ctr_ok : (Ctr.mk f tin tout (Sof P A plans f tin tout)).ok P A plans := fun d q h args0 hw => by
  simp only [Sof] at h
  split at h
  · rename_i hx
    cases h
    exact hx.choose_spec args0 hw
  · cases h
theorem Sof_of {Q : Lift} {N n : Nat} {d : DT tin} {q : DT tout} (hQ : ∀ c ∈ Q.ctr, c.ok P A plans) (hB : ∀ f a h, (A.base f a h).isSome = true → Q.bs f = true) (hbs : Q.bs f = false) (ht : tplOk tout = true) (hw : wkL (A.wk f) (unpack tin d).env = (unpack tin d).env)
    (h : lifted Q P A plans N n f tin tout d = some q) : Sof P A plans f tin tout d = some q := by
  have hx : ∃ q, ∀ args0, wkL (A.wk f) args0 = (unpack tin d).env → callW P A plans f args0 (unpack tin d).h = some (hdT (unpack tout q), (unpack tout q).h) := ⟨q, fun args0 ha => lifted_ok hQ hB hbs h ha⟩
  have h1 := lifted_ok hQ hB hbs h hw
  have h2 := hx.choose_spec _ hw
  rw [h1] at h2
  simp only [Option.some.injEq, Prod.mk.injEq] at h2
  simp only [Sof, dif_pos hx]
  exact congrArg some (unpack_inj ht h2.1 h2.2).symm
end
end Go.Proofs.YtkdnbnkbnegckaaGreat
namespace Go.Proofs.YtkdnbnkbnegckaaGreat
open Go.RowKit

abbrev tI : Ty := .int .i64
abbrev tW : Ty := .int .u64
abbrev tY : Ty := .int .u8
abbrev tC : Ty := .pr tI tI
abbrev tN : Ty := .pr tI (.pr tI (.pr tI (.pr tI (.pr tI (.pr tI tI)))))
abbrev tS : Ty := .pr tW (.pr tW (.pr tW tW))
abbrev tF : Ty := .pr .str (.pr .bool (.pr (.sl 1 tI) (.pr (.sl 1 tI) (.pr (.sl 1 tI) (.pr (.sl 1 tI) (.pr (.sl 2 tC) (.pr (.sl 1 tI) (.pr (.sl 7 tN) (.pr (.sl 1 tI) (.sl 4 tS))))))))))
abbrev LB := List UInt8
abbrev LI := List Int
abbrev LC := List (Int × Int)
abbrev LN := List (Int × (Int × (Int × (Int × (Int × (Int × Int))))))
abbrev LS := List (Int × (Int × (Int × Int)))
abbrev LF := List (LB × (Bool × (LI × (LI × (LI × (LI × (LC × (LI × (LN × (LI × LS))))))))))
abbrev eI (l : LI) := encL tI l
abbrev eW (l : LI) := encL tW l
abbrev eY (l : LB) := encL tY l
abbrev eC (l : LC) := encL tC l
abbrev eN (l : LN) := encL tN l
abbrev eS (l : LS) := encL tS l
abbrev eF (l : LF) := encL tF l
abbrev bA0 : ByteArray := ByteArray.mk (Array.mk [])
section
variable {β : Type}
noncomputable def dI (l : LI) (k : LI → Option β) : Option β := decL tI (encL tI l) k
noncomputable def dW (l : LI) (k : LI → Option β) : Option β := decL tW (encL tW l) k
noncomputable def dY (l : LB) (k : LB → Option β) : Option β := decL tY (encL tY l) k
noncomputable def dC (l : LC) (k : LC → Option β) : Option β := decL tC (encL tC l) k
noncomputable def dN (l : LN) (k : LN → Option β) : Option β := decL tN (encL tN l) k
noncomputable def dS (l : LS) (k : LS → Option β) : Option β := decL tS (encL tS l) k
noncomputable def dF (l : LF) (k : LF → Option β) : Option β := decL tF (encL tF l) k
noncomputable def qS (l : List (List C)) (r : Option β) : Option β := chk (eqES l l) r
noncomputable def qI (n : Int) (r : Option β) : Option β := chk (eqI n n) r
noncomputable def qN (n : Nat) (r : Option β) : Option β := chk (eqN n n) r
noncomputable def qB (b : ByteArray) (r : Option β) : Option β := chk (eqBA b b) r
noncomputable def qO (b : Bool) (r : Option β) : Option β := chk (eqB b b) r
end
end Go.Proofs.YtkdnbnkbnegckaaGreat
namespace Go.Proofs.YtkdnbnkbnegckaaGreat
open Go.RowKit

abbrev W0 : Nat → Who := fun _ => .frozen
abbrev L0 : Lay := ⟨id, fun _ => undef⟩
/-- A slice that came in. -/
theorem repC_in {W : World} {sz cap : Nat} {es : List (List C)} {ao : Option Addr} {us : List Value} (h0 : 0 < sz) (hu : ∀ e ∈ es, e.length = sz) (hc : es.length ≤ cap) (hC : Cells W ao us) (hr : RepCs W W0 es.flatten us) : RepC W W0 (.fz sz es) (.slice ao es.length cap) := by
  have hne : es ≠ [] → us ≠ [] := fun he hn => by
    subst hn
    have h1 := hr.1
    rw [flatten_len es hu] at h1
    have : 0 < es.length := List.length_pos_iff.2 he
    have : 0 < es.length * sz := Nat.mul_pos this h0
    simp at h1
    omega
  exact .fz sz cap es ao us hu hc (fun he => hC.addr (hne he)) (fun b off he ha => ⟨rfl, Cells.lt (ha ▸ hC) (hne he)⟩) (fun b off ha j v hj => hC.cell b off ha j v hj) hr.1 hr.2
/-- Of elements that are scalars. -/
theorem repC_scal {W : World} {cap : Nat} {ao : Option Addr} {us : List Value} (hs : ∀ u ∈ us, scalar u = true) (hc : us.length ≤ cap) (hC : Cells W ao us) : RepC W W0 (.fz 1 (us.map fun u => [.v u])) (.slice ao us.length cap) := by
  have := repC_in (W := W) (sz := 1) (cap := cap) (es := us.map fun u => [C.v u]) (ao := ao) (us := us) (by omega) (by simp) (by simpa using hc) hC ?_
  · simpa using this
  · have hf : (us.map fun u => [C.v u]).flatten = us.map C.v := by
      clear hs hc hC
      induction us with
      | nil => rfl
      | cons u us ih => simp [ih]
    rw [hf]
    refine ⟨by simp, fun i c u h1 h2 => ?_⟩
    rw [List.getElem?_map, h2] at h1
    cases h1
    exact .v u (hs u (List.mem_of_getElem? h2))
theorem repT_c {W : World} {c : C} {v : Value} (h : RepC W W0 c v) : RepT W W0 L0 ⟨[], []⟩ ⟨.one, [.c c]⟩ v := ⟨_, rfl, h⟩
theorem repT_bytes {W : World} {cap : Nat} {ao : Option Addr} {b : List UInt8} (hC : Cells W ao (b.map byteC)) (hc : b.length ≤ cap) : RepT W W0 L0 ⟨[], []⟩ ⟨.one, [.c (.fz 1 (b.map fun n => [.v (.int .u8 n.toNat)]))]⟩ (.slice ao b.length cap) := by
  have := repC_scal (W := W) (cap := cap) (us := b.map byteC) (by intro u hu; obtain ⟨x, _, rfl⟩ := List.mem_map.1 hu; rfl) (by simpa using hc) hC
  simp only [List.map_map, List.length_map] at this
  exact repT_c this
theorem repT_ints {W : World} {cap : Nat} {ao : Option Addr} {b : List Int} (hC : Cells W ao (b.map fun n => .int .i64 n)) (hc : b.length ≤ cap) : RepT W W0 L0 ⟨[], []⟩ ⟨.one, [.c (.fz 1 (b.map fun n => [.v (.int .i64 n)]))]⟩ (.slice ao b.length cap) := by
  have := repC_scal (W := W) (cap := cap) (us := b.map fun n => Value.int .i64 n) (by intro u hu; obtain ⟨x, _, rfl⟩ := List.mem_map.1 hu; rfl) (by simpa using hc) hC
  simp only [List.map_map, List.length_map] at this
  exact repT_c this

/-- A law that holds on the second machine. -/
theorem law_of {P : Program} {A : Ann} {plans : FuncId → Nat → List (Nat × Bool)} {f : FuncId} {args : List T} {h' : Hp} {vs : Array Value} {W : World} (hB : KOk P A.base) (hP : progOk P plans = true)
    (hc : callW P A plans f args ⟨[], []⟩ = some (⟨.one, [.c (.v (.bool true))]⟩, h')) (hl : args.length = vs.size)
    (hr : ∀ (i : Nat) t v, args[i]? = some t → vs[i]? = some v → RepT W W0 L0 ⟨[], []⟩ t v) : Calls P f vs W fun e W' => e = .returned (.bool true) ∧ Ext W W' := by
  have h := (callW_ok (A := A) hB hP f args ⟨[], []⟩ _ h' hc).2 W W0 L0 vs.toList ⟨fun k xs h => by simp at h, fun r ty sz es h => by simp at h, fun r sz es h => by simp at h⟩ (by simpa using hl) (fun i t v h1 h2 => hr i t v h1 (by simpa using h2))
  refine (show Calls P f vs W _ from h).mono fun e W' ⟨v, who', L', he, hv, _, hs⟩ => ?_
  subst he
  obtain ⟨x, hx, hx2⟩ := hv
  cases hx
  have : v = .bool true := by cases hx2; rfl
  subst this
  exact ⟨rfl, hs.os, hs.tape, hs.output, hs.size, fun k hk => (hs.fro k rfl hk).1⟩

/-- What lies above the heap that was is taken for frozen. -/
def whoN (W : World) (who : Nat → Who) : Nat → Who := fun b => if b < W.heap.size then who b else .frozen
theorem ext_frozen {W W' : World} {who : Nat → Who} {L : Lay} {h : Hp} (H : HSim W who L h) (hext : Ext W W') : HSim W' (whoN W who) L h ∧ Step .no W who L h W' (whoN W who) L h := by
  have hw2 : ∀ b, b < W.heap.size → whoN W who b = who b := fun b hb => if_pos hb
  have hsame : ∀ k, k < W.heap.size → W'.heap[k]? = W.heap[k]? := fun k hk => hext.block hk
  have S2 : Step .no W who L h W' (whoN W who) L h :=
    { os := hext.b.os, tape := hext.b.tape, output := hext.b.output, size := hext.size
      fro := fun b hb hlt => ⟨hsame b hlt, (hw2 b hlt).trans hb⟩
      oth := fun b hb hlt => ⟨hsame b hlt, (hw2 b hlt).trans hb⟩
      bx := Nat.le_refl _, box := fun _ _ => rfl
      rw := Nat.le_refl _, row := fun r _ sz es he => ⟨⟨es, he, rfl⟩, rfl⟩
      keepB := fun b hlt k hb _ => ⟨hsame b hlt, (hw2 b hlt).trans hb⟩
      keepR := fun b hlt k hb _ => ⟨hsame b hlt, .inl ((hw2 b hlt).trans hb)⟩ }
  refine ⟨⟨fun k xs hk => ?_, fun r ty sz es hr => ?_, fun r sz es hr => S2.froR (H.frz r sz es hr)⟩, S2⟩
  · have hb := (H.box_lt (List.getElem?_eq_some_iff.1 hk).1).1
    exact box_same S2 H hk (hsame _ hb) (hw2 _ hb)
  · have hmu := H.mu r ty sz es hr
    exact own_same S2 hmu fun g hg => ⟨hsame g (hmu.lt hg), (hw2 g (hmu.lt hg)).trans (hmu.who g hg)⟩
end Go.Proofs.YtkdnbnkbnegckaaGreat
namespace Go.Proofs.YtkdnbnkbnegckaaGreat
open Go.RowKit Go.WideShapes

def okI : (k : IntKind) → DI k → Prop
  | .i64, n => I64 n
  | .u64, n => (0 : Int) ≤ n ∧ n < 18446744073709551616
  | _, _ => True
/-- Numbers of a word, texts and rows that a machine can reach. -/
def OkD : (τ : Ty) → Data τ → Prop
  | .int k, x => okI k x
  | .bool, _ => True
  | .str, x => x.length ≤ 140737488351232
  | .sl _ e, x => x.length ≤ 140737488351232 ∧ ∀ y ∈ x, OkD e y
  | .nul, _ => True
  | .pr a b, x => OkD a x.1 ∧ OkD b x.2
def DatR (τ : Ty) : World → List Value → Data τ → Prop := fun w cs x => RepCs w W0 (enc τ x) cs ∧ OkD τ x
abbrev OpensD (P : Program) (t : TypeId) (τ : Ty) : Prop := OpensW P t (DatR τ)
theorem DatR.len {τ : Ty} {w : World} {cs : List Value} {x : Data τ} (h : DatR τ w cs x) : cs.length = width τ := by rw [← h.1.1, enc_len]
theorem repCs_one {w : World} {c : C} {v : Value} (h : RepC w W0 c v) : RepCs w W0 [c] [v] := ⟨rfl, fun i c' u h1 h2 => by
  cases i with
  | zero => cases h1; cases h2; exact h
  | succ i => simp at h1⟩
theorem repCs_nil {w : World} : RepCs w W0 [] [] := ⟨rfl, fun i c u h1 _ => by simp at h1⟩
section
variable {P : Program} {t : TypeId}
theorem opensD_i64 (ht : P.underlying t = some (.int .i64)) : OpensD P t (.int .i64) := (opensW_int ht).mono id fun w cs n ⟨h1, h2⟩ => by
  subst h1
  exact ⟨repCs_one (.v _ rfl), h2⟩
set_option maxRecDepth 20000 in
theorem wf_u64' {n : Int} (h : (Lit.int .u64 n).wf = true) : 0 ≤ n ∧ n < 18446744073709551616 := by
  simp [Lit.wf, IntKind.min, IntKind.max, IntKind.signed, IntKind.bits] at h
  omega
set_option maxRecDepth 20000 in
theorem wf_u8' {n : Int} (h : (Lit.int .u8 n).wf = true) : 0 ≤ n ∧ n < 256 := by
  simp [Lit.wf, IntKind.min, IntKind.max, IntKind.signed, IntKind.bits] at h
  omega
theorem opensD_u64 (ht : P.underlying t = some (.int .u64)) : OpensD P t (.int .u64) := fun _ _ _ _ _ _ _ _ _ h _ => by
  obtain ⟨n, e, _, hw⟩ := DataW.trod_int ht h
  subst e
  exact ⟨n, repCs_one (.v _ rfl), wf_u64' hw⟩
theorem opensD_u8 (ht : P.underlying t = some (.int .u8)) : OpensD P t (.int .u8) := fun _ _ _ _ _ _ _ _ _ h _ => by
  obtain ⟨n, e, _, hw⟩ := DataW.trod_int ht h
  subst e
  have h2 := wf_u8' hw
  refine ⟨UInt8.ofNat n.toNat, ?_, trivial⟩
  have e2 : n = u8I (UInt8.ofNat n.toNat) := by
    simp only [u8I, UInt8.toNat_ofNat']
    omega
  conv => rhs; rw [e2]
  exact repCs_one (.v _ rfl)
theorem opensD_bool (ht : P.underlying t = some .bool) : OpensD P t .bool := (opensW_bool ht).mono id fun w cs b h1 => by
  subst h1
  exact ⟨repCs_one (.v _ rfl), trivial⟩
theorem opensD_str (ht : P.underlying t = some .string) : OpensD P t .str := (opensW_str ht).mono (fun s => s.data.toList) fun w cs s ⟨h1, h2⟩ => by
  subst h1
  exact ⟨repCs_one (.v _ rfl), h2⟩
theorem allR_dat {τ : Ty} {sz : Nat} {w : World} : ∀ {ecs : List (List Value)} {xs : List (Data τ)}, AllR sz (DatR τ) w ecs xs → RepCs w W0 (encL τ xs).flatten ecs.flatten ∧ (∀ x ∈ xs, OkD τ x) ∧ ∀ e ∈ ecs, e.length = sz
  | [], [], _ => ⟨repCs_nil, fun _ h => by simp at h, fun _ h => by simp at h⟩
  | c :: cs, x :: xs, ⟨h1, h2, h3⟩ => by
    obtain ⟨k1, k2, k3⟩ := allR_dat h3
    exact ⟨h2.1.append k1, by simpa using ⟨h2.2, k2⟩, by simpa using ⟨h1, k3⟩⟩
theorem opensD_sl {e : TypeId} {sz by' : Nat} {τ : Ty} (ht : P.underlying t = some (.slice e)) (hc : P.cellsOf e = sz) (hby : P.bytesOf e = by') (hs : width τ = sz) (h0 : 0 < sz) (hb0 : 0 < by') (he : OpensD P e τ) : OpensD P t (.sl sz τ) :=
  (opensW_slice ht hc hby he).mono (fun x => x.1) fun w cs x ⟨ecs, h1, h2, h3, h4, h5⟩ => by
    obtain ⟨xs, ao, cap⟩ := x
    obtain ⟨k1, k2, k3⟩ := allR_dat h5
    simp only at h1 h2 h3 h4 k1 k2
    subst h1
    have hl : (encL τ xs).length = xs.length := List.length_map _
    have hr : RepC w W0 (.fz sz (encL τ xs)) (.slice ao xs.length cap) := by
      rw [← hl]
      exact repC_in h0 (fun c hc => by
        obtain ⟨y, _, rfl⟩ := List.mem_map.1 hc
        rw [enc_len, hs]) (by rw [hl]; exact h2) h4 k1
    refine ⟨repCs_one hr, ?_, k2⟩
    have : xs.length * 1 ≤ xs.length * by' := Nat.mul_le_mul_left _ hb0
    show xs.length ≤ _
    omega
/-- The fields of a struct, from one on. -/
def FldR (τ : Ty) : World → List Value → Data τ → Prop := fun w cs x => ∃ c d, cs = c ++ d ∧ DatR τ w c x
theorem opensFD_one {f : Field} {off : Nat} {τ : Ty} (ho : f.offset = off) (hn : P.cellsOf f.type = width τ) (h : OpensD P f.type τ) : OpensFW P [f] off (FldR τ) := fun H enc w base spare held fuel cs xs hl hx hw => by
  obtain ⟨⟨a, _⟩, c, d, e, _, hr, _⟩ := OpensFW.cons ho hn h (fun _ _ _ h => h.len) (OpensFW.nil (off := off + width τ)) H enc w base spare held fuel cs xs hl hx hw
  exact ⟨a, c, d, e, hr⟩
theorem opensFD_cons {f : Field} {fs : List Field} {off : Nat} {τ σ : Ty} (ho : f.offset = off) (hn : P.cellsOf f.type = width τ) (h : OpensD P f.type τ) (hs : OpensFW P fs (off + width τ) (FldR σ)) : OpensFW P (f :: fs) off (FldR (.pr τ σ)) := fun H enc w base spare held fuel cs xs hl hx hw => by
  obtain ⟨⟨a, b⟩, c, d, e, _, hr, c2, d2, e2, hr2⟩ := OpensFW.cons ho hn h (fun _ _ _ h => h.len) hs H enc w base spare held fuel cs xs hl hx hw
  simp only at hr hr2 e2
  exact ⟨(a, b), c ++ c2, d2, by rw [e, e2, List.append_assoc], hr.1.append hr2.1, hr.2, hr2.2⟩
theorem opensD_struct {fs : Array Field} {τ : Ty} (ht : P.underlying t = some (.struct fs)) (hc : P.cellsOf t = width τ) (h : OpensFW P fs.toList 0 (FldR τ)) : OpensD P t τ :=
  (opensW_struct ht h).mono id fun w cs x ⟨hl, c, d, e, hr⟩ => by
    have : d = [] := by
      have h1 := hr.len
      rw [e, List.length_append, h1, hc] at hl
      exact List.eq_nil_of_length_eq_zero (by omega)
    subst this
    rw [List.append_nil] at e
    subst e
    exact hr
theorem opensD_arr4 {e : TypeId} (ht : P.underlying t = some (.array 4 e)) (he : P.underlying e = some (.int .u64)) (hc : P.cellsOf e = 1) (hc4 : P.cellsOf t = 4) : OpensD P t (.pr (.int .u64) (.pr (.int .u64) (.pr (.int .u64) (.int .u64)))) :=
  fun H enc w base spare held fuel cs x hx _ => by
    obtain ⟨xs, m, _, _, hl, hlen, hf⟩ := DataW.trod_array ht hx
    have hl4 : cs.length = 4 := by rw [hl, hc4]
    obtain ⟨v0, v1, v2, v3, rfl⟩ : ∃ v0 v1 v2 v3, cs = [v0, v1, v2, v3] := by
      match cs, hl4 with
      | [v0, v1, v2, v3], _ => exact ⟨v0, v1, v2, v3, rfl⟩
    have f0 := hf 0 (by decide)
    have f1 := hf 1 (by decide)
    have f2 := hf 2 (by decide)
    have f3 := hf 3 (by decide)
    rw [hc] at f0 f1 f2 f3
    rw [List.getElem?_eq_getElem (by omega)] at f0 f1 f2 f3
    obtain ⟨n0, q0, _, w0⟩ := DataW.trod_int he f0
    obtain ⟨n1, q1, _, w1⟩ := DataW.trod_int he f1
    obtain ⟨n2, q2, _, w2⟩ := DataW.trod_int he f2
    obtain ⟨n3, q3, _, w3⟩ := DataW.trod_int he f3
    simp at q0 q1 q2 q3
    subst q0 q1 q2 q3
    exact ⟨(n0, (n1, (n2, n3))), (repCs_one (.v _ rfl)).append ((repCs_one (.v _ rfl)).append ((repCs_one (.v _ rfl)).append (repCs_one (.v _ rfl)))), wf_u64' w0, wf_u64' w1, wf_u64' w2, wf_u64' w3⟩
end
/-- An argument, opened with its weight. -/
theorem open_d {P : Program} {t : TypeId} {τ : Ty} (ho : OpensD P t τ) {H : Type} {enc : TypeId × Value → H} {W : World} {base : Nat} {spare : Nat → Bool} {held : Bool} {v : Value} {d : DataW H} {p : List MemPlace} {ts : List TypeId} {ds : List (DataW H)}
    (hsz : (DataW.weightsEach P ts ds).all (· ≤ reachBytes) = true) {j : Nat} (htj : ts[j]? = some t) (hdj : ds[j]? = some d) (h : DataW.Trod enc P W base spare held t v d p) : ∃ a, DatR τ W v.cells.toList a := by
  obtain ⟨fuel, hf⟩ := h
  exact ho H enc W base spare held fuel _ _ hf (fun n hn => by
    exact of_decide_eq_true (List.all_eq_true.1 hsz _ (DataW.weights_mem_each htj hdj n hn)))
/-- An argument as the second machine sees it. -/
def argA (τ : Ty) (x : Data τ) : T := ⟨.agg, (enc τ x).map .c⟩
theorem repCs_xs {w : World} {cs : List C} {us : List Value} (h : RepCs w W0 cs us) : RepXs w W0 L0 ⟨[], []⟩ (cs.map .c) us := ⟨by simpa using h.1, fun i x u h1 h2 => by
  rw [List.getElem?_map] at h1
  cases hc : cs[i]? with
  | none => rw [hc] at h1; cases h1
  | some c =>
    rw [hc] at h1
    cases h1
    exact ⟨h.2 i c u hc h2, h.one u (List.mem_of_getElem? h2)⟩⟩
theorem rep_argA {w : World} {τ : Ty} {x : Data τ} {cs : List Value} (h : DatR τ w cs x) : RepT w W0 L0 ⟨[], []⟩ (argA τ x) (.agg cs.toArray) := ⟨cs, rfl, repCs_xs h.1⟩
theorem rep_argO {w : World} {τ : Ty} {x : Data τ} {c : C} {v : Value} (he : enc τ x = [c]) (h : DatR τ w [v] x) : RepT w W0 L0 ⟨[], []⟩ ⟨.one, [.c c]⟩ v := by
  have h1 := h.1
  rw [he] at h1
  exact repT_c (h1.2 0 c v rfl rfl)
end Go.Proofs.YtkdnbnkbnegckaaGreat
