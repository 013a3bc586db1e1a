/- What a function comes to, by its own code: the lifted functions' results are those of the second machine. -/
import Derived.Test.YtkdnbnkbnegckaaEvV
namespace Go.Proofs.Ytkdnbnkbnegckaa
open Go.RowKit

/-! What is packed is not lost -/
def width : Ty → Nat
  | .int _ | .bool | .str | .sl _ _ => 1
  | .nul => 0
  | .pr a b => width a + width b
theorem enc_len : ∀ (τ : Ty) (x : Data τ), (enc τ x).length = width τ
  | .int _, _ | .bool, _ | .str, _ | .sl _ _, _ | .nul, _ => rfl
  | .pr a b, x => by simp only [enc, width, List.length_append, enc_len a, enc_len b]
theorem encI_inj : ∀ {k : IntKind} {a b : DI k}, encI k a = encI k b → a = b
  | .u8, a, b, h => UInt8.toNat_inj.1 (Int.ofNat_inj.1 h)
  | .u16, _, _, h | .u32, _, _, h | .u64, _, _, h | .i8, _, _, h | .i16, _, _, h | .i32, _, _, h | .i64, _, _, h => h
theorem map_inj {α β : Type} {f : α → β} (hf : ∀ x y, f x = f y → x = y) : ∀ {l m : List α}, l.map f = m.map f → l = m
  | [], [], _ => rfl
  | [], y :: m, h => by simp at h
  | x :: l, [], h => by simp at h
  | x :: l, y :: m, h => by
    simp only [List.map_cons, List.cons.injEq] at h
    rw [hf x y h.1, map_inj hf h.2]
theorem enc_inj : ∀ {τ : Ty} {x y : Data τ}, enc τ x = enc τ y → x = y
  | .int k, x, y, h => by
    simp only [enc, List.cons.injEq, C.v.injEq, Value.int.injEq, true_and, and_true] at h
    exact encI_inj h
  | .bool, x, y, h => Value.bool.inj (C.v.inj (List.cons.inj h).1)
  | .str, x, y, h => Array.mk.inj (ByteArray.mk.inj (Value.string.inj (C.v.inj (List.cons.inj h).1)))
  | .sl sz e, x, y, h => by
    simp only [enc, List.cons.injEq, C.fz.injEq, true_and, and_true] at h
    exact map_inj (fun a b => enc_inj) h
  | .nul, _, _, _ => rfl
  | .pr a b, x, y, h => by
    simp only [enc] at h
    obtain ⟨h1, h2⟩ := List.append_inj h (by rw [enc_len, enc_len])
    exact Prod.ext (enc_inj h1) (enc_inj h2)
theorem encL_inj {τ : Ty} {l m : List (Data τ)} (h : encL τ l = encL τ m) : l = m := map_inj (fun _ _ => enc_inj) h

def cellTy : Ty → Bool
  | .int _ | .bool | .str | .sl _ _ => true
  | _ => false
def pxOk : PX → Bool
  | .hole τ => cellTy τ
  | _ => true
theorem holeX_inj {τ : Ty} (ht : cellTy τ = true) {x y : Data τ} (h : holeX τ x = holeX τ y) : x = y := by
  cases τ with
  | int k =>
    simp only [holeX, X.c.injEq, C.v.injEq, Value.int.injEq, true_and] at h
    exact encI_inj h
  | bool => exact Value.bool.inj (C.v.inj (X.c.inj h))
  | str => exact Array.mk.inj (ByteArray.mk.inj (Value.string.inj (C.v.inj (X.c.inj h))))
  | sl sz e =>
    simp only [holeX, X.c.injEq, C.fz.injEq, true_and] at h
    exact encL_inj h
  | nul => cases ht
  | pr a b => cases ht
theorem unX_inj {rw : List Row} {R : Type} : ∀ {ps : List PX} {d d' : DX ps R}, ps.all pxOk = true → (unX rw ps d).1 = (unX rw ps d').1 → (unX rw ps d).2 = (unX rw ps d').2 → d = d'
  | [], d, d', _, _, h => h
  | p :: ps, d, d', ho, h1, h2 => by
    simp only [List.all_cons, Bool.and_eq_true] at ho
    cases p with
    | hole τ =>
      simp only [unX, List.cons.injEq] at h1 h2
      exact Prod.ext (holeX_inj ho.1 h1.1) (unX_inj ho.2 h1.2 h2)
    | _ =>
      simp only [unX, List.cons.injEq, true_and] at h1 h2
      exact unX_inj (R := R) (ps := ps) ho.2 h1 h2
theorem unR_inj {R : Type} : ∀ {ps : List PRow} {d d' : DR ps R}, (unR ps d).1 = (unR ps d').1 → (unR ps d).2 = (unR ps d').2 → d = d'
  | [], d, d', _, h => h
  | p :: ps, d, d', h1, h2 => by
    cases p with
    | mu ty sz τ =>
      simp only [unR, List.cons.injEq, Row.mu.injEq, true_and] at h1 h2
      exact Prod.ext (encL_inj h1.1) (unR_inj h1.2 h2)
    | fro sz τ =>
      simp only [unR, List.cons.injEq, Row.fro.injEq, true_and] at h1 h2
      exact Prod.ext (encL_inj h1.1) (unR_inj h1.2 h2)
    | _ =>
      simp only [unR, List.cons.injEq, true_and] at h1 h2
      exact unR_inj (R := R) (ps := ps) h1 h2
theorem unB_inj {rw : List Row} {R : Type} : ∀ {ps : List (List PX)} {d d' : DB ps R}, (ps.all fun p => p.all pxOk) = true → (unB rw ps d).1 = (unB rw ps d').1 → (unB rw ps d).2 = (unB rw ps d').2 → d = d'
  | [], d, d', _, _, h => h
  | p :: ps, d, d', ho, h1, h2 => by
    simp only [List.all_cons, Bool.and_eq_true] at ho
    simp only [unB, List.cons.injEq] at h1 h2
    exact unX_inj ho.1 h1.1 (unB_inj ho.2 h1.2 h2)
theorem unE_inj {rw : List Row} {R : Type} : ∀ {ps : List (Kd × List PX)} {d d' : DE ps R}, (ps.all fun p => p.2.all pxOk) = true → (unE rw ps d).1 = (unE rw ps d').1 → (unE rw ps d).2 = (unE rw ps d').2 → d = d'
  | [], d, d', _, _, h => h
  | p :: ps, d, d', ho, h1, h2 => by
    simp only [List.all_cons, Bool.and_eq_true] at ho
    simp only [unE, List.cons.injEq, T.mk.injEq, true_and] at h1 h2
    exact unX_inj ho.1 h1.1 (unE_inj ho.2 h1.2 h2)
/-- A template in which nothing is lost, of one value. -/
def tplOk (t : Tpl) : Bool := (t.bx.all fun p => p.all pxOk) && (t.env.all fun p => p.2.all pxOk) && t.env.length == 1
theorem unE_len {rw : List Row} {R : Type} : ∀ {ps : List (Kd × List PX)} {d : DE ps R}, (unE rw ps d).1.length = ps.length
  | [], _ => rfl
  | p :: ps, d => by simp only [unE, List.length_cons, unE_len]
theorem unpack_inj {t : Tpl} (ht : tplOk t = true) {d d' : DT t} (h1 : hdT (unpack t d) = hdT (unpack t d')) (h2 : (unpack t d).h = (unpack t d').h) : d = d' := by
  simp only [tplOk, Bool.and_eq_true, beq_iff_eq] at ht
  obtain ⟨⟨o1, o2⟩, o3⟩ := ht
  simp only [unpack, Hp.mk.injEq] at h1 h2
  obtain ⟨hb, hr⟩ := h2
  refine unR_inj hr ?_
  rw [← hr] at hb h1
  refine unB_inj o1 hb (unE_inj (rw := (unR t.rw d).1) o2 ?_ rfl)
  obtain ⟨x, hx⟩ : ∃ x, (unE (unR t.rw d).1 t.env (unB (unR t.rw d).1 t.bx (unR t.rw d).2).2).1 = [x] := List.length_eq_one_iff.1 (by rw [unE_len, o3])
  obtain ⟨y, hy⟩ : ∃ x, (unE (unR t.rw d).1 t.env (unB (unR t.rw d).1 t.bx (unR t.rw d').2).2).1 = [x] := List.length_eq_one_iff.1 (by rw [unE_len, o3])
  rw [hx, hy]
  simp only [hdT, hx, hy, List.headD_cons] at h1
  rw [h1]

/-! A function's results, by its code -/
section
variable {P : Program} {A : Ann} {plans : FuncId → Nat → List (Nat × Bool)} {f : FuncId} {tin tout : Tpl}
open Classical in
noncomputable def Sof (P : Program) (A : Ann) (plans : FuncId → Nat → List (Nat × Bool)) (f : FuncId) (tin tout : Tpl) (d : DT tin) : Option (DT tout) :=
  if h : ∃ q, ∀ args0, wkL (A.wk f) args0 = (unpack tin d).env → callW P A plans f args0 (unpack tin d).h = some (hdT (unpack tout q), (unpack tout q).h) then some h.choose else none
theorem ctr_ok : (Ctr.mk f tin tout (Sof P A plans f tin tout)).ok P A plans := fun d q h args0 hw => by
  simp only [Sof] at h
  split at h
  · rename_i hx
    cases h
    exact hx.choose_spec args0 hw
  · cases h
theorem Sof_of {Q : Lift} {N n : Nat} {d : DT tin} {q : DT tout} (hQ : ∀ c ∈ Q.ctr, c.ok P A plans) (hB : ∀ f a h, (A.base f a h).isSome = true → Q.bs f = true) (hbs : Q.bs f = false) (ht : tplOk tout = true) (hw : wkL (A.wk f) (unpack tin d).env = (unpack tin d).env)
    (h : lifted Q P A plans N n f tin tout d = some q) : Sof P A plans f tin tout d = some q := by
  have hx : ∃ q, ∀ args0, wkL (A.wk f) args0 = (unpack tin d).env → callW P A plans f args0 (unpack tin d).h = some (hdT (unpack tout q), (unpack tout q).h) := ⟨q, fun args0 ha => lifted_ok hQ hB hbs h ha⟩
  have h1 := lifted_ok hQ hB hbs h hw
  have h2 := hx.choose_spec _ hw
  rw [h1] at h2
  simp only [Option.some.injEq, Prod.mk.injEq] at h2
  simp only [Sof, dif_pos hx]
  exact congrArg some (unpack_inj ht h2.1 h2.2).symm
end
end Go.Proofs.Ytkdnbnkbnegckaa
