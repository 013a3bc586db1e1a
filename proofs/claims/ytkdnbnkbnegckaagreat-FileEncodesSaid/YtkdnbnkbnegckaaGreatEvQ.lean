/- What a function comes to, by its own code: the lifted functions' results are those of the second machine. Short words for the texts of lifted functions. Lifted functions, brought to a plain form. The number that bytes begin with, plain. From the second machine to a law's walk: arguments that came in, and what is left behind. -/
import Derived.Test.YtkdnbnkbnegckaaGreatEvV
import Derived.Laws.Bits64b
import Derived.Laws.BitsAllLaws
import Derived.Test.YtkdnbnkbnegckaaGreatBase
import Derived.Test.YtkdnbnkbnegckaaGreatStrA
import Derived.Test.YtkdnbnkbnegckaaGreatEvM
namespace Go.Proofs.YtkdnbnkbnegckaaGreat
open Go.RowKit

/-! What is packed is not lost -/
def width : Ty → Nat
  | .int _ | .bool | .str | .sl _ _ => 1
  | .nul => 0
  | .pr a b => width a + width b
theorem enc_len : ∀ (τ : Ty) (x : Data τ), (enc τ x).length = width τ
  | .int _, _ | .bool, _ | .str, _ | .sl _ _, _ | .nul, _ => rfl
  | .pr a b, x => by simp only [enc, width, List.length_append, enc_len a, enc_len b]
theorem encI_inj : ∀ {k : IntKind} {a b : DI k}, encI k a = encI k b → a = b
  | .u8, a, b, h => UInt8.toNat_inj.1 (Int.ofNat_inj.1 h)
  | .u16, _, _, h | .u32, _, _, h | .u64, _, _, h | .i8, _, _, h | .i16, _, _, h | .i32, _, _, h | .i64, _, _, h => h
theorem map_inj {α β : Type} {f : α → β} (hf : ∀ x y, f x = f y → x = y) : ∀ {l m : List α}, l.map f = m.map f → l = m
  | [], [], _ => rfl
  | [], y :: m, h => by simp at h
  | x :: l, [], h => by simp at h
  | x :: l, y :: m, h => by
    simp only [List.map_cons, List.cons.injEq] at h
    rw [hf x y h.1, map_inj hf h.2]
theorem enc_inj : ∀ {τ : Ty} {x y : Data τ}, enc τ x = enc τ y → x = y
  | .int k, x, y, h => by
    simp only [enc, List.cons.injEq, C.v.injEq, Value.int.injEq, true_and, and_true] at h
    exact encI_inj h
  | .bool, x, y, h => Value.bool.inj (C.v.inj (List.cons.inj h).1)
  | .str, x, y, h => Array.mk.inj (ByteArray.mk.inj (Value.string.inj (C.v.inj (List.cons.inj h).1)))
  | .sl sz e, x, y, h => by
    simp only [enc, List.cons.injEq, C.fz.injEq, true_and, and_true] at h
    exact map_inj (fun a b => enc_inj) h
  | .nul, _, _, _ => rfl
  | .pr a b, x, y, h => by
    simp only [enc] at h
    obtain ⟨h1, h2⟩ := List.append_inj h (by rw [enc_len, enc_len])
    exact Prod.ext (enc_inj h1) (enc_inj h2)
theorem encL_inj {τ : Ty} {l m : List (Data τ)} (h : encL τ l = encL τ m) : l = m := map_inj (fun _ _ => enc_inj) h

def cellTy : Ty → Bool
  | .int _ | .bool | .str | .sl _ _ => true
  | _ => false
def pxOk : PX → Bool
  | .hole τ => cellTy τ
  | _ => true
theorem holeX_inj {τ : Ty} (ht : cellTy τ = true) {x y : Data τ} (h : holeX τ x = holeX τ y) : x = y := by
  cases τ with
  | int k =>
    simp only [holeX, X.c.injEq, C.v.injEq, Value.int.injEq, true_and] at h
    exact encI_inj h
  | bool => exact Value.bool.inj (C.v.inj (X.c.inj h))
  | str => exact Array.mk.inj (ByteArray.mk.inj (Value.string.inj (C.v.inj (X.c.inj h))))
  | sl sz e =>
    simp only [holeX, X.c.injEq, C.fz.injEq, true_and] at h
    exact encL_inj h
  | nul => cases ht
  | pr a b => cases ht
theorem unX_inj {rw : List Row} {R : Type} : ∀ {ps : List PX} {d d' : DX ps R}, ps.all pxOk = true → (unX rw ps d).1 = (unX rw ps d').1 → (unX rw ps d).2 = (unX rw ps d').2 → d = d'
  | [], d, d', _, _, h => h
  | p :: ps, d, d', ho, h1, h2 => by
    simp only [List.all_cons, Bool.and_eq_true] at ho
    cases p with
    | hole τ =>
      simp only [unX, List.cons.injEq] at h1 h2
      exact Prod.ext (holeX_inj ho.1 h1.1) (unX_inj ho.2 h1.2 h2)
    | _ =>
      simp only [unX, List.cons.injEq, true_and] at h1 h2
      exact unX_inj (R := R) (ps := ps) ho.2 h1 h2
theorem unR_inj {R : Type} : ∀ {ps : List PRow} {d d' : DR ps R}, (unR ps d).1 = (unR ps d').1 → (unR ps d).2 = (unR ps d').2 → d = d'
  | [], d, d', _, h => h
  | p :: ps, d, d', h1, h2 => by
    cases p with
    | mu ty sz τ =>
      simp only [unR, List.cons.injEq, Row.mu.injEq, true_and] at h1 h2
      exact Prod.ext (encL_inj h1.1) (unR_inj h1.2 h2)
    | fro sz τ =>
      simp only [unR, List.cons.injEq, Row.fro.injEq, true_and] at h1 h2
      exact Prod.ext (encL_inj h1.1) (unR_inj h1.2 h2)
    | _ =>
      simp only [unR, List.cons.injEq, true_and] at h1 h2
      exact unR_inj (R := R) (ps := ps) h1 h2
theorem unB_inj {rw : List Row} {R : Type} : ∀ {ps : List (List PX)} {d d' : DB ps R}, (ps.all fun p => p.all pxOk) = true → (unB rw ps d).1 = (unB rw ps d').1 → (unB rw ps d).2 = (unB rw ps d').2 → d = d'
  | [], d, d', _, _, h => h
  | p :: ps, d, d', ho, h1, h2 => by
    simp only [List.all_cons, Bool.and_eq_true] at ho
    simp only [unB, List.cons.injEq] at h1 h2
    exact unX_inj ho.1 h1.1 (unB_inj ho.2 h1.2 h2)
theorem unE_inj {rw : List Row} {R : Type} : ∀ {ps : List (Kd × List PX)} {d d' : DE ps R}, (ps.all fun p => p.2.all pxOk) = true → (unE rw ps d).1 = (unE rw ps d').1 → (unE rw ps d).2 = (unE rw ps d').2 → d = d'
  | [], d, d', _, _, h => h
  | p :: ps, d, d', ho, h1, h2 => by
    simp only [List.all_cons, Bool.and_eq_true] at ho
    simp only [unE, List.cons.injEq, T.mk.injEq, true_and] at h1 h2
    exact unX_inj ho.1 h1.1 (unE_inj ho.2 h1.2 h2)
/-- A template in which nothing is lost, of one value. -/
def tplOk (t : Tpl) : Bool := (t.bx.all fun p => p.all pxOk) && (t.env.all fun p => p.2.all pxOk) && t.env.length == 1
theorem unE_len {rw : List Row} {R : Type} : ∀ {ps : List (Kd × List PX)} {d : DE ps R}, (unE rw ps d).1.length = ps.length
  | [], _ => rfl
  | p :: ps, d => by simp only [unE, List.length_cons, unE_len]
theorem unpack_inj {t : Tpl} (ht : tplOk t = true) {d d' : DT t} (h1 : hdT (unpack t d) = hdT (unpack t d')) (h2 : (unpack t d).h = (unpack t d').h) : d = d' := by
  simp only [tplOk, Bool.and_eq_true, beq_iff_eq] at ht
  obtain ⟨⟨o1, o2⟩, o3⟩ := ht
  simp only [unpack, Hp.mk.injEq] at h1 h2
  obtain ⟨hb, hr⟩ := h2
  refine unR_inj hr ?_
  rw [← hr] at hb h1
  refine unB_inj o1 hb (unE_inj (rw := (unR t.rw d).1) o2 ?_ rfl)
  obtain ⟨x, hx⟩ : ∃ x, (unE (unR t.rw d).1 t.env (unB (unR t.rw d).1 t.bx (unR t.rw d).2).2).1 = [x] := List.length_eq_one_iff.1 (by rw [unE_len, o3])
  obtain ⟨y, hy⟩ : ∃ x, (unE (unR t.rw d).1 t.env (unB (unR t.rw d).1 t.bx (unR t.rw d').2).2).1 = [x] := List.length_eq_one_iff.1 (by rw [unE_len, o3])
  rw [hx, hy]
  simp only [hdT, hx, hy, List.headD_cons] at h1
  rw [h1]

/-! A function's results, by its code -/
section
variable {P : Program} {A : Ann} {plans : FuncId → Nat → List (Nat × Bool)} {f : FuncId} {tin tout : Tpl}
open Classical in
noncomputable def Sof (P : Program) (A : Ann) (plans : FuncId → Nat → List (Nat × Bool)) (f : FuncId) (tin tout : Tpl) (d : DT tin) : Option (DT tout) :=
  if h : ∃ q, ∀ args0, wkL (A.wk f) args0 = (unpack tin d).env → callW P A plans f args0 (unpack tin d).h = some (hdT (unpack tout q), (unpack tout q).h) then some h.choose else none
theorem ctr_ok : (Ctr.mk f tin tout (Sof P A plans f tin tout)).ok P A plans := fun d q h args0 hw => by
  simp only [Sof] at h
  split at h
  · rename_i hx
    cases h
    exact hx.choose_spec args0 hw
  · cases h
theorem Sof_of {Q : Lift} {N n : Nat} {d : DT tin} {q : DT tout} (hQ : ∀ c ∈ Q.ctr, c.ok P A plans) (hB : ∀ f a h, (A.base f a h).isSome = true → Q.bs f = true) (hbs : Q.bs f = false) (ht : tplOk tout = true) (hw : wkL (A.wk f) (unpack tin d).env = (unpack tin d).env)
    (h : lifted Q P A plans N n f tin tout d = some q) : Sof P A plans f tin tout d = some q := by
  have hx : ∃ q, ∀ args0, wkL (A.wk f) args0 = (unpack tin d).env → callW P A plans f args0 (unpack tin d).h = some (hdT (unpack tout q), (unpack tout q).h) := ⟨q, fun args0 ha => lifted_ok hQ hB hbs h ha⟩
  have h1 := lifted_ok hQ hB hbs h hw
  have h2 := hx.choose_spec _ hw
  rw [h1] at h2
  simp only [Option.some.injEq, Prod.mk.injEq] at h2
  simp only [Sof, dif_pos hx]
  exact congrArg some (unpack_inj ht h2.1 h2.2).symm
end
end Go.Proofs.YtkdnbnkbnegckaaGreat
namespace Go.Proofs.YtkdnbnkbnegckaaGreat
open Go.RowKit

abbrev tI : Ty := .int .i64
abbrev tW : Ty := .int .u64
abbrev tY : Ty := .int .u8
abbrev tC : Ty := .pr tI tI
abbrev tN : Ty := .pr tI (.pr tI (.pr tI (.pr tI (.pr tI (.pr tI tI)))))
abbrev tS : Ty := .pr tW (.pr tW (.pr tW tW))
abbrev tF : Ty := .pr .str (.pr .bool (.pr (.sl 1 tI) (.pr (.sl 1 tI) (.pr (.sl 1 tI) (.pr (.sl 1 tI) (.pr (.sl 2 tC) (.pr (.sl 1 tI) (.pr (.sl 7 tN) (.pr (.sl 1 tI) (.sl 4 tS))))))))))
abbrev LB := List UInt8
abbrev LI := List Int
abbrev LC := List (Int × Int)
abbrev LN := List (Int × (Int × (Int × (Int × (Int × (Int × Int))))))
abbrev LS := List (Int × (Int × (Int × Int)))
abbrev LF := List (LB × (Bool × (LI × (LI × (LI × (LI × (LC × (LI × (LN × (LI × LS))))))))))
abbrev eI (l : LI) := encL tI l
abbrev eY (l : LB) := encL tY l
abbrev eC (l : LC) := encL tC l
abbrev eN (l : LN) := encL tN l
abbrev eS (l : LS) := encL tS l
abbrev eF (l : LF) := encL tF l
abbrev bA0 : ByteArray := ByteArray.mk (Array.mk [])
section
variable {β : Type}
noncomputable def dI (l : LI) (k : LI → Option β) : Option β := decL tI (encL tI l) k
noncomputable def dW (l : LI) (k : LI → Option β) : Option β := decL tW (encL tW l) k
noncomputable def dY (l : LB) (k : LB → Option β) : Option β := decL tY (encL tY l) k
noncomputable def dC (l : LC) (k : LC → Option β) : Option β := decL tC (encL tC l) k
noncomputable def dN (l : LN) (k : LN → Option β) : Option β := decL tN (encL tN l) k
noncomputable def dS (l : LS) (k : LS → Option β) : Option β := decL tS (encL tS l) k
noncomputable def dF (l : LF) (k : LF → Option β) : Option β := decL tF (encL tF l) k
noncomputable def qS (l : List (List C)) (r : Option β) : Option β := chk (eqES l l) r
noncomputable def qI (n : Int) (r : Option β) : Option β := chk (eqI n n) r
noncomputable def qN (n : Nat) (r : Option β) : Option β := chk (eqN n n) r
noncomputable def qB (b : ByteArray) (r : Option β) : Option β := chk (eqBA b b) r
noncomputable def qO (b : Bool) (r : Option β) : Option β := chk (eqB b b) r
end
end Go.Proofs.YtkdnbnkbnegckaaGreat
namespace Go.Proofs.YtkdnbnkbnegckaaGreat
open Go.RowKit

section
variable {α β : Type}
@[simp] theorem chk_t {r : Option β} : chk true r = r := rfl
@[simp] theorem chk_f {r : Option β} : chk false r = none := rfl
@[simp] theorem chk_d {p : Prop} [Decidable p] {r : Option β} : chk (decide p) r = if p then r else none := by by_cases h : p <;> simp [h]
@[simp] theorem cnd_t {x y : Option β} : cnd true x y = x := rfl
@[simp] theorem cnd_f {x y : Option β} : cnd false x y = y := rfl
@[simp] theorem cnd_d {p : Prop} [Decidable p] {x y : Option β} : cnd (decide p) x y = if p then x else y := by by_cases h : p <;> simp [h]
@[simp] theorem chk_and {a b : Bool} {r : Option β} : chk (a && b) r = chk a (chk b r) := by cases a <;> rfl
theorem cnd_b {b : Bool} {x y : Option β} : cnd b x y = if b = true then x else y := by cases b <;> rfl
@[simp] theorem cnd_same {b : Bool} {x : Option β} : cnd b x x = x := by cases b <;> rfl
@[simp] theorem cnd_not {b : Bool} {x y : Option β} : cnd (!b) x y = cnd b y x := by cases b <;> rfl
@[simp] theorem bnd_s {a : α} {k : α → Option β} : bnd (some a) k = k a := rfl
@[simp] theorem bnd_n {k : α → Option β} : bnd none k = none := rfl
theorem bnd_get {l : List α} {i : Nat} (h : i < l.length) {k : α → Option β} : bnd l[i]? k = k l[i] := by rw [List.getElem?_eq_getElem h]; rfl
@[simp] theorem joinK_l {δ : Type} {d : δ} {k : δ → Option β} : joinK (leftK d) k = k d := rfl
@[simp] theorem joinK_r {δ : Type} {r : Option β} {k : δ → Option β} : joinK (rightK r) k = r := by cases r <;> rfl
@[simp] theorem joinK_n {δ : Type} {k : δ → Option β} : joinK none k = none := rfl
@[simp] theorem joinK_ite {δ : Type} {p : Prop} [Decidable p] {a b : δ} {k : δ → Option β} : joinK (if p then leftK a else leftK b) k = k (if p then a else b) := by split <;> rfl
theorem joinK_if {δ : Type} {p : Prop} [Decidable p] {x y : Option (δ ⊕ β)} {k : δ → Option β} : joinK (if p then x else y) k = if p then joinK x k else joinK y k := by split <;> rfl
theorem iter_s {f : α → (α → Option β) → Option β} {n : Nat} {a : α} : iter f (n + 1) a = f a (iter f n) := rfl
@[simp high] theorem joinK_lr {δ : Type} {p : Prop} [Decidable p] {a : δ} {r : Option β} {k : δ → Option β} : joinK (if p then leftK a else rightK r) k = if p then k a else r := by split <;> simp
@[simp high] theorem joinK_rl {δ : Type} {p : Prop} [Decidable p] {a : δ} {r : Option β} {k : δ → Option β} : joinK (if p then rightK r else leftK a) k = if p then r else k a := by split <;> simp
@[simp high] theorem joinK_and {υ : Type} {p : Prop} [Decidable p] {b : Bool} {u : υ} {k : Bool × υ → Option β} : joinK (if p then leftK (b, u) else leftK (false, u)) k = k (decide p && b, u) := by by_cases h : p <;> simp [h]
@[simp high] theorem joinK_or {υ : Type} {p : Prop} [Decidable p] {b : Bool} {u : υ} {k : Bool × υ → Option β} : joinK (if p then leftK (true, u) else leftK (b, u)) k = k (decide p || b, u) := by by_cases h : p <;> simp [h]
@[simp] theorem cnd_and {p q : Prop} [Decidable p] [Decidable q] {x y : Option β} : cnd (decide p && decide q) x y = if p ∧ q then x else y := by by_cases h : p <;> by_cases h2 : q <;> simp [h, h2]
@[simp] theorem cnd_or {p q : Prop} [Decidable p] [Decidable q] {x y : Option β} : cnd (decide p || decide q) x y = if p ∨ q then x else y := by by_cases h : p <;> by_cases h2 : q <;> simp [h, h2]
/-- A loop: what holds of what its rounds come to. -/
theorem iter_ex {f : α → (α → Option β) → Option β} (μ : α → Nat) (I : α → Prop) {R : Option β → Prop} (h : ∀ a again, I a → (∀ b, I b → μ b < μ a → R (again b)) → R (f a again)) : ∀ N a, I a → μ a < N → R (iter f N a)
  | 0, a, _, hm => by omega
  | N + 1, a, ha, hm => h a _ ha fun b hb hlt => iter_ex μ I h N b hb (by omega)
theorem iter_to {f : α → (α → Option β) → Option β} {x : Option β} (μ : α → Nat) (I : α → Prop) (h : ∀ a again, I a → (∀ b, I b → μ b < μ a → again b = x) → f a again = x) : ∀ N a, I a → μ a < N → iter f N a = x := iter_ex (R := fun r => r = x) μ I h
theorem iter_join {δ : Type} {f : α → (α → Option (δ ⊕ β)) → Option (δ ⊕ β)} {k : δ → Option β} {x : Option β} (μ : α → Nat) (I : α → Prop) (h : ∀ a again, I a → (∀ b, I b → μ b < μ a → joinK (again b) k = x) → joinK (f a again) k = x) : ∀ N a, I a → μ a < N → joinK (iter f N a) k = x := iter_ex (R := fun r => joinK r k = x) μ I h
end

@[simp] theorem leI_d {a b : Int} : leI a b = decide (a ≤ b) := rfl
@[simp] theorem ltI_d {a b : Int} : ltI a b = decide (a < b) := rfl
@[simp] theorem eqI_d {a b : Int} : eqI a b = decide (a = b) := by simp [eqI, Bool.beq_eq_decide_eq]
@[simp] theorem leN_d {a b : Nat} : leN a b = decide (a ≤ b) := rfl
@[simp] theorem ltN_d {a b : Nat} : ltN a b = decide (a < b) := rfl
@[simp] theorem eqN_d {a b : Nat} : eqN a b = decide (a = b) := rfl
@[simp] theorem notB_d {b : Bool} : notB b = !b := rfl
@[simp] theorem eqB_s {b : Bool} : eqB b b = true := by simp [eqB]
@[simp] theorem eqES_s {l : List (List C)} : eqES l l = true := by simp [eqES]
@[simp] theorem eqBA_s {l : ByteArray} : eqBA l l = true := by simp [eqBA]
@[simp] theorem natI_d {n : Int} : natI n = n.toNat := rfl
@[simp] theorem addN_d {a b : Nat} : addN a b = a + b := rfl
@[simp] theorem addI_d {a b : Int} : addI a b = a + b := rfl
@[simp] theorem subI_d {a b : Int} : subI a b = a - b := rfl
@[simp] theorem mulI_d {a b : Int} : mulI a b = a * b := rfl
@[simp] theorem subN_d {a b : Int} : subN a b = (a - b).toNat := rfl
theorem room_t {a b c : Nat} (h : a + b ≤ 2000000) (hc : c ≤ 1000) : room a b c = true := by
  have : (a + b) * c ≤ 2000000 * 1000 := Nat.mul_le_mul h hc
  refine decide_eq_true ⟨?_, by omega⟩
  unfold maxLen
  omega
@[simp] theorem remI_d {a b : Int} : remI a b = a.tmod b := rfl
theorem wi64 {n : Int} (h1 : -9223372036854775808 ≤ n) (h2 : n < 9223372036854775808) : wrp .i64 n = n := by rw [wrp, IntKind.wrap_i64]; omega
theorem wu64 {n : Int} (h1 : 0 ≤ n) (h2 : n < 18446744073709551616) : wrp .u64 n = n := by rw [wrp, IntKind.wrap_u64]; omega
@[simp] theorem wrp_z {k : IntKind} : wrp k 0 = 0 := by cases k <;> rfl
@[simp] theorem wrp_u8b {x : UInt8} : wrp .u8 (u8I x) = u8I x := by
  have := x.toNat_lt
  rw [wrp, IntKind.wrap_u8']; simp only [u8I]; omega
@[simp] theorem wrp_u64b {x : UInt8} : wrp .u64 (u8I x) = u8I x := by
  have := x.toNat_lt
  rw [wrp, IntKind.wrap_u64]; simp only [u8I]; omega
@[simp] theorem wrp_i64b {x : UInt8} : wrp .i64 (u8I x) = u8I x := by
  have := x.toNat_lt
  rw [wrp, IntKind.wrap_i64]; simp only [u8I]; omega
@[simp] theorem quoI_d {a b : Int} : quoI a b = a.tdiv b := rfl
@[simp] theorem negI_d {a : Int} : negI a = -a := by simp [negI]
theorem u8_lt {x : UInt8} : u8I x < 256 := by have := x.toNat_lt; simp only [u8I]; omega
theorem u8_ge {x : UInt8} : 0 ≤ u8I x := by simp only [u8I]; omega
@[simp] theorem inU8_z : inU8 0 = true := rfl
@[simp] theorem toU8_z : toU8 0 = 0 := rfl
@[simp] theorem inU8_u8 {x : UInt8} : inU8 (u8I x) = true := decide_eq_true ⟨u8_ge, u8_lt⟩
@[simp] theorem toU8_u8 {x : UInt8} : toU8 (u8I x) = x := by simp [toU8, u8I]

/-! Lists of data -/
section
variable {τ : Ty} {β : Type}
@[simp] theorem decK_enc {x : Data τ} {k : Data τ → Option β} : decK τ (enc τ x) k = k x := by
  unfold decK
  have h : ∃ y, enc τ x = enc τ y := ⟨x, rfl⟩
  rw [dif_pos h, ← enc_inj h.choose_spec]
@[simp] theorem decL_enc {l : List (Data τ)} {k : List (Data τ) → Option β} : decL τ (encL τ l) k = k l := by
  unfold decL
  have h : ∃ y, encL τ l = encL τ y := ⟨l, rfl⟩
  rw [dif_pos h, ← encL_inj h.choose_spec]
@[simp] theorem decL_nil {k : List (Data τ) → Option β} : decL τ [] k = k [] := decL_enc (l := [])
@[simp] theorem dI_d {β : Type} {l : LI} {k : LI → Option β} : dI l k = k l := decL_enc
@[simp] theorem dW_d {β : Type} {l : LI} {k : LI → Option β} : dW l k = k l := decL_enc
@[simp] theorem dY_d {β : Type} {l : LB} {k : LB → Option β} : dY l k = k l := decL_enc
@[simp] theorem dC_d {β : Type} {l : LC} {k : LC → Option β} : dC l k = k l := decL_enc
@[simp] theorem dN_d {β : Type} {l : LN} {k : LN → Option β} : dN l k = k l := decL_enc
@[simp] theorem dS_d {β : Type} {l : LS} {k : LS → Option β} : dS l k = k l := decL_enc
@[simp] theorem dF_d {β : Type} {l : LF} {k : LF → Option β} : dF l k = k l := decL_enc
@[simp] theorem qS_d {β : Type} {l : List (List C)} {r : Option β} : qS l r = r := by simp [qS]
@[simp] theorem qI_d {β : Type} {n : Int} {r : Option β} : qI n r = r := by simp [qI]
@[simp] theorem qN_d {β : Type} {n : Nat} {r : Option β} : qN n r = r := by simp [qN]
@[simp] theorem qB_d {β : Type} {b : ByteArray} {r : Option β} : qB b r = r := by simp [qB]
@[simp] theorem qO_d {β : Type} {b : Bool} {r : Option β} : qO b r = r := by simp [qO]
@[simp] theorem getE_enc {l : List (Data τ)} {i : Nat} {k : Data τ → Option β} : getE τ (encL τ l) i k = bnd l[i]? k := by
  simp only [getE, encL, mapE, List.getElem?_map]
  cases l[i]? with
  | none => rfl
  | some x => exact decK_enc
@[simp] theorem vnum_enc {l : List (Data τ)} : vnum (encL τ l) = l.length := List.length_map _
@[simp] theorem vlen_enc {l : List (Data τ)} : vlen (encL τ l) = (l.length : Int) := by simp only [vlen, encL, mapE, List.length_map]
@[simp] theorem vnum_nil : vnum [] = 0 := rfl
@[simp] theorem vlen_nil : vlen [] = 0 := rfl
@[simp] theorem vcut_enc {l : List (Data τ)} {a b : Nat} : vcut (encL τ l) a b = encL τ ((l.drop a).take b) := by simp only [vcut, encL, mapE, List.map_take, List.map_drop]
@[simp] theorem vapp_enc {l m : List (Data τ)} : vapp (encL τ l) (encL τ m) = encL τ (l ++ m) := by simp only [vapp, encL, mapE, List.map_append]
@[simp] theorem vapp_nil {l : List (List C)} : vapp [] l = l := rfl
@[simp] theorem one_enc {x : Data τ} : [enc τ x] = encL τ [x] := rfl
end
@[simp] theorem bytes_enc {l : List UInt8} : bytesOf (encL (.int .u8) l) = some l := by
  induction l with
  | nil => rfl
  | cons x l ih =>
    show (bytesOf (encL (.int .u8) l)).map (UInt8.ofNat (u8I x).toNat :: ·) = _
    rw [ih]
    simp [u8I]
@[simp] theorem strK_enc {β : Type} {l : List UInt8} {k : ByteArray → Option β} : strK (encL (.int .u8) l) k = k ⟨⟨l⟩⟩ := by
  simp only [strK, bytes_enc, bnd_s]
@[simp] theorem getS_d {β : Type} {l : List UInt8} {i : Nat} {k : UInt8 → Option β} : getS ⟨⟨l⟩⟩ i k = bnd l[i]? k := by simp [getS]
@[simp] theorem slen_d {l : List UInt8} : slen ⟨⟨l⟩⟩ = (l.length : Int) := rfl
@[simp] theorem encS_d {l : List UInt8} : encS ⟨⟨l⟩⟩ = encL (.int .u8) l := rfl
@[simp] theorem seq2_d {a b : List UInt8} : seq2 ⟨⟨a⟩⟩ ⟨⟨b⟩⟩ = decide (a = b) := by simp [seq2, Bool.beq_eq_decide_eq]
@[simp] theorem take_rest {α : Type} {l : List α} {k : Nat} : List.take (l.length - k) (List.drop k l) = List.drop k l := List.take_of_length_le (by simp)
/-! Cells -/
@[simp] theorem cell_i64 {n : Int} : [C.v (.int .i64 n)] = enc (.int .i64) n := rfl
@[simp] theorem cell_u64 {n : Int} : [C.v (.int .u64 n)] = enc (.int .u64) n := rfl
@[simp] theorem cell_u8 {n : UInt8} : [C.v (.int .u8 (u8I n))] = enc (.int .u8) n := rfl
@[simp] theorem cells_i64 {τ : Ty} {n : Int} {x : Data τ} : C.v (.int .i64 n) :: enc τ x = enc (.pr (.int .i64) τ) (n, x) := rfl
@[simp] theorem cells_u64 {τ : Ty} {n : Int} {x : Data τ} : C.v (.int .u64 n) :: enc τ x = enc (.pr (.int .u64) τ) (n, x) := rfl
@[simp] theorem cells_bool {τ : Ty} {b : Bool} {x : Data τ} : C.v (.bool b) :: enc τ x = enc (.pr .bool τ) (b, x) := rfl
@[simp] theorem cells_str {τ : Ty} {b : List UInt8} {x : Data τ} : C.v (.string ⟨⟨b⟩⟩) :: enc τ x = enc (.pr .str τ) (b, x) := rfl
@[simp] theorem cells_fz {τ σ : Ty} {sz : Nat} {l : List (Data σ)} {x : Data τ} : C.fz sz (encL σ l) :: enc τ x = enc (.pr (.sl sz σ) τ) (l, x) := rfl
@[simp] theorem cell_fz {σ : Ty} {sz : Nat} {l : List (Data σ)} : [C.fz sz (encL σ l)] = enc (.sl sz σ) l := rfl
@[simp] theorem cell_str {b : List UInt8} : [C.v (.string ⟨⟨b⟩⟩)] = enc .str b := rfl
@[simp] theorem cell_bool {b : Bool} : [C.v (.bool b)] = enc .bool b := rfl
end Go.Proofs.YtkdnbnkbnegckaaGreat
namespace Go.Proofs.YtkdnbnkbnegckaaGreat
open Go.RowKit

/-- The number that bytes begin with, i of them read, which came to n; how many they are; what is wrong. -/
def getG : Nat → Nat → List UInt8 → Nat × Nat × Int
  | _, _, [] => (0, 0, 3)
  | i, n, c :: cs => if i = 9 ∧ 1 < c.toNat then (0, 0, 5) else if 128 ≤ c.toNat then getG (i + 1) (n + (c.toNat - 128) * 2 ^ (7 * i)) cs
    else if c.toNat = 0 ∧ 0 < i then (0, 0, 4) else (n + c.toNat * 2 ^ (7 * i), i + 1, 0)
def getB (bs : List UInt8) : Nat × Nat × Int := getG 0 0 bs

/-- One byte: what its reading comes to. -/
theorem getB_step {bs : List UInt8} {k n : Nat} (hk : k < bs.length) (h : getB bs = getG k n (bs.drop k)) :
    (k = 9 → 1 < bs[k].toNat → getB bs = (0, 0, 5)) ∧ ((k = 9 → bs[k].toNat ≤ 1) → 128 ≤ bs[k].toNat → getB bs = getG (k + 1) (n + (bs[k].toNat - 128) * 2 ^ (7 * k)) (bs.drop (k + 1))) ∧
    ((k = 9 → bs[k].toNat ≤ 1) → bs[k].toNat < 128 → bs[k].toNat = 0 → 0 < k → getB bs = (0, 0, 4)) ∧
    ((k = 9 → bs[k].toNat ≤ 1) → bs[k].toNat < 128 → (bs[k].toNat = 0 → k = 0) → getB bs = (n + bs[k].toNat * 2 ^ (7 * k), k + 1, 0)) := by
  rw [List.drop_eq_getElem_cons hk] at h
  unfold getG at h
  refine ⟨fun h1 h2 => ?_, fun h1 h2 => ?_, fun h1 h2 h3 h4 => ?_, fun h1 h2 h3 => ?_⟩
  · rw [h, if_pos ⟨h1, h2⟩]
  · rw [h, if_neg (by omega), if_pos h2]
  · rw [h, if_neg (by omega), if_neg (by omega), if_pos ⟨h3, h4⟩]
  · rw [h, if_neg (by omega), if_neg (by omega), if_neg (by omega)]

/-- What a reading hands back is in bounds. -/
theorem getG_ok : ∀ (bs : List UInt8) (i n : Nat), i ≤ 9 → n < 2 ^ (7 * i) → (getG i n bs).1 < 18446744073709551616 ∧ (getG i n bs).2.1 ≤ i + bs.length ∧ ((getG i n bs).2.2 = 0 ∨ (getG i n bs).2.2 = 3 ∨ (getG i n bs).2.2 = 4 ∨ (getG i n bs).2.2 = 5) ∧ ((getG i n bs).2.2 ≠ 0 → (getG i n bs).1 = 0 ∧ (getG i n bs).2.1 = 0) := by
  intro bs
  induction bs with
  | nil => intro i n _ _; simp [getG]
  | cons c cs ih =>
    intro i n hi hn
    have hc : c.toNat < 256 := c.toNat_lt
    have h2 : 2 ^ (7 * (i + 1)) = 2 ^ (7 * i) * 128 := by rw [Nat.mul_add, Nat.pow_add]
    unfold getG
    by_cases h1 : i = 9 ∧ 1 < c.toNat
    · rw [if_pos h1]; simp
    · rw [if_neg h1]
      by_cases h128 : 128 ≤ c.toNat
      · rw [if_pos h128]
        obtain ⟨a1, a2, a3, a4⟩ := ih (i + 1) (n + (c.toNat - 128) * 2 ^ (7 * i)) (by omega) (by
          have : (c.toNat - 128) * 2 ^ (7 * i) ≤ 127 * 2 ^ (7 * i) := Nat.mul_le_mul_right _ (by omega)
          rw [h2]; omega)
        exact ⟨a1, by simp only [List.length_cons]; omega, a3, a4⟩
      · rw [if_neg h128]
        by_cases h0 : c.toNat = 0 ∧ 0 < i
        · rw [if_pos h0]; simp
        · rw [if_neg h0]
          refine ⟨?_, by simp only [List.length_cons]; omega, .inl rfl, fun h => absurd rfl h⟩
          show n + c.toNat * 2 ^ (7 * i) < _
          by_cases h9 : i = 9
          · subst h9
            have : c.toNat * 2 ^ (7 * 9) ≤ 1 * 2 ^ (7 * 9) := Nat.mul_le_mul_right _ (by omega)
            omega
          · have h3 : c.toNat * 2 ^ (7 * i) ≤ 127 * 2 ^ (7 * i) := Nat.mul_le_mul_right _ (by omega)
            have h4 : 2 ^ (7 * i) ≤ 2 ^ (7 * 8) := Nat.pow_le_pow_right (by decide) (by omega)
            have h5 : (2 : Nat) ^ (7 * 8) = 72057594037927936 := by decide
            omega
theorem getB_ok (bs : List UInt8) : (getB bs).1 < 18446744073709551616 ∧ (getB bs).2.1 ≤ bs.length ∧ ((getB bs).2.2 = 0 ∨ (getB bs).2.2 = 3 ∨ (getB bs).2.2 = 4 ∨ (getB bs).2.2 = 5) ∧ ((getB bs).2.2 ≠ 0 → (getB bs).1 = 0 ∧ (getB bs).2.1 = 0) := by
  have := getG_ok bs 0 0 (by decide) (by decide)
  simpa [getB] using this

theorem or_hi {n m k : Nat} (hn : n < 2 ^ k) : n ||| (m * 2 ^ k) = n + m * 2 ^ k := by
  rw [Nat.or_comm, Nat.mul_comm, ← Nat.two_pow_add_eq_or_of_lt hn, Nat.add_comm]
theorem getOr {n m k : Nat} (hn : n < 2 ^ (7 * k)) (h : n + m * 2 ^ (7 * k) < 18446744073709551616) : bits .or .u64 (n : Int) (IntKind.u64.wrap ((m : Int) * 2 ^ (7 * k))) = ((n + m * 2 ^ (7 * k) : Nat) : Int) := by
  have e : (m : Int) * 2 ^ (7 * k) = ((m * 2 ^ (7 * k) : Nat) : Int) := by simp
  have e2 : IntKind.u64.wrap ((m : Int) * 2 ^ (7 * k)) = ((m * 2 ^ (7 * k) : Nat) : Int) := by rw [e, IntKind.wrap_u64]; omega
  rw [e2, bits_or_u64_nat _ _ (by omega) (by omega), or_hi hn]
theorem and_127 : ∀ a : Nat, a < 256 → 128 ≤ a → a &&& (255 - 128) = a - 128 := by decide +kernel
theorem andNot128 {c : Nat} (h1 : 128 ≤ c) (h2 : c < 256) : IntKind.u64.wrap (bits .andNot .u8 (c : Int) 128) = ((c - 128 : Nat) : Int) := by
  have e2 : (128 : Int) = ((128 : Nat) : Int) := rfl
  rw [e2, u8_andNot_nat _ _ h2 (by decide), and_127 _ h2 h1, IntKind.wrap_u64]; omega

end Go.Proofs.YtkdnbnkbnegckaaGreat
namespace Go.Proofs.YtkdnbnkbnegckaaGreat
open Go.RowKit

abbrev W0 : Nat → Who := fun _ => .frozen
abbrev L0 : Lay := ⟨id, fun _ => undef⟩
/-- A slice that came in. -/
theorem repC_in {W : World} {sz cap : Nat} {es : List (List C)} {ao : Option Addr} {us : List Value} (h0 : 0 < sz) (hu : ∀ e ∈ es, e.length = sz) (hc : es.length ≤ cap) (hC : Cells W ao us) (hr : RepCs W W0 es.flatten us) : RepC W W0 (.fz sz es) (.slice ao es.length cap) := by
  have hne : es ≠ [] → us ≠ [] := fun he hn => by
    subst hn
    have h1 := hr.1
    rw [flatten_len es hu] at h1
    have : 0 < es.length := List.length_pos_iff.2 he
    have : 0 < es.length * sz := Nat.mul_pos this h0
    simp at h1
    omega
  exact .fz sz cap es ao us hu hc (fun he => hC.addr (hne he)) (fun b off he ha => ⟨rfl, Cells.lt (ha ▸ hC) (hne he)⟩) (fun b off ha j v hj => hC.cell b off ha j v hj) hr.1 hr.2
/-- A law that holds on the second machine. -/
theorem law_of {P : Program} {A : Ann} {plans : FuncId → Nat → List (Nat × Bool)} {f : FuncId} {args : List T} {h' : Hp} {vs : Array Value} {W : World} (hB : KOk P A.base) (hP : progOk P plans = true)
    (hc : callW P A plans f args ⟨[], []⟩ = some (⟨.one, [.c (.v (.bool true))]⟩, h')) (hl : args.length = vs.size)
    (hr : ∀ (i : Nat) t v, args[i]? = some t → vs[i]? = some v → RepT W W0 L0 ⟨[], []⟩ t v) : Calls P f vs W fun e W' => e = .returned (.bool true) ∧ Ext W W' := by
  have h := (callW_ok (A := A) hB hP f args ⟨[], []⟩ _ h' hc).2 W W0 L0 vs.toList ⟨fun k xs h => by simp at h, fun r ty sz es h => by simp at h, fun r sz es h => by simp at h⟩ (by simpa using hl) (fun i t v h1 h2 => hr i t v h1 (by simpa using h2))
  refine (show Calls P f vs W _ from h).mono fun e W' ⟨v, who', L', he, hv, _, hs⟩ => ?_
  subst he
  obtain ⟨x, hx, hx2⟩ := hv
  cases hx
  have : v = .bool true := by cases hx2; rfl
  subst this
  exact ⟨rfl, hs.os, hs.tape, hs.output, hs.size, fun k hk => (hs.fro k rfl hk).1⟩

/-- What lies above the heap that was is taken for frozen. -/
def whoN (W : World) (who : Nat → Who) : Nat → Who := fun b => if b < W.heap.size then who b else .frozen
theorem ext_frozen {W W' : World} {who : Nat → Who} {L : Lay} {h : Hp} (H : HSim W who L h) (hext : Ext W W') : HSim W' (whoN W who) L h ∧ Step .no W who L h W' (whoN W who) L h := by
  have hw2 : ∀ b, b < W.heap.size → whoN W who b = who b := fun b hb => if_pos hb
  have hsame : ∀ k, k < W.heap.size → W'.heap[k]? = W.heap[k]? := fun k hk => hext.block hk
  have S2 : Step .no W who L h W' (whoN W who) L h :=
    { os := hext.b.os, tape := hext.b.tape, output := hext.b.output, size := hext.size
      fro := fun b hb hlt => ⟨hsame b hlt, (hw2 b hlt).trans hb⟩
      oth := fun b hb hlt => ⟨hsame b hlt, (hw2 b hlt).trans hb⟩
      bx := Nat.le_refl _, box := fun _ _ => rfl
      rw := Nat.le_refl _, row := fun r _ sz es he => ⟨⟨es, he, rfl⟩, rfl⟩
      keepB := fun b hlt k hb _ => ⟨hsame b hlt, (hw2 b hlt).trans hb⟩
      keepR := fun b hlt k hb _ => ⟨hsame b hlt, .inl ((hw2 b hlt).trans hb)⟩ }
  refine ⟨⟨fun k xs hk => ?_, fun r ty sz es hr => ?_, fun r sz es hr => S2.froR (H.frz r sz es hr)⟩, S2⟩
  · have hb := (H.box_lt (List.getElem?_eq_some_iff.1 hk).1).1
    exact box_same S2 H hk (hsame _ hb) (hw2 _ hb)
  · have hmu := H.mu r ty sz es hr
    exact own_same S2 hmu fun g hg => ⟨hsame g (hmu.lt hg), (hw2 g (hmu.lt hg)).trans (hmu.who g hg)⟩
end Go.Proofs.YtkdnbnkbnegckaaGreat
