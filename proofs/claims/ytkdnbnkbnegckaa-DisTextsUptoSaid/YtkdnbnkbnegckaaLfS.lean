/- Lifted functions, brought to a plain form. -/
import Derived.Test.YtkdnbnkbnegckaaEvQ
import Derived.Laws.Bits64b
import Derived.Laws.BitsAllLaws
namespace Go.Proofs.Ytkdnbnkbnegckaa
open Go.RowKit

section
variable {α β : Type}
@[simp] theorem chk_t {r : Option β} : chk true r = r := rfl
@[simp] theorem chk_f {r : Option β} : chk false r = none := rfl
@[simp] theorem chk_d {p : Prop} [Decidable p] {r : Option β} : chk (decide p) r = if p then r else none := by by_cases h : p <;> simp [h]
@[simp] theorem cnd_t {x y : Option β} : cnd true x y = x := rfl
@[simp] theorem cnd_f {x y : Option β} : cnd false x y = y := rfl
@[simp] theorem cnd_d {p : Prop} [Decidable p] {x y : Option β} : cnd (decide p) x y = if p then x else y := by by_cases h : p <;> simp [h]
@[simp] theorem chk_and {a b : Bool} {r : Option β} : chk (a && b) r = chk a (chk b r) := by cases a <;> rfl
@[simp] theorem cnd_same {b : Bool} {x : Option β} : cnd b x x = x := by cases b <;> rfl
@[simp] theorem cnd_not {b : Bool} {x y : Option β} : cnd (!b) x y = cnd b y x := by cases b <;> rfl
@[simp] theorem bnd_s {a : α} {k : α → Option β} : bnd (some a) k = k a := rfl
@[simp] theorem bnd_n {k : α → Option β} : bnd none k = none := rfl
theorem bnd_get {l : List α} {i : Nat} (h : i < l.length) {k : α → Option β} : bnd l[i]? k = k l[i] := by rw [List.getElem?_eq_getElem h]; rfl
@[simp] theorem joinK_l {δ : Type} {d : δ} {k : δ → Option β} : joinK (leftK d) k = k d := rfl
@[simp] theorem joinK_r {δ : Type} {r : Option β} {k : δ → Option β} : joinK (rightK r) k = r := by cases r <;> rfl
@[simp] theorem joinK_n {δ : Type} {k : δ → Option β} : joinK none k = none := rfl
@[simp] theorem joinK_ite {δ : Type} {p : Prop} [Decidable p] {a b : δ} {k : δ → Option β} : joinK (if p then leftK a else leftK b) k = k (if p then a else b) := by split <;> rfl
@[simp high] theorem joinK_lr {δ : Type} {p : Prop} [Decidable p] {a : δ} {r : Option β} {k : δ → Option β} : joinK (if p then leftK a else rightK r) k = if p then k a else r := by split <;> simp
@[simp high] theorem joinK_rl {δ : Type} {p : Prop} [Decidable p] {a : δ} {r : Option β} {k : δ → Option β} : joinK (if p then rightK r else leftK a) k = if p then r else k a := by split <;> simp
@[simp high] theorem joinK_and {υ : Type} {p : Prop} [Decidable p] {b : Bool} {u : υ} {k : Bool × υ → Option β} : joinK (if p then leftK (b, u) else leftK (false, u)) k = k (decide p && b, u) := by by_cases h : p <;> simp [h]
@[simp high] theorem joinK_or {υ : Type} {p : Prop} [Decidable p] {b : Bool} {u : υ} {k : Bool × υ → Option β} : joinK (if p then leftK (true, u) else leftK (b, u)) k = k (decide p || b, u) := by by_cases h : p <;> simp [h]
@[simp] theorem cnd_and {p q : Prop} [Decidable p] [Decidable q] {x y : Option β} : cnd (decide p && decide q) x y = if p ∧ q then x else y := by by_cases h : p <;> by_cases h2 : q <;> simp [h, h2]
@[simp] theorem cnd_or {p q : Prop} [Decidable p] [Decidable q] {x y : Option β} : cnd (decide p || decide q) x y = if p ∨ q then x else y := by by_cases h : p <;> by_cases h2 : q <;> simp [h, h2]
/-- A loop: what holds of what its rounds come to. -/
theorem iter_ex {f : α → (α → Option β) → Option β} (μ : α → Nat) (I : α → Prop) {R : Option β → Prop} (h : ∀ a again, I a → (∀ b, I b → μ b < μ a → R (again b)) → R (f a again)) : ∀ N a, I a → μ a < N → R (iter f N a)
  | 0, a, _, hm => by omega
  | N + 1, a, ha, hm => h a _ ha fun b hb hlt => iter_ex μ I h N b hb (by omega)
theorem iter_to {f : α → (α → Option β) → Option β} {x : Option β} (μ : α → Nat) (I : α → Prop) (h : ∀ a again, I a → (∀ b, I b → μ b < μ a → again b = x) → f a again = x) : ∀ N a, I a → μ a < N → iter f N a = x := iter_ex (R := fun r => r = x) μ I h
theorem iter_join {δ : Type} {f : α → (α → Option (δ ⊕ β)) → Option (δ ⊕ β)} {k : δ → Option β} {x : Option β} (μ : α → Nat) (I : α → Prop) (h : ∀ a again, I a → (∀ b, I b → μ b < μ a → joinK (again b) k = x) → joinK (f a again) k = x) : ∀ N a, I a → μ a < N → joinK (iter f N a) k = x := iter_ex (R := fun r => joinK r k = x) μ I h
end

@[simp] theorem leI_d {a b : Int} : leI a b = decide (a ≤ b) := rfl
@[simp] theorem ltI_d {a b : Int} : ltI a b = decide (a < b) := rfl
@[simp] theorem eqI_d {a b : Int} : eqI a b = decide (a = b) := by simp [eqI, Bool.beq_eq_decide_eq]
@[simp] theorem leN_d {a b : Nat} : leN a b = decide (a ≤ b) := rfl
@[simp] theorem ltN_d {a b : Nat} : ltN a b = decide (a < b) := rfl
@[simp] theorem eqN_d {a b : Nat} : eqN a b = decide (a = b) := rfl
@[simp] theorem notB_d {b : Bool} : notB b = !b := rfl
@[simp] theorem eqB_s {b : Bool} : eqB b b = true := by simp [eqB]
@[simp] theorem eqES_s {l : List (List C)} : eqES l l = true := by simp [eqES]
@[simp] theorem eqBA_s {l : ByteArray} : eqBA l l = true := by simp [eqBA]
@[simp] theorem natI_d {n : Int} : natI n = n.toNat := rfl
@[simp] theorem addN_d {a b : Nat} : addN a b = a + b := rfl
@[simp] theorem addI_d {a b : Int} : addI a b = a + b := rfl
@[simp] theorem subI_d {a b : Int} : subI a b = a - b := rfl
@[simp] theorem mulI_d {a b : Int} : mulI a b = a * b := rfl
@[simp] theorem subN_d {a b : Int} : subN a b = (a - b).toNat := rfl
@[simp] theorem remI_d {a b : Int} : remI a b = a.tmod b := rfl
theorem wi64 {n : Int} (h1 : -9223372036854775808 ≤ n) (h2 : n < 9223372036854775808) : wrp .i64 n = n := by rw [wrp, IntKind.wrap_i64]; omega
@[simp] theorem wrp_z {k : IntKind} : wrp k 0 = 0 := by cases k <;> rfl
@[simp] theorem wrp_u8b {x : UInt8} : wrp .u8 (u8I x) = u8I x := by
  have := x.toNat_lt
  rw [wrp, IntKind.wrap_u8']; simp only [u8I]; omega
@[simp] theorem wrp_u64b {x : UInt8} : wrp .u64 (u8I x) = u8I x := by
  have := x.toNat_lt
  rw [wrp, IntKind.wrap_u64]; simp only [u8I]; omega
@[simp] theorem wrp_i64b {x : UInt8} : wrp .i64 (u8I x) = u8I x := by
  have := x.toNat_lt
  rw [wrp, IntKind.wrap_i64]; simp only [u8I]; omega
@[simp] theorem quoI_d {a b : Int} : quoI a b = a.tdiv b := rfl
@[simp] theorem negI_d {a : Int} : negI a = -a := by simp [negI]
theorem u8_lt {x : UInt8} : u8I x < 256 := by have := x.toNat_lt; simp only [u8I]; omega
theorem u8_ge {x : UInt8} : 0 ≤ u8I x := by simp only [u8I]; omega
@[simp] theorem inU8_z : inU8 0 = true := rfl
@[simp] theorem toU8_z : toU8 0 = 0 := rfl
@[simp] theorem inU8_u8 {x : UInt8} : inU8 (u8I x) = true := decide_eq_true ⟨u8_ge, u8_lt⟩
@[simp] theorem toU8_u8 {x : UInt8} : toU8 (u8I x) = x := by simp [toU8, u8I]

/-! Lists of data -/
section
variable {τ : Ty} {β : Type}
@[simp] theorem decK_enc {x : Data τ} {k : Data τ → Option β} : decK τ (enc τ x) k = k x := by
  unfold decK
  have h : ∃ y, enc τ x = enc τ y := ⟨x, rfl⟩
  rw [dif_pos h, ← enc_inj h.choose_spec]
@[simp] theorem decL_enc {l : List (Data τ)} {k : List (Data τ) → Option β} : decL τ (encL τ l) k = k l := by
  unfold decL
  have h : ∃ y, encL τ l = encL τ y := ⟨l, rfl⟩
  rw [dif_pos h, ← encL_inj h.choose_spec]
@[simp] theorem decL_nil {k : List (Data τ) → Option β} : decL τ [] k = k [] := decL_enc (l := [])
@[simp] theorem dI_d {β : Type} {l : LI} {k : LI → Option β} : dI l k = k l := decL_enc
@[simp] theorem dW_d {β : Type} {l : LI} {k : LI → Option β} : dW l k = k l := decL_enc
@[simp] theorem dY_d {β : Type} {l : LB} {k : LB → Option β} : dY l k = k l := decL_enc
@[simp] theorem dC_d {β : Type} {l : LC} {k : LC → Option β} : dC l k = k l := decL_enc
@[simp] theorem dN_d {β : Type} {l : LN} {k : LN → Option β} : dN l k = k l := decL_enc
@[simp] theorem dS_d {β : Type} {l : LS} {k : LS → Option β} : dS l k = k l := decL_enc
@[simp] theorem dF_d {β : Type} {l : LF} {k : LF → Option β} : dF l k = k l := decL_enc
@[simp] theorem qS_d {β : Type} {l : List (List C)} {r : Option β} : qS l r = r := by simp [qS]
@[simp] theorem qI_d {β : Type} {n : Int} {r : Option β} : qI n r = r := by simp [qI]
@[simp] theorem qN_d {β : Type} {n : Nat} {r : Option β} : qN n r = r := by simp [qN]
@[simp] theorem qB_d {β : Type} {b : ByteArray} {r : Option β} : qB b r = r := by simp [qB]
@[simp] theorem qO_d {β : Type} {b : Bool} {r : Option β} : qO b r = r := by simp [qO]
@[simp] theorem getE_enc {l : List (Data τ)} {i : Nat} {k : Data τ → Option β} : getE τ (encL τ l) i k = bnd l[i]? k := by
  simp only [getE, encL, mapE, List.getElem?_map]
  cases l[i]? with
  | none => rfl
  | some x => exact decK_enc
@[simp] theorem vnum_enc {l : List (Data τ)} : vnum (encL τ l) = l.length := List.length_map _
@[simp] theorem vlen_enc {l : List (Data τ)} : vlen (encL τ l) = (l.length : Int) := by simp only [vlen, encL, mapE, List.length_map]
@[simp] theorem vnum_nil : vnum [] = 0 := rfl
@[simp] theorem vlen_nil : vlen [] = 0 := rfl
@[simp] theorem vcut_enc {l : List (Data τ)} {a b : Nat} : vcut (encL τ l) a b = encL τ ((l.drop a).take b) := by simp only [vcut, encL, mapE, List.map_take, List.map_drop]
@[simp] theorem vapp_enc {l m : List (Data τ)} : vapp (encL τ l) (encL τ m) = encL τ (l ++ m) := by simp only [vapp, encL, mapE, List.map_append]
@[simp] theorem vapp_nil {l : List (List C)} : vapp [] l = l := rfl
theorem encL_cons {x : Data τ} {l : List (Data τ)} : enc τ x :: encL τ l = encL τ (x :: l) := rfl
@[simp] theorem one_enc {x : Data τ} : [enc τ x] = encL τ [x] := rfl
end
@[simp] theorem bytes_enc {l : List UInt8} : bytesOf (encL (.int .u8) l) = some l := by
  induction l with
  | nil => rfl
  | cons x l ih =>
    show (bytesOf (encL (.int .u8) l)).map (UInt8.ofNat (u8I x).toNat :: ·) = _
    rw [ih]
    simp [u8I]
@[simp] theorem strK_enc {β : Type} {l : List UInt8} {k : ByteArray → Option β} : strK (encL (.int .u8) l) k = k ⟨⟨l⟩⟩ := by
  simp only [strK, bytes_enc, bnd_s]
@[simp] theorem getS_d {β : Type} {l : List UInt8} {i : Nat} {k : UInt8 → Option β} : getS ⟨⟨l⟩⟩ i k = bnd l[i]? k := by simp [getS]
@[simp] theorem lapp_d {a b : List UInt8} : lapp a b = a ++ b := rfl
@[simp] theorem slen_d {l : List UInt8} : slen ⟨⟨l⟩⟩ = (l.length : Int) := rfl
@[simp] theorem encS_d {l : List UInt8} : encS ⟨⟨l⟩⟩ = encL (.int .u8) l := rfl
@[simp] theorem seq2_d {a b : List UInt8} : seq2 ⟨⟨a⟩⟩ ⟨⟨b⟩⟩ = decide (a = b) := by simp [seq2, Bool.beq_eq_decide_eq]
@[simp] theorem take_rest {α : Type} {l : List α} {k : Nat} : List.take (l.length - k) (List.drop k l) = List.drop k l := List.take_of_length_le (by simp)
/-! Cells -/
@[simp] theorem cell_i64 {n : Int} : [C.v (.int .i64 n)] = enc (.int .i64) n := rfl
@[simp] theorem cell_u64 {n : Int} : [C.v (.int .u64 n)] = enc (.int .u64) n := rfl
@[simp] theorem cell_u8 {n : UInt8} : [C.v (.int .u8 (u8I n))] = enc (.int .u8) n := rfl
@[simp] theorem cells_i64 {τ : Ty} {n : Int} {x : Data τ} : C.v (.int .i64 n) :: enc τ x = enc (.pr (.int .i64) τ) (n, x) := rfl
@[simp] theorem cells_u64 {τ : Ty} {n : Int} {x : Data τ} : C.v (.int .u64 n) :: enc τ x = enc (.pr (.int .u64) τ) (n, x) := rfl
@[simp] theorem cells_bool {τ : Ty} {b : Bool} {x : Data τ} : C.v (.bool b) :: enc τ x = enc (.pr .bool τ) (b, x) := rfl
@[simp] theorem cells_str {τ : Ty} {b : List UInt8} {x : Data τ} : C.v (.string ⟨⟨b⟩⟩) :: enc τ x = enc (.pr .str τ) (b, x) := rfl
@[simp] theorem cells_fz {τ σ : Ty} {sz : Nat} {l : List (Data σ)} {x : Data τ} : C.fz sz (encL σ l) :: enc τ x = enc (.pr (.sl sz σ) τ) (l, x) := rfl
@[simp] theorem cell_fz {σ : Ty} {sz : Nat} {l : List (Data σ)} : [C.fz sz (encL σ l)] = enc (.sl sz σ) l := rfl
@[simp] theorem cell_str {b : List UInt8} : [C.v (.string ⟨⟨b⟩⟩)] = enc .str b := rfl
@[simp] theorem cell_bool {b : Bool} : [C.v (.bool b)] = enc .bool b := rfl
end Go.Proofs.Ytkdnbnkbnegckaa
