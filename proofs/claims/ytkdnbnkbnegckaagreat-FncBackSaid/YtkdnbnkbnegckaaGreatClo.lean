/- Lifted functions, brought to a plain form. The number that bytes begin with, plain. slices.Clone, as operations of the second machine. -/
import Derived.Test.YtkdnbnkbnegckaaGreatOpenD
import Derived.Laws.Bits64b
import Derived.Laws.BitsAllLaws
import Derived.Test.YtkdnbnkbnegckaaGreatBase
import Derived.Test.YtkdnbnkbnegckaaGreatOpen
namespace Go.Proofs.YtkdnbnkbnegckaaGreat
open Go.RowKit

section
variable {α β : Type}
@[simp] theorem chk_t {r : Option β} : chk true r = r := rfl
@[simp] theorem chk_f {r : Option β} : chk false r = none := rfl
@[simp] theorem chk_d {p : Prop} [Decidable p] {r : Option β} : chk (decide p) r = if p then r else none := by by_cases h : p <;> simp [h]
@[simp] theorem cnd_t {x y : Option β} : cnd true x y = x := rfl
@[simp] theorem cnd_f {x y : Option β} : cnd false x y = y := rfl
@[simp] theorem cnd_d {p : Prop} [Decidable p] {x y : Option β} : cnd (decide p) x y = if p then x else y := by by_cases h : p <;> simp [h]
@[simp] theorem chk_and {a b : Bool} {r : Option β} : chk (a && b) r = chk a (chk b r) := by cases a <;> rfl
theorem cnd_b {b : Bool} {x y : Option β} : cnd b x y = if b = true then x else y := by cases b <;> rfl
@[simp] theorem cnd_same {b : Bool} {x : Option β} : cnd b x x = x := by cases b <;> rfl
@[simp] theorem cnd_not {b : Bool} {x y : Option β} : cnd (!b) x y = cnd b y x := by cases b <;> rfl
@[simp] theorem bnd_s {a : α} {k : α → Option β} : bnd (some a) k = k a := rfl
@[simp] theorem bnd_n {k : α → Option β} : bnd none k = none := rfl
theorem bnd_get {l : List α} {i : Nat} (h : i < l.length) {k : α → Option β} : bnd l[i]? k = k l[i] := by rw [List.getElem?_eq_getElem h]; rfl
@[simp] theorem joinK_l {δ : Type} {d : δ} {k : δ → Option β} : joinK (leftK d) k = k d := rfl
@[simp] theorem joinK_r {δ : Type} {r : Option β} {k : δ → Option β} : joinK (rightK r) k = r := by cases r <;> rfl
@[simp] theorem joinK_n {δ : Type} {k : δ → Option β} : joinK none k = none := rfl
@[simp] theorem joinK_ite {δ : Type} {p : Prop} [Decidable p] {a b : δ} {k : δ → Option β} : joinK (if p then leftK a else leftK b) k = k (if p then a else b) := by split <;> rfl
theorem joinK_if {δ : Type} {p : Prop} [Decidable p] {x y : Option (δ ⊕ β)} {k : δ → Option β} : joinK (if p then x else y) k = if p then joinK x k else joinK y k := by split <;> rfl
theorem iter_s {f : α → (α → Option β) → Option β} {n : Nat} {a : α} : iter f (n + 1) a = f a (iter f n) := rfl
@[simp high] theorem joinK_lr {δ : Type} {p : Prop} [Decidable p] {a : δ} {r : Option β} {k : δ → Option β} : joinK (if p then leftK a else rightK r) k = if p then k a else r := by split <;> simp
@[simp high] theorem joinK_rl {δ : Type} {p : Prop} [Decidable p] {a : δ} {r : Option β} {k : δ → Option β} : joinK (if p then rightK r else leftK a) k = if p then r else k a := by split <;> simp
@[simp high] theorem joinK_and {υ : Type} {p : Prop} [Decidable p] {b : Bool} {u : υ} {k : Bool × υ → Option β} : joinK (if p then leftK (b, u) else leftK (false, u)) k = k (decide p && b, u) := by by_cases h : p <;> simp [h]
@[simp high] theorem joinK_or {υ : Type} {p : Prop} [Decidable p] {b : Bool} {u : υ} {k : Bool × υ → Option β} : joinK (if p then leftK (true, u) else leftK (b, u)) k = k (decide p || b, u) := by by_cases h : p <;> simp [h]
@[simp] theorem cnd_and {p q : Prop} [Decidable p] [Decidable q] {x y : Option β} : cnd (decide p && decide q) x y = if p ∧ q then x else y := by by_cases h : p <;> by_cases h2 : q <;> simp [h, h2]
@[simp] theorem cnd_or {p q : Prop} [Decidable p] [Decidable q] {x y : Option β} : cnd (decide p || decide q) x y = if p ∨ q then x else y := by by_cases h : p <;> by_cases h2 : q <;> simp [h, h2]
/-- A loop: what holds of what its rounds come to. -/
theorem iter_ex {f : α → (α → Option β) → Option β} (μ : α → Nat) (I : α → Prop) {R : Option β → Prop} (h : ∀ a again, I a → (∀ b, I b → μ b < μ a → R (again b)) → R (f a again)) : ∀ N a, I a → μ a < N → R (iter f N a)
  | 0, a, _, hm => by omega
  | N + 1, a, ha, hm => h a _ ha fun b hb hlt => iter_ex μ I h N b hb (by omega)
theorem iter_to {f : α → (α → Option β) → Option β} {x : Option β} (μ : α → Nat) (I : α → Prop) (h : ∀ a again, I a → (∀ b, I b → μ b < μ a → again b = x) → f a again = x) : ∀ N a, I a → μ a < N → iter f N a = x := iter_ex (R := fun r => r = x) μ I h
theorem iter_join {δ : Type} {f : α → (α → Option (δ ⊕ β)) → Option (δ ⊕ β)} {k : δ → Option β} {x : Option β} (μ : α → Nat) (I : α → Prop) (h : ∀ a again, I a → (∀ b, I b → μ b < μ a → joinK (again b) k = x) → joinK (f a again) k = x) : ∀ N a, I a → μ a < N → joinK (iter f N a) k = x := iter_ex (R := fun r => joinK r k = x) μ I h
/-- A loop: what its rounds come to. -/
theorem iter_eq {f : α → (α → Option β) → Option β} (μ : α → Nat) (I : α → Prop) (g : α → Option β) (h : ∀ a again, I a → (∀ b, I b → μ b < μ a → again b = g b) → f a again = g a) : ∀ N a, I a → μ a < N → iter f N a = g a
  | 0, a, _, hm => by omega
  | N + 1, a, ha, hm => h a _ ha fun b hb hlt => iter_eq μ I g h N b hb (by omega)
end

@[simp] theorem leI_d {a b : Int} : leI a b = decide (a ≤ b) := rfl
@[simp] theorem ltI_d {a b : Int} : ltI a b = decide (a < b) := rfl
@[simp] theorem eqI_d {a b : Int} : eqI a b = decide (a = b) := by simp [eqI, Bool.beq_eq_decide_eq]
@[simp] theorem leN_d {a b : Nat} : leN a b = decide (a ≤ b) := rfl
@[simp] theorem ltN_d {a b : Nat} : ltN a b = decide (a < b) := rfl
@[simp] theorem eqN_d {a b : Nat} : eqN a b = decide (a = b) := rfl
@[simp] theorem notB_d {b : Bool} : notB b = !b := rfl
@[simp] theorem eqB_s {b : Bool} : eqB b b = true := by simp [eqB]
@[simp] theorem eqES_s {l : List (List C)} : eqES l l = true := by simp [eqES]
@[simp] theorem eqBA_s {l : ByteArray} : eqBA l l = true := by simp [eqBA]
@[simp] theorem natI_d {n : Int} : natI n = n.toNat := rfl
@[simp] theorem addN_d {a b : Nat} : addN a b = a + b := rfl
@[simp] theorem addI_d {a b : Int} : addI a b = a + b := rfl
@[simp] theorem subI_d {a b : Int} : subI a b = a - b := rfl
@[simp] theorem mulI_d {a b : Int} : mulI a b = a * b := rfl
@[simp] theorem subN_d {a b : Int} : subN a b = (a - b).toNat := rfl
theorem room_t {a b c : Nat} (h : a + b ≤ 2000000) (hc : c ≤ 1000) : room a b c = true := by
  have : (a + b) * c ≤ 2000000 * 1000 := Nat.mul_le_mul h hc
  refine decide_eq_true ⟨?_, by omega⟩
  unfold maxLen
  omega
@[simp] theorem remI_d {a b : Int} : remI a b = a.tmod b := rfl
theorem wi64 {n : Int} (h1 : -9223372036854775808 ≤ n) (h2 : n < 9223372036854775808) : wrp .i64 n = n := by rw [wrp, IntKind.wrap_i64]; omega
theorem wu64 {n : Int} (h1 : 0 ≤ n) (h2 : n < 18446744073709551616) : wrp .u64 n = n := by rw [wrp, IntKind.wrap_u64]; omega
@[simp] theorem wrp_z {k : IntKind} : wrp k 0 = 0 := by cases k <;> rfl
@[simp] theorem wrp_u8b {x : UInt8} : wrp .u8 (u8I x) = u8I x := by
  have := x.toNat_lt
  rw [wrp, IntKind.wrap_u8']; simp only [u8I]; omega
@[simp] theorem wrp_u64b {x : UInt8} : wrp .u64 (u8I x) = u8I x := by
  have := x.toNat_lt
  rw [wrp, IntKind.wrap_u64]; simp only [u8I]; omega
@[simp] theorem wrp_i64b {x : UInt8} : wrp .i64 (u8I x) = u8I x := by
  have := x.toNat_lt
  rw [wrp, IntKind.wrap_i64]; simp only [u8I]; omega
@[simp] theorem quoI_d {a b : Int} : quoI a b = a.tdiv b := rfl
@[simp] theorem negI_d {a : Int} : negI a = -a := by simp [negI]
theorem u8_lt {x : UInt8} : u8I x < 256 := by have := x.toNat_lt; simp only [u8I]; omega
theorem u8_ge {x : UInt8} : 0 ≤ u8I x := by simp only [u8I]; omega
@[simp] theorem inU8_z : inU8 0 = true := rfl
@[simp] theorem toU8_z : toU8 0 = 0 := rfl
@[simp] theorem inU8_u8 {x : UInt8} : inU8 (u8I x) = true := decide_eq_true ⟨u8_ge, u8_lt⟩
@[simp] theorem toU8_u8 {x : UInt8} : toU8 (u8I x) = x := by simp [toU8, u8I]

/-! Lists of data -/
section
variable {τ : Ty} {β : Type}
@[simp] theorem decK_enc {x : Data τ} {k : Data τ → Option β} : decK τ (enc τ x) k = k x := by
  unfold decK
  have h : ∃ y, enc τ x = enc τ y := ⟨x, rfl⟩
  rw [dif_pos h, ← enc_inj h.choose_spec]
@[simp] theorem decL_enc {l : List (Data τ)} {k : List (Data τ) → Option β} : decL τ (encL τ l) k = k l := by
  unfold decL
  have h : ∃ y, encL τ l = encL τ y := ⟨l, rfl⟩
  rw [dif_pos h, ← encL_inj h.choose_spec]
@[simp] theorem decL_nil {k : List (Data τ) → Option β} : decL τ [] k = k [] := decL_enc (l := [])
@[simp] theorem dI_d {β : Type} {l : LI} {k : LI → Option β} : dI l k = k l := decL_enc
@[simp] theorem dW_d {β : Type} {l : LI} {k : LI → Option β} : dW l k = k l := decL_enc
@[simp] theorem dY_d {β : Type} {l : LB} {k : LB → Option β} : dY l k = k l := decL_enc
@[simp] theorem dC_d {β : Type} {l : LC} {k : LC → Option β} : dC l k = k l := decL_enc
@[simp] theorem dN_d {β : Type} {l : LN} {k : LN → Option β} : dN l k = k l := decL_enc
@[simp] theorem dS_d {β : Type} {l : LS} {k : LS → Option β} : dS l k = k l := decL_enc
@[simp] theorem dF_d {β : Type} {l : LF} {k : LF → Option β} : dF l k = k l := decL_enc
@[simp] theorem qS_d {β : Type} {l : List (List C)} {r : Option β} : qS l r = r := by simp [qS]
@[simp] theorem qI_d {β : Type} {n : Int} {r : Option β} : qI n r = r := by simp [qI]
@[simp] theorem qN_d {β : Type} {n : Nat} {r : Option β} : qN n r = r := by simp [qN]
@[simp] theorem qB_d {β : Type} {b : ByteArray} {r : Option β} : qB b r = r := by simp [qB]
@[simp] theorem qO_d {β : Type} {b : Bool} {r : Option β} : qO b r = r := by simp [qO]
@[simp] theorem getE_enc {l : List (Data τ)} {i : Nat} {k : Data τ → Option β} : getE τ (encL τ l) i k = bnd l[i]? k := by
  simp only [getE, encL, mapE, List.getElem?_map]
  cases l[i]? with
  | none => rfl
  | some x => exact decK_enc
@[simp] theorem vnum_enc {l : List (Data τ)} : vnum (encL τ l) = l.length := List.length_map _
@[simp] theorem vlen_enc {l : List (Data τ)} : vlen (encL τ l) = (l.length : Int) := by simp only [vlen, encL, mapE, List.length_map]
@[simp] theorem vnum_nil : vnum [] = 0 := rfl
@[simp] theorem vlen_nil : vlen [] = 0 := rfl
@[simp] theorem vcut_enc {l : List (Data τ)} {a b : Nat} : vcut (encL τ l) a b = encL τ ((l.drop a).take b) := by simp only [vcut, encL, mapE, List.map_take, List.map_drop]
@[simp] theorem vapp_enc {l m : List (Data τ)} : vapp (encL τ l) (encL τ m) = encL τ (l ++ m) := by simp only [vapp, encL, mapE, List.map_append]
@[simp] theorem vapp_nil {l : List (List C)} : vapp [] l = l := rfl
theorem encL_nil : encL τ [] = [] := rfl
theorem encL_cons {x : Data τ} {l : List (Data τ)} : enc τ x :: encL τ l = encL τ (x :: l) := rfl
@[simp] theorem one_enc {x : Data τ} : [enc τ x] = encL τ [x] := rfl
end
@[simp] theorem bytes_enc {l : List UInt8} : bytesOf (encL (.int .u8) l) = some l := by
  induction l with
  | nil => rfl
  | cons x l ih =>
    show (bytesOf (encL (.int .u8) l)).map (UInt8.ofNat (u8I x).toNat :: ·) = _
    rw [ih]
    simp [u8I]
@[simp] theorem strK_enc {β : Type} {l : List UInt8} {k : ByteArray → Option β} : strK (encL (.int .u8) l) k = k ⟨⟨l⟩⟩ := by
  simp only [strK, bytes_enc, bnd_s]
@[simp] theorem getS_d {β : Type} {l : List UInt8} {i : Nat} {k : UInt8 → Option β} : getS ⟨⟨l⟩⟩ i k = bnd l[i]? k := by simp [getS]
@[simp] theorem slen_d {l : List UInt8} : slen ⟨⟨l⟩⟩ = (l.length : Int) := rfl
@[simp] theorem encS_d {l : List UInt8} : encS ⟨⟨l⟩⟩ = encL (.int .u8) l := rfl
@[simp] theorem seq2_d {a b : List UInt8} : seq2 ⟨⟨a⟩⟩ ⟨⟨b⟩⟩ = decide (a = b) := by simp [seq2, Bool.beq_eq_decide_eq]
@[simp] theorem take_rest {α : Type} {l : List α} {k : Nat} : List.take (l.length - k) (List.drop k l) = List.drop k l := List.take_of_length_le (by simp)
/-! Cells -/
@[simp] theorem cell_i64 {n : Int} : [C.v (.int .i64 n)] = enc (.int .i64) n := rfl
@[simp] theorem cell_u64 {n : Int} : [C.v (.int .u64 n)] = enc (.int .u64) n := rfl
@[simp] theorem cell_u8 {n : UInt8} : [C.v (.int .u8 (u8I n))] = enc (.int .u8) n := rfl
theorem cell_u8n {n : Int} (h : inU8 n = true) : [C.v (.int .u8 n)] = enc (.int .u8) (toU8 n) := by
  rw [show n = u8I (toU8 n) from (inU8_ok h).symm]; simp
@[simp] theorem cells_i64 {τ : Ty} {n : Int} {x : Data τ} : C.v (.int .i64 n) :: enc τ x = enc (.pr (.int .i64) τ) (n, x) := rfl
@[simp] theorem cells_u64 {τ : Ty} {n : Int} {x : Data τ} : C.v (.int .u64 n) :: enc τ x = enc (.pr (.int .u64) τ) (n, x) := rfl
@[simp] theorem cells_bool {τ : Ty} {b : Bool} {x : Data τ} : C.v (.bool b) :: enc τ x = enc (.pr .bool τ) (b, x) := rfl
@[simp] theorem cells_str {τ : Ty} {b : List UInt8} {x : Data τ} : C.v (.string ⟨⟨b⟩⟩) :: enc τ x = enc (.pr .str τ) (b, x) := rfl
@[simp] theorem cells_fz {τ σ : Ty} {sz : Nat} {l : List (Data σ)} {x : Data τ} : C.fz sz (encL σ l) :: enc τ x = enc (.pr (.sl sz σ) τ) (l, x) := rfl
@[simp] theorem cell_fz {σ : Ty} {sz : Nat} {l : List (Data σ)} : [C.fz sz (encL σ l)] = enc (.sl sz σ) l := rfl
@[simp] theorem cell_str {b : List UInt8} : [C.v (.string ⟨⟨b⟩⟩)] = enc .str b := rfl
@[simp] theorem cell_bool {b : Bool} : [C.v (.bool b)] = enc .bool b := rfl
end Go.Proofs.YtkdnbnkbnegckaaGreat
namespace Go.Proofs.YtkdnbnkbnegckaaGreat
open Go.RowKit

/-- The number that bytes begin with, i of them read, which came to n; how many they are; what is wrong. -/
def getG : Nat → Nat → List UInt8 → Nat × Nat × Int
  | _, _, [] => (0, 0, 3)
  | i, n, c :: cs => if i = 9 ∧ 1 < c.toNat then (0, 0, 5) else if 128 ≤ c.toNat then getG (i + 1) (n + (c.toNat - 128) * 2 ^ (7 * i)) cs
    else if c.toNat = 0 ∧ 0 < i then (0, 0, 4) else (n + c.toNat * 2 ^ (7 * i), i + 1, 0)
def getB (bs : List UInt8) : Nat × Nat × Int := getG 0 0 bs

theorem getG_nil {i n : Nat} {l : List UInt8} (h : l = []) : getG i n l = (0, 0, 3) := by subst h; rfl
theorem getG_form {i n : Nat} {l : List UInt8} (h : l ≠ []) (hi : i = 9) (hc : 1 < (l.head h).toNat) : getG i n l = (0, 0, 5) := by
  cases l with
  | nil => exact absurd rfl h
  | cons c cs => simp only [List.head_cons] at hc; simp [getG, hi, hc]

/-- One byte: what its reading comes to. -/
theorem getB_step {bs : List UInt8} {k n : Nat} (hk : k < bs.length) (h : getB bs = getG k n (bs.drop k)) :
    (k = 9 → 1 < bs[k].toNat → getB bs = (0, 0, 5)) ∧ ((k = 9 → bs[k].toNat ≤ 1) → 128 ≤ bs[k].toNat → getB bs = getG (k + 1) (n + (bs[k].toNat - 128) * 2 ^ (7 * k)) (bs.drop (k + 1))) ∧
    ((k = 9 → bs[k].toNat ≤ 1) → bs[k].toNat < 128 → bs[k].toNat = 0 → 0 < k → getB bs = (0, 0, 4)) ∧
    ((k = 9 → bs[k].toNat ≤ 1) → bs[k].toNat < 128 → (bs[k].toNat = 0 → k = 0) → getB bs = (n + bs[k].toNat * 2 ^ (7 * k), k + 1, 0)) := by
  rw [List.drop_eq_getElem_cons hk] at h
  unfold getG at h
  refine ⟨fun h1 h2 => ?_, fun h1 h2 => ?_, fun h1 h2 h3 h4 => ?_, fun h1 h2 h3 => ?_⟩
  · rw [h, if_pos ⟨h1, h2⟩]
  · rw [h, if_neg (by omega), if_pos h2]
  · rw [h, if_neg (by omega), if_neg (by omega), if_pos ⟨h3, h4⟩]
  · rw [h, if_neg (by omega), if_neg (by omega), if_neg (by omega)]

/-- What a reading hands back is in bounds. -/
theorem getG_ok : ∀ (bs : List UInt8) (i n : Nat), i ≤ 9 → n < 2 ^ (7 * i) → (getG i n bs).1 < 18446744073709551616 ∧ (getG i n bs).2.1 ≤ i + bs.length ∧ ((getG i n bs).2.2 = 0 ∨ (getG i n bs).2.2 = 3 ∨ (getG i n bs).2.2 = 4 ∨ (getG i n bs).2.2 = 5) ∧ ((getG i n bs).2.2 ≠ 0 → (getG i n bs).1 = 0 ∧ (getG i n bs).2.1 = 0) := by
  intro bs
  induction bs with
  | nil => intro i n _ _; simp [getG]
  | cons c cs ih =>
    intro i n hi hn
    have hc : c.toNat < 256 := c.toNat_lt
    have h2 : 2 ^ (7 * (i + 1)) = 2 ^ (7 * i) * 128 := by rw [Nat.mul_add, Nat.pow_add]
    unfold getG
    by_cases h1 : i = 9 ∧ 1 < c.toNat
    · rw [if_pos h1]; simp
    · rw [if_neg h1]
      by_cases h128 : 128 ≤ c.toNat
      · rw [if_pos h128]
        obtain ⟨a1, a2, a3, a4⟩ := ih (i + 1) (n + (c.toNat - 128) * 2 ^ (7 * i)) (by omega) (by
          have : (c.toNat - 128) * 2 ^ (7 * i) ≤ 127 * 2 ^ (7 * i) := Nat.mul_le_mul_right _ (by omega)
          rw [h2]; omega)
        exact ⟨a1, by simp only [List.length_cons]; omega, a3, a4⟩
      · rw [if_neg h128]
        by_cases h0 : c.toNat = 0 ∧ 0 < i
        · rw [if_pos h0]; simp
        · rw [if_neg h0]
          refine ⟨?_, by simp only [List.length_cons]; omega, .inl rfl, fun h => absurd rfl h⟩
          show n + c.toNat * 2 ^ (7 * i) < _
          by_cases h9 : i = 9
          · subst h9
            have : c.toNat * 2 ^ (7 * 9) ≤ 1 * 2 ^ (7 * 9) := Nat.mul_le_mul_right _ (by omega)
            omega
          · have h3 : c.toNat * 2 ^ (7 * i) ≤ 127 * 2 ^ (7 * i) := Nat.mul_le_mul_right _ (by omega)
            have h4 : 2 ^ (7 * i) ≤ 2 ^ (7 * 8) := Nat.pow_le_pow_right (by decide) (by omega)
            have h5 : (2 : Nat) ^ (7 * 8) = 72057594037927936 := by decide
            omega
theorem getB_ok (bs : List UInt8) : (getB bs).1 < 18446744073709551616 ∧ (getB bs).2.1 ≤ bs.length ∧ ((getB bs).2.2 = 0 ∨ (getB bs).2.2 = 3 ∨ (getB bs).2.2 = 4 ∨ (getB bs).2.2 = 5) ∧ ((getB bs).2.2 ≠ 0 → (getB bs).1 = 0 ∧ (getB bs).2.1 = 0) := by
  have := getG_ok bs 0 0 (by decide) (by decide)
  simpa [getB] using this

theorem or_hi {n m k : Nat} (hn : n < 2 ^ k) : n ||| (m * 2 ^ k) = n + m * 2 ^ k := by
  rw [Nat.or_comm, Nat.mul_comm, ← Nat.two_pow_add_eq_or_of_lt hn, Nat.add_comm]
theorem getOr {n m k : Nat} (hn : n < 2 ^ (7 * k)) (h : n + m * 2 ^ (7 * k) < 18446744073709551616) : bits .or .u64 (n : Int) (IntKind.u64.wrap ((m : Int) * 2 ^ (7 * k))) = ((n + m * 2 ^ (7 * k) : Nat) : Int) := by
  have e : (m : Int) * 2 ^ (7 * k) = ((m * 2 ^ (7 * k) : Nat) : Int) := by simp
  have e2 : IntKind.u64.wrap ((m : Int) * 2 ^ (7 * k)) = ((m * 2 ^ (7 * k) : Nat) : Int) := by rw [e, IntKind.wrap_u64]; omega
  rw [e2, bits_or_u64_nat _ _ (by omega) (by omega), or_hi hn]
theorem and_127 : ∀ a : Nat, a < 256 → 128 ≤ a → a &&& (255 - 128) = a - 128 := by decide +kernel
theorem andNot128 {c : Nat} (h1 : 128 ≤ c) (h2 : c < 256) : IntKind.u64.wrap (bits .andNot .u8 (c : Int) 128) = ((c - 128 : Nat) : Int) := by
  have e2 : (128 : Int) = ((128 : Nat) : Int) := rfl
  rw [e2, u8_andNot_nat _ _ h2 (by decide), and_127 _ h2 h1, IntKind.wrap_u64]; omega

end Go.Proofs.YtkdnbnkbnegckaaGreat
namespace Go.Proofs.YtkdnbnkbnegckaaGreat
open Go.RowKit

def cloneX (sz bound : Nat) (a : List T) (h : Hp) : Option (T × Hp) :=
  match a with
  | [⟨.one, [.c (.fz s es)]⟩] => if s = sz ∧ es.length ≤ bound then some (⟨.one, [.c (.fz s es)]⟩, h) else none
  | [⟨.one, [.c (.v (.slice none 0 0))]⟩] => some (⟨.one, [.c (.v (.slice none 0 0))]⟩, h)
  | _ => none
theorem own_cap {w : World} {base : Nat} {e : TypeId} {size : Nat} {ao : Option Addr} {n m cap : Nat} {xs : List Value} (h : w.ownsRow base e size (.slice ao n cap) m xs) : m ≤ cap := by
  rcases h.2 with ⟨h1, h0⟩ | ⟨g, c, cur, h1, _, _, h2, _⟩
  · omega
  · cases h1; exact h2
/-- What a slice's copy comes to. -/
def Cloned (e : Ending) (w w' : World) (ao : Option Addr) (m : Nat) (us : List Value) : Prop := ∃ ao' cap', e = .returned (.slice ao' m cap') ∧ Cells w' ao' us ∧ Ext w w' ∧ Fresh w.heap.size ao' ∧ m ≤ cap' ∧ (∀ ad, ao' = some ad → ad.block < w'.heap.size) ∧ (ao = none → ao' = none ∧ cap' = 0)
set_option maxRecDepth 20000 in
theorem clone_byte (ao : Option Addr) (cap m : Nat) (us : List Value) (w : World) (hc : Cells w ao us) (h1 : ∀ u ∈ us, u.oneCell' = true) (hm : us.length = m * 1) (hl : m ≤ 140737488351232) :
    Calls Tryz.prog 33 #[.slice ao m cap] w fun e w' => Cloned e w w' ao m us := by
  cases ao with
  | none =>
    obtain rfl : us = [] := by simpa using hc.none_nil
    obtain rfl : m = 0 := by simp at hm; omega
    have he : ∀ w : World, (binOp .eql 22 (.slice none 0 cap) (.slice none 0 0)).run Tryz.prog w = .ok (.bool true) w := fun _ => rfl
    go_enter Tryz.func33, Tryz.ntmps33
    go_wp2_with fail
    go_ret
    exact ⟨none, 0, rfl, Cells.nil _ _, Ext.rf _, (fun _ h => by cases h), Nat.le_refl _, (fun _ h => by cases h), fun _ => ⟨rfl, rfl⟩⟩
  | some ad =>
    have he : ∀ w : World, (binOp .eql 22 (.slice (some ad) m cap) (.slice none 0 0)).run Tryz.prog w = .ok (.bool false) w := fun _ => rfl
    have hx0 := (Ext.rf w).al (.cells #[] 5)
    have own0 := World.ownsRow_lit (base := w.heap.size) (e := 5) (size := 1) w #[] 0 (Nat.le_refl _) (by decide) rfl
    have hc0 := hc.ext hx0
    go_enter Tryz.func33, Tryz.ntmps33
    go_wp2_with (at_builtin; (refine wpList_appendAll rfl (.tmp 5) (.tmp 6) 22 rfl w.heap.size 5 (.int .u8 0) 1 1 Tryz.underlying22 (by kernel_rfl) rfl (by decide) _ 0 _ (some ad) m _ us rfl own0 rfl hc0 hm h1 (by unfold maxLen; omega) (by omega) hx0.size ?_; intro v' w1 hown1 hgr; have hext1 := hx0.push own0 (Nat.le_refl _) hgr; clear hgr own0 hx0))
    simp only [Nat.zero_add, List.nil_append] at hown1
    obtain ⟨ao', cap', rfl, hc', hf'⟩ := own_cells hown1
    go_ret
    exact ⟨ao', cap', rfl, hc', hext1, hf', own_cap hown1, fun ad e => by subst e; exact (hown1.lt _ rfl).2, fun h => by cases h⟩
set_option maxRecDepth 20000 in
theorem clone_Type (ao : Option Addr) (cap m : Nat) (us : List Value) (w : World) (hc : Cells w ao us) (h1 : ∀ u ∈ us, u.oneCell' = true) (hm : us.length = m * 1) (hl : m ≤ 2000000000) :
    Calls Tryz.prog 68 #[.slice ao m cap] w fun e w' => Cloned e w w' ao m us := by
  cases ao with
  | none =>
    obtain rfl : us = [] := by simpa using hc.none_nil
    obtain rfl : m = 0 := by simp at hm; omega
    have he : ∀ w : World, (binOp .eql 25 (.slice none 0 cap) (.slice none 0 0)).run Tryz.prog w = .ok (.bool true) w := fun _ => rfl
    go_enter Tryz.func68, Tryz.ntmps68
    go_wp2_with fail
    go_ret
    exact ⟨none, 0, rfl, Cells.nil _ _, Ext.rf _, (fun _ h => by cases h), Nat.le_refl _, (fun _ h => by cases h), fun _ => ⟨rfl, rfl⟩⟩
  | some ad =>
    have he : ∀ w : World, (binOp .eql 25 (.slice (some ad) m cap) (.slice none 0 0)).run Tryz.prog w = .ok (.bool false) w := fun _ => rfl
    have hx0 := (Ext.rf w).al (.cells #[] 110)
    have own0 := World.ownsRow_lit (base := w.heap.size) (e := 110) (size := 1) w #[] 0 (Nat.le_refl _) (by decide) rfl
    have hc0 := hc.ext hx0
    go_enter Tryz.func68, Tryz.ntmps68
    go_wp2_with (at_builtin; (refine wpList_appendAll rfl (.tmp 5) (.tmp 6) 25 rfl w.heap.size 110 (.int .i64 0) 1 8 Tryz.underlying25 (by kernel_rfl) rfl (by decide) _ 0 _ (some ad) m _ us rfl own0 rfl hc0 hm h1 (by unfold maxLen; omega) (by omega) hx0.size ?_; intro v' w1 hown1 hgr; have hext1 := hx0.push own0 (Nat.le_refl _) hgr; clear hgr own0 hx0))
    simp only [Nat.zero_add, List.nil_append] at hown1
    obtain ⟨ao', cap', rfl, hc', hf'⟩ := own_cells hown1
    go_ret
    exact ⟨ao', cap', rfl, hc', hext1, hf', own_cap hown1, fun ad e => by subst e; exact (hown1.lt _ rfl).2, fun h => by cases h⟩
set_option maxRecDepth 20000 in
theorem clone_Instr (ao : Option Addr) (cap m : Nat) (us : List Value) (w : World) (hc : Cells w ao us) (h1 : ∀ u ∈ us, u.oneCell' = true) (hm : us.length = m * 2) (hl : m ≤ 2000000000) :
    Calls Tryz.prog 69 #[.slice ao m cap] w fun e w' => Cloned e w w' ao m us := by
  cases ao with
  | none =>
    obtain rfl : us = [] := by simpa using hc.none_nil
    obtain rfl : m = 0 := by simp at hm; omega
    have he : ∀ w : World, (binOp .eql 26 (.slice none 0 cap) (.slice none 0 0)).run Tryz.prog w = .ok (.bool true) w := fun _ => rfl
    go_enter Tryz.func69, Tryz.ntmps69
    go_wp2_with fail
    go_ret
    exact ⟨none, 0, rfl, Cells.nil _ _, Ext.rf _, (fun _ h => by cases h), Nat.le_refl _, (fun _ h => by cases h), fun _ => ⟨rfl, rfl⟩⟩
  | some ad =>
    have he : ∀ w : World, (binOp .eql 26 (.slice (some ad) m cap) (.slice none 0 0)).run Tryz.prog w = .ok (.bool false) w := fun _ => rfl
    have hx0 := (Ext.rf w).al (.cells #[] 78)
    have own0 := World.ownsRow_lit (base := w.heap.size) (e := 78) (size := 2) w #[] 0 (Nat.le_refl _) (by decide) rfl
    have hc0 := hc.ext hx0
    go_enter Tryz.func69, Tryz.ntmps69
    go_wp2_with (at_builtin; (refine wpList_appendAll rfl (.tmp 5) (.tmp 6) 26 rfl w.heap.size 78 (.agg #[.int .i64 0, .int .i64 0]) 2 16 Tryz.underlying26 (by kernel_rfl) rfl (by decide) _ 0 _ (some ad) m _ us rfl own0 rfl hc0 hm h1 (by unfold maxLen; omega) (by omega) hx0.size ?_; intro v' w1 hown1 hgr; have hext1 := hx0.push own0 (Nat.le_refl _) hgr; clear hgr own0 hx0))
    simp only [Nat.zero_add, List.nil_append] at hown1
    obtain ⟨ao', cap', rfl, hc', hf'⟩ := own_cells hown1
    go_ret
    exact ⟨ao', cap', rfl, hc', hext1, hf', own_cap hown1, fun ad e => by subst e; exact (hown1.lt _ rfl).2, fun h => by cases h⟩
set_option maxRecDepth 20000 in
theorem clone_Int (ao : Option Addr) (cap m : Nat) (us : List Value) (w : World) (hc : Cells w ao us) (h1 : ∀ u ∈ us, u.oneCell' = true) (hm : us.length = m * 1) (hl : m ≤ 2000000000) :
    Calls Tryz.prog 70 #[.slice ao m cap] w fun e w' => Cloned e w w' ao m us := by
  cases ao with
  | none =>
    obtain rfl : us = [] := by simpa using hc.none_nil
    obtain rfl : m = 0 := by simp at hm; omega
    have he : ∀ w : World, (binOp .eql 27 (.slice none 0 cap) (.slice none 0 0)).run Tryz.prog w = .ok (.bool true) w := fun _ => rfl
    go_enter Tryz.func70, Tryz.ntmps70
    go_wp2_with fail
    go_ret
    exact ⟨none, 0, rfl, Cells.nil _ _, Ext.rf _, (fun _ h => by cases h), Nat.le_refl _, (fun _ h => by cases h), fun _ => ⟨rfl, rfl⟩⟩
  | some ad =>
    have he : ∀ w : World, (binOp .eql 27 (.slice (some ad) m cap) (.slice none 0 0)).run Tryz.prog w = .ok (.bool false) w := fun _ => rfl
    have hx0 := (Ext.rf w).al (.cells #[] 3)
    have own0 := World.ownsRow_lit (base := w.heap.size) (e := 3) (size := 1) w #[] 0 (Nat.le_refl _) (by decide) rfl
    have hc0 := hc.ext hx0
    go_enter Tryz.func70, Tryz.ntmps70
    go_wp2_with (at_builtin; (refine wpList_appendAll rfl (.tmp 5) (.tmp 6) 27 rfl w.heap.size 3 (.int .i64 0) 1 8 Tryz.underlying27 (by kernel_rfl) rfl (by decide) _ 0 _ (some ad) m _ us rfl own0 rfl hc0 hm h1 (by unfold maxLen; omega) (by omega) hx0.size ?_; intro v' w1 hown1 hgr; have hext1 := hx0.push own0 (Nat.le_refl _) hgr; clear hgr own0 hx0))
    simp only [Nat.zero_add, List.nil_append] at hown1
    obtain ⟨ao', cap', rfl, hc', hf'⟩ := own_cells hown1
    go_ret
    exact ⟨ao', cap', rfl, hc', hext1, hf', own_cap hown1, fun ad e => by subst e; exact (hown1.lt _ rfl).2, fun h => by cases h⟩
set_option maxRecDepth 20000 in
theorem clone_Node (ao : Option Addr) (cap m : Nat) (us : List Value) (w : World) (hc : Cells w ao us) (h1 : ∀ u ∈ us, u.oneCell' = true) (hm : us.length = m * 7) (hl : m ≤ 2000000000) :
    Calls Tryz.prog 71 #[.slice ao m cap] w fun e w' => Cloned e w w' ao m us := by
  cases ao with
  | none =>
    obtain rfl : us = [] := by simpa using hc.none_nil
    obtain rfl : m = 0 := by simp at hm; omega
    have he : ∀ w : World, (binOp .eql 28 (.slice none 0 cap) (.slice none 0 0)).run Tryz.prog w = .ok (.bool true) w := fun _ => rfl
    go_enter Tryz.func71, Tryz.ntmps71
    go_wp2_with fail
    go_ret
    exact ⟨none, 0, rfl, Cells.nil _ _, Ext.rf _, (fun _ h => by cases h), Nat.le_refl _, (fun _ h => by cases h), fun _ => ⟨rfl, rfl⟩⟩
  | some ad =>
    have he : ∀ w : World, (binOp .eql 28 (.slice (some ad) m cap) (.slice none 0 0)).run Tryz.prog w = .ok (.bool false) w := fun _ => rfl
    have hx0 := (Ext.rf w).al (.cells #[] 115)
    have own0 := World.ownsRow_lit (base := w.heap.size) (e := 115) (size := 7) w #[] 0 (Nat.le_refl _) (by decide) rfl
    have hc0 := hc.ext hx0
    go_enter Tryz.func71, Tryz.ntmps71
    go_wp2_with (at_builtin; (refine wpList_appendAll rfl (.tmp 5) (.tmp 6) 28 rfl w.heap.size 115 (.agg #[.int .i64 0, .int .i64 0, .int .i64 0, .int .i64 0, .int .i64 0, .int .i64 0, .int .i64 0]) 7 56 Tryz.underlying28 (by kernel_rfl) rfl (by decide) _ 0 _ (some ad) m _ us rfl own0 rfl hc0 hm h1 (by unfold maxLen; omega) (by omega) hx0.size ?_; intro v' w1 hown1 hgr; have hext1 := hx0.push own0 (Nat.le_refl _) hgr; clear hgr own0 hx0))
    simp only [Nat.zero_add, List.nil_append] at hown1
    obtain ⟨ao', cap', rfl, hc', hf'⟩ := own_cells hown1
    go_ret
    exact ⟨ao', cap', rfl, hc', hext1, hf', own_cap hown1, fun ad e => by subst e; exact (hown1.lt _ rfl).2, fun h => by cases h⟩
set_option maxRecDepth 20000 in
theorem clone_Set (ao : Option Addr) (cap m : Nat) (us : List Value) (w : World) (hc : Cells w ao us) (h1 : ∀ u ∈ us, u.oneCell' = true) (hm : us.length = m * 4) (hl : m ≤ 2000000000) :
    Calls Tryz.prog 72 #[.slice ao m cap] w fun e w' => Cloned e w w' ao m us := by
  cases ao with
  | none =>
    obtain rfl : us = [] := by simpa using hc.none_nil
    obtain rfl : m = 0 := by simp at hm; omega
    have he : ∀ w : World, (binOp .eql 29 (.slice none 0 cap) (.slice none 0 0)).run Tryz.prog w = .ok (.bool true) w := fun _ => rfl
    go_enter Tryz.func72, Tryz.ntmps72
    go_wp2_with fail
    go_ret
    exact ⟨none, 0, rfl, Cells.nil _ _, Ext.rf _, (fun _ h => by cases h), Nat.le_refl _, (fun _ h => by cases h), fun _ => ⟨rfl, rfl⟩⟩
  | some ad =>
    have he : ∀ w : World, (binOp .eql 29 (.slice (some ad) m cap) (.slice none 0 0)).run Tryz.prog w = .ok (.bool false) w := fun _ => rfl
    have hx0 := (Ext.rf w).al (.cells #[] 118)
    have own0 := World.ownsRow_lit (base := w.heap.size) (e := 118) (size := 4) w #[] 0 (Nat.le_refl _) (by decide) rfl
    have hc0 := hc.ext hx0
    go_enter Tryz.func72, Tryz.ntmps72
    go_wp2_with (at_builtin; (refine wpList_appendAll rfl (.tmp 5) (.tmp 6) 29 rfl w.heap.size 118 (.agg #[.int .u64 0, .int .u64 0, .int .u64 0, .int .u64 0]) 4 32 Tryz.underlying29 (by kernel_rfl) rfl (by decide) _ 0 _ (some ad) m _ us rfl own0 rfl hc0 hm h1 (by unfold maxLen; omega) (by omega) hx0.size ?_; intro v' w1 hown1 hgr; have hext1 := hx0.push own0 (Nat.le_refl _) hgr; clear hgr own0 hx0))
    simp only [Nat.zero_add, List.nil_append] at hown1
    obtain ⟨ao', cap', rfl, hc', hf'⟩ := own_cells hown1
    go_ret
    exact ⟨ao', cap', rfl, hc', hext1, hf', own_cap hown1, fun ad e => by subst e; exact (hown1.lt _ rfl).2, fun h => by cases h⟩
/-- One more function that is an operation. -/
theorem KOk.more {P : Program} {f0 : FuncId} {g : List T → Hp → Option (T × Hp)} {K : CallFn} (h0 : KOk P fun f a h => if f = f0 then g a h else none) (hK : KOk P K) : KOk P fun f a h => if f = f0 then g a h else K f a h := fun f a h res h' hc => by
  simp only at hc
  by_cases hf : f = f0
  · rw [if_pos hf] at hc
    exact h0 f a h res h' (by simp only; rw [if_pos hf]; exact hc)
  · rw [if_neg hf] at hc
    exact hK f a h res h' hc
theorem clone_ok {P : Program} {f0 : FuncId} {sz bd : Nat} (h0 : 0 < sz) (hf : ∃ fn, P.funcs[f0]? = some fn ∧ fn.body.isSome = true ∧ (fn.name == "runtime.NumGoroutine") = false)
    (hC : ∀ (ao : Option Addr) (cap m : Nat) (us : List Value) (w : World), Cells w ao us → (∀ u ∈ us, u.oneCell' = true) → us.length = m * sz → m ≤ bd → Calls P f0 #[.slice ao m cap] w fun e w' => Cloned e w w' ao m us) :
    KOk P fun f a h => if f = f0 then cloneX sz bd a h else none := fun f a h res h' hc => by
  simp only at hc
  split at hc
  case isFalse => cases hc
  rename_i hf2
  subst hf2
  refine ⟨hf, fun W who L vs H hl R => ?_⟩
  unfold cloneX at hc
  split at hc
  · rename_i s es
    split at hc
    case isFalse => cases hc
    rename_i hle
    obtain ⟨rfl, hle⟩ := hle
    cases hc
    obtain ⟨v, rfl⟩ : ∃ v, vs = [v] := by
      match vs, hl with
      | [v], _ => exact ⟨v, rfl⟩
    obtain ⟨x, hx, hr⟩ := R 0 _ v rfl rfl
    cases hx
    cases hr with
    | fz _ cap _ ao us hu hcap ha hw hrg hlen hrep =>
      have hC1 : Cells W ao us := ⟨fun hne => ha (fun e0 => hne (by subst e0; simpa using hlen.symm)), fun b off e j u hj => hrg b off e j u hj⟩
      have hul : us.length = es.length * s := by rw [← hlen, flatten_len es hu]
      have hus : RepCs W who es.flatten us := ⟨hlen, hrep⟩
      refine (hC ao cap es.length us W hC1 hus.one hul hle).mono fun e W' ⟨ao', cap', he, hC', hx, hfr, hcap', hlt, _⟩ => ?_
      obtain ⟨H', S'⟩ := ext_frozen H hx
      refine ⟨_, _, L, he, ⟨_, rfl, ?_⟩, H', S'.any⟩
      have hne : es ≠ [] → us ≠ [] := fun h1 e0 => h1 (List.eq_nil_of_length_eq_zero (by
        subst e0
        rcases Nat.mul_eq_zero.1 hul.symm with h | h
        · exact h
        · omega))
      refine .fz s cap' es ao' us hu hcap' (fun h0 => hC'.addr (hne h0)) (fun b off h0 e => ?_) (fun b off e j u hj => hC'.cell b off e j u hj) hlen (fun i c u h1 h2 => S'.repC (hrep i c u h1 h2))
      have hb := hlt _ e
      have hb2 := hfr _ e
      exact ⟨if_neg (by simp only at hb2; omega), hb⟩
  · cases hc
    obtain ⟨v, rfl⟩ : ∃ v, vs = [v] := by
      match vs, hl with
      | [v], _ => exact ⟨v, rfl⟩
    obtain ⟨x, hx, hr⟩ := R 0 _ v rfl rfl
    cases hx
    cases hr
    refine (hC none 0 0 [] W (Cells.nil _ _) (by simp) (by simp) (by omega)).mono fun e W' ⟨ao', cap', he, hC', hx, hfr, hcap', hlt, hn⟩ => ?_
    obtain ⟨rfl, rfl⟩ := hn rfl
    obtain ⟨H', S'⟩ := ext_frozen H hx
    exact ⟨_, _, L, he, ⟨_, rfl, .v _ rfl⟩, H', S'.any⟩
  · cases hc
theorem KOk.none {P : Program} : KOk P fun _ _ _ => none := fun f a h res h' hc => by cases hc
def baseX : CallFn := fun f a h =>
  if f = 33 then cloneX 1 140737488351232 a h else
  if f = 68 then cloneX 1 2000000000 a h else
  if f = 69 then cloneX 2 2000000000 a h else
  if f = 70 then cloneX 1 2000000000 a h else
  if f = 71 then cloneX 7 2000000000 a h else
  if f = 72 then cloneX 4 2000000000 a h else
  none
theorem baseX_ok : KOk Tryz.prog baseX :=
  .more (clone_ok (by decide) ⟨_, Tryz.func33, by kernel_rfl, by kernel_rfl⟩ fun ao cap m us w h1 h2 h3 h4 => clone_byte ao cap m us w h1 h2 h3 h4) <|
  .more (clone_ok (by decide) ⟨_, Tryz.func68, by kernel_rfl, by kernel_rfl⟩ fun ao cap m us w h1 h2 h3 h4 => clone_Type ao cap m us w h1 h2 h3 h4) <|
  .more (clone_ok (by decide) ⟨_, Tryz.func69, by kernel_rfl, by kernel_rfl⟩ fun ao cap m us w h1 h2 h3 h4 => clone_Instr ao cap m us w h1 h2 h3 h4) <|
  .more (clone_ok (by decide) ⟨_, Tryz.func70, by kernel_rfl, by kernel_rfl⟩ fun ao cap m us w h1 h2 h3 h4 => clone_Int ao cap m us w h1 h2 h3 h4) <|
  .more (clone_ok (by decide) ⟨_, Tryz.func71, by kernel_rfl, by kernel_rfl⟩ fun ao cap m us w h1 h2 h3 h4 => clone_Node ao cap m us w h1 h2 h3 h4) <|
  .more (clone_ok (by decide) ⟨_, Tryz.func72, by kernel_rfl, by kernel_rfl⟩ fun ao cap m us w h1 h2 h3 h4 => clone_Set ao cap m us w h1 h2 h3 h4) <|
  .none
end Go.Proofs.YtkdnbnkbnegckaaGreat
