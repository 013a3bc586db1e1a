/- All lifted functions. Lifted functions, brought to a plain form. The texts of programs: what the lifted functions come to. -/
import Derived.Test.YtkdnbnkbnegckaaGreatDoorAb1
import Derived.Test.YtkdnbnkbnegckaaGreatDoorAb2
import Derived.Test.YtkdnbnkbnegckaaGreatDoorAb3
import Derived.Test.YtkdnbnkbnegckaaGreatDoorAb5
import Derived.Test.YtkdnbnkbnegckaaGreatDoorSigW
import Derived.Laws.Bits64b
import Derived.Laws.BitsAllLaws

namespace Go.Proofs.YtkdnbnkbnegckaaGreatDoor
open Go.RowKit

section
variable {α β : Type}
@[simp] theorem chk_t {r : Option β} : chk true r = r := rfl
@[simp] theorem chk_f {r : Option β} : chk false r = none := rfl
@[simp] theorem chk_d {p : Prop} [Decidable p] {r : Option β} : chk (decide p) r = if p then r else none := by by_cases h : p <;> simp [h]
@[simp] theorem cnd_t {x y : Option β} : cnd true x y = x := rfl
@[simp] theorem cnd_f {x y : Option β} : cnd false x y = y := rfl
@[simp] theorem cnd_d {p : Prop} [Decidable p] {x y : Option β} : cnd (decide p) x y = if p then x else y := by by_cases h : p <;> simp [h]
@[simp] theorem chk_and {a b : Bool} {r : Option β} : chk (a && b) r = chk a (chk b r) := by cases a <;> rfl
theorem cnd_b {b : Bool} {x y : Option β} : cnd b x y = if b = true then x else y := by cases b <;> rfl
@[simp] theorem cnd_same {b : Bool} {x : Option β} : cnd b x x = x := by cases b <;> rfl
@[simp] theorem cnd_not {b : Bool} {x y : Option β} : cnd (!b) x y = cnd b y x := by cases b <;> rfl
@[simp] theorem bnd_s {a : α} {k : α → Option β} : bnd (some a) k = k a := rfl
@[simp] theorem bnd_n {k : α → Option β} : bnd none k = none := rfl
theorem bnd_get {l : List α} {i : Nat} (h : i < l.length) {k : α → Option β} : bnd l[i]? k = k l[i] := by rw [List.getElem?_eq_getElem h]; rfl
@[simp] theorem joinK_l {δ : Type} {d : δ} {k : δ → Option β} : joinK (leftK d) k = k d := rfl
@[simp] theorem joinK_r {δ : Type} {r : Option β} {k : δ → Option β} : joinK (rightK r) k = r := by cases r <;> rfl
@[simp] theorem joinK_n {δ : Type} {k : δ → Option β} : joinK none k = none := rfl
@[simp] theorem joinK_ite {δ : Type} {p : Prop} [Decidable p] {a b : δ} {k : δ → Option β} : joinK (if p then leftK a else leftK b) k = k (if p then a else b) := by split <;> rfl
theorem joinK_if {δ : Type} {p : Prop} [Decidable p] {x y : Option (δ ⊕ β)} {k : δ → Option β} : joinK (if p then x else y) k = if p then joinK x k else joinK y k := by split <;> rfl
@[simp high] theorem joinK_lr {δ : Type} {p : Prop} [Decidable p] {a : δ} {r : Option β} {k : δ → Option β} : joinK (if p then leftK a else rightK r) k = if p then k a else r := by split <;> simp
@[simp high] theorem joinK_rl {δ : Type} {p : Prop} [Decidable p] {a : δ} {r : Option β} {k : δ → Option β} : joinK (if p then rightK r else leftK a) k = if p then r else k a := by split <;> simp
@[simp high] theorem joinK_and {υ : Type} {p : Prop} [Decidable p] {b : Bool} {u : υ} {k : Bool × υ → Option β} : joinK (if p then leftK (b, u) else leftK (false, u)) k = k (decide p && b, u) := by by_cases h : p <;> simp [h]
@[simp high] theorem joinK_or {υ : Type} {p : Prop} [Decidable p] {b : Bool} {u : υ} {k : Bool × υ → Option β} : joinK (if p then leftK (true, u) else leftK (b, u)) k = k (decide p || b, u) := by by_cases h : p <;> simp [h]
@[simp] theorem cnd_and {p q : Prop} [Decidable p] [Decidable q] {x y : Option β} : cnd (decide p && decide q) x y = if p ∧ q then x else y := by by_cases h : p <;> by_cases h2 : q <;> simp [h, h2]
@[simp] theorem cnd_or {p q : Prop} [Decidable p] [Decidable q] {x y : Option β} : cnd (decide p || decide q) x y = if p ∨ q then x else y := by by_cases h : p <;> by_cases h2 : q <;> simp [h, h2]
/-- A loop: what holds of what its rounds come to. -/
theorem iter_ex {f : α → (α → Option β) → Option β} (μ : α → Nat) (I : α → Prop) {R : Option β → Prop} (h : ∀ a again, I a → (∀ b, I b → μ b < μ a → R (again b)) → R (f a again)) : ∀ N a, I a → μ a < N → R (iter f N a)
  | 0, a, _, hm => by omega
  | N + 1, a, ha, hm => h a _ ha fun b hb hlt => iter_ex μ I h N b hb (by omega)
theorem iter_to {f : α → (α → Option β) → Option β} {x : Option β} (μ : α → Nat) (I : α → Prop) (h : ∀ a again, I a → (∀ b, I b → μ b < μ a → again b = x) → f a again = x) : ∀ N a, I a → μ a < N → iter f N a = x := iter_ex (R := fun r => r = x) μ I h
theorem iter_join {δ : Type} {f : α → (α → Option (δ ⊕ β)) → Option (δ ⊕ β)} {k : δ → Option β} {x : Option β} (μ : α → Nat) (I : α → Prop) (h : ∀ a again, I a → (∀ b, I b → μ b < μ a → joinK (again b) k = x) → joinK (f a again) k = x) : ∀ N a, I a → μ a < N → joinK (iter f N a) k = x := iter_ex (R := fun r => joinK r k = x) μ I h
end

@[simp] theorem leI_d {a b : Int} : leI a b = decide (a ≤ b) := rfl
@[simp] theorem ltI_d {a b : Int} : ltI a b = decide (a < b) := rfl
@[simp] theorem eqI_d {a b : Int} : eqI a b = decide (a = b) := by simp [eqI, Bool.beq_eq_decide_eq]
@[simp] theorem leN_d {a b : Nat} : leN a b = decide (a ≤ b) := rfl
@[simp] theorem ltN_d {a b : Nat} : ltN a b = decide (a < b) := rfl
@[simp] theorem eqN_d {a b : Nat} : eqN a b = decide (a = b) := rfl
@[simp] theorem notB_d {b : Bool} : notB b = !b := rfl
@[simp] theorem eqB_s {b : Bool} : eqB b b = true := by simp [eqB]
@[simp] theorem eqES_s {l : List (List C)} : eqES l l = true := by simp [eqES]
@[simp] theorem eqBA_s {l : ByteArray} : eqBA l l = true := by simp [eqBA]
@[simp] theorem natI_d {n : Int} : natI n = n.toNat := rfl
@[simp] theorem addN_d {a b : Nat} : addN a b = a + b := rfl
@[simp] theorem addI_d {a b : Int} : addI a b = a + b := rfl
@[simp] theorem subI_d {a b : Int} : subI a b = a - b := rfl
@[simp] theorem mulI_d {a b : Int} : mulI a b = a * b := rfl
@[simp] theorem subN_d {a b : Int} : subN a b = (a - b).toNat := rfl
theorem room_t {a b c : Nat} (h : a + b ≤ 2000000) (hc : c ≤ 1000) : room a b c = true := by
  have : (a + b) * c ≤ 2000000 * 1000 := Nat.mul_le_mul h hc
  refine decide_eq_true ⟨?_, by omega⟩
  unfold maxLen
  omega
@[simp] theorem remI_d {a b : Int} : remI a b = a.tmod b := rfl
theorem wi64 {n : Int} (h1 : -9223372036854775808 ≤ n) (h2 : n < 9223372036854775808) : wrp .i64 n = n := by rw [wrp, IntKind.wrap_i64]; omega
theorem wu64 {n : Int} (h1 : 0 ≤ n) (h2 : n < 18446744073709551616) : wrp .u64 n = n := by rw [wrp, IntKind.wrap_u64]; omega
@[simp] theorem wrp_z {k : IntKind} : wrp k 0 = 0 := by cases k <;> rfl
@[simp] theorem wrp_u8b {x : UInt8} : wrp .u8 (u8I x) = u8I x := by
  have := x.toNat_lt
  rw [wrp, IntKind.wrap_u8']; simp only [u8I]; omega
@[simp] theorem wrp_u64b {x : UInt8} : wrp .u64 (u8I x) = u8I x := by
  have := x.toNat_lt
  rw [wrp, IntKind.wrap_u64]; simp only [u8I]; omega
@[simp] theorem wrp_i64b {x : UInt8} : wrp .i64 (u8I x) = u8I x := by
  have := x.toNat_lt
  rw [wrp, IntKind.wrap_i64]; simp only [u8I]; omega
@[simp] theorem quoI_d {a b : Int} : quoI a b = a.tdiv b := rfl
@[simp] theorem negI_d {a : Int} : negI a = -a := by simp [negI]
theorem u8_lt {x : UInt8} : u8I x < 256 := by have := x.toNat_lt; simp only [u8I]; omega
theorem u8_ge {x : UInt8} : 0 ≤ u8I x := by simp only [u8I]; omega
@[simp] theorem inU8_z : inU8 0 = true := rfl
@[simp] theorem toU8_z : toU8 0 = 0 := rfl
@[simp] theorem inU8_u8 {x : UInt8} : inU8 (u8I x) = true := decide_eq_true ⟨u8_ge, u8_lt⟩
@[simp] theorem toU8_u8 {x : UInt8} : toU8 (u8I x) = x := by simp [toU8, u8I]

/-! Lists of data -/
section
variable {τ : Ty} {β : Type}
@[simp] theorem decK_enc {x : Data τ} {k : Data τ → Option β} : decK τ (enc τ x) k = k x := by
  unfold decK
  have h : ∃ y, enc τ x = enc τ y := ⟨x, rfl⟩
  rw [dif_pos h, ← enc_inj h.choose_spec]
@[simp] theorem decL_enc {l : List (Data τ)} {k : List (Data τ) → Option β} : decL τ (encL τ l) k = k l := by
  unfold decL
  have h : ∃ y, encL τ l = encL τ y := ⟨l, rfl⟩
  rw [dif_pos h, ← encL_inj h.choose_spec]
@[simp] theorem decL_nil {k : List (Data τ) → Option β} : decL τ [] k = k [] := decL_enc (l := [])
@[simp] theorem dI_d {β : Type} {l : LI} {k : LI → Option β} : dI l k = k l := decL_enc
@[simp] theorem dW_d {β : Type} {l : LI} {k : LI → Option β} : dW l k = k l := decL_enc
@[simp] theorem dY_d {β : Type} {l : LB} {k : LB → Option β} : dY l k = k l := decL_enc
@[simp] theorem dC_d {β : Type} {l : LC} {k : LC → Option β} : dC l k = k l := decL_enc
@[simp] theorem dN_d {β : Type} {l : LN} {k : LN → Option β} : dN l k = k l := decL_enc
@[simp] theorem dS_d {β : Type} {l : LS} {k : LS → Option β} : dS l k = k l := decL_enc
@[simp] theorem dF_d {β : Type} {l : LF} {k : LF → Option β} : dF l k = k l := decL_enc
@[simp] theorem qS_d {β : Type} {l : List (List C)} {r : Option β} : qS l r = r := by simp [qS]
@[simp] theorem qI_d {β : Type} {n : Int} {r : Option β} : qI n r = r := by simp [qI]
@[simp] theorem qN_d {β : Type} {n : Nat} {r : Option β} : qN n r = r := by simp [qN]
@[simp] theorem qB_d {β : Type} {b : ByteArray} {r : Option β} : qB b r = r := by simp [qB]
@[simp] theorem qO_d {β : Type} {b : Bool} {r : Option β} : qO b r = r := by simp [qO]
@[simp] theorem getE_enc {l : List (Data τ)} {i : Nat} {k : Data τ → Option β} : getE τ (encL τ l) i k = bnd l[i]? k := by
  simp only [getE, encL, mapE, List.getElem?_map]
  cases l[i]? with
  | none => rfl
  | some x => exact decK_enc
@[simp] theorem vnum_enc {l : List (Data τ)} : vnum (encL τ l) = l.length := List.length_map _
@[simp] theorem vlen_enc {l : List (Data τ)} : vlen (encL τ l) = (l.length : Int) := by simp only [vlen, encL, mapE, List.length_map]
@[simp] theorem vnum_nil : vnum [] = 0 := rfl
@[simp] theorem vlen_nil : vlen [] = 0 := rfl
@[simp] theorem vcut_enc {l : List (Data τ)} {a b : Nat} : vcut (encL τ l) a b = encL τ ((l.drop a).take b) := by simp only [vcut, encL, mapE, List.map_take, List.map_drop]
@[simp] theorem vapp_enc {l m : List (Data τ)} : vapp (encL τ l) (encL τ m) = encL τ (l ++ m) := by simp only [vapp, encL, mapE, List.map_append]
@[simp] theorem vapp_nil {l : List (List C)} : vapp [] l = l := rfl
theorem encL_cons {x : Data τ} {l : List (Data τ)} : enc τ x :: encL τ l = encL τ (x :: l) := rfl
@[simp] theorem one_enc {x : Data τ} : [enc τ x] = encL τ [x] := rfl
end
@[simp] theorem bytes_enc {l : List UInt8} : bytesOf (encL (.int .u8) l) = some l := by
  induction l with
  | nil => rfl
  | cons x l ih =>
    show (bytesOf (encL (.int .u8) l)).map (UInt8.ofNat (u8I x).toNat :: ·) = _
    rw [ih]
    simp [u8I]
@[simp] theorem strK_enc {β : Type} {l : List UInt8} {k : ByteArray → Option β} : strK (encL (.int .u8) l) k = k ⟨⟨l⟩⟩ := by
  simp only [strK, bytes_enc, bnd_s]
@[simp] theorem getS_d {β : Type} {l : List UInt8} {i : Nat} {k : UInt8 → Option β} : getS ⟨⟨l⟩⟩ i k = bnd l[i]? k := by simp [getS]
@[simp] theorem lapp_d {a b : List UInt8} : lapp a b = a ++ b := rfl
@[simp] theorem slen_d {l : List UInt8} : slen ⟨⟨l⟩⟩ = (l.length : Int) := rfl
@[simp] theorem encS_d {l : List UInt8} : encS ⟨⟨l⟩⟩ = encL (.int .u8) l := rfl
@[simp] theorem seq2_d {a b : List UInt8} : seq2 ⟨⟨a⟩⟩ ⟨⟨b⟩⟩ = decide (a = b) := by simp [seq2, Bool.beq_eq_decide_eq]
@[simp] theorem take_rest {α : Type} {l : List α} {k : Nat} : List.take (l.length - k) (List.drop k l) = List.drop k l := List.take_of_length_le (by simp)
/-! Cells -/
@[simp] theorem cell_i64 {n : Int} : [C.v (.int .i64 n)] = enc (.int .i64) n := rfl
@[simp] theorem cell_u64 {n : Int} : [C.v (.int .u64 n)] = enc (.int .u64) n := rfl
@[simp] theorem cell_u8 {n : UInt8} : [C.v (.int .u8 (u8I n))] = enc (.int .u8) n := rfl
@[simp] theorem cells_i64 {τ : Ty} {n : Int} {x : Data τ} : C.v (.int .i64 n) :: enc τ x = enc (.pr (.int .i64) τ) (n, x) := rfl
@[simp] theorem cells_u64 {τ : Ty} {n : Int} {x : Data τ} : C.v (.int .u64 n) :: enc τ x = enc (.pr (.int .u64) τ) (n, x) := rfl
@[simp] theorem cells_bool {τ : Ty} {b : Bool} {x : Data τ} : C.v (.bool b) :: enc τ x = enc (.pr .bool τ) (b, x) := rfl
@[simp] theorem cells_str {τ : Ty} {b : List UInt8} {x : Data τ} : C.v (.string ⟨⟨b⟩⟩) :: enc τ x = enc (.pr .str τ) (b, x) := rfl
@[simp] theorem cells_fz {τ σ : Ty} {sz : Nat} {l : List (Data σ)} {x : Data τ} : C.fz sz (encL σ l) :: enc τ x = enc (.pr (.sl sz σ) τ) (l, x) := rfl
@[simp] theorem cell_fz {σ : Ty} {sz : Nat} {l : List (Data σ)} : [C.fz sz (encL σ l)] = enc (.sl sz σ) l := rfl
@[simp] theorem cell_str {b : List UInt8} : [C.v (.string ⟨⟨b⟩⟩)] = enc .str b := rfl
@[simp] theorem cell_bool {b : Bool} : [C.v (.bool b)] = enc .bool b := rfl
end Go.Proofs.YtkdnbnkbnegckaaGreatDoor
namespace Go.Proofs.YtkdnbnkbnegckaaGreatDoor
open Go.RowKit
set_option maxRecDepth 20000
abbrev Nd := Int × (Int × (Int × (Int × (Int × (Int × Int)))))
abbrev St := Int × (Int × (Int × Int))
abbrev Fn := List UInt8 × (Bool × (List Int × (List Int × (List Int × (List Int × (List (Int × Int) × (List Int × (List Nd × (List Int × List St)))))))))
def atL (l : List Int) (i : Nat) : Int := l[i]?.getD 0
def instT (lines : List Int) (p : (Int × Int) × Nat) : List UInt8 := decB (atL lines p.2) ++ 32 :: (textI p.1 ++ [10])
def codeT (lines : List Int) (code : List (Int × Int)) : List UInt8 := code.zipIdx.flatMap (instT lines)
def headT (name : List UInt8) (inner : Bool) (outer params results locals : List Int) : List UInt8 := [102, 117, 110, 99] ++ 32 :: (name ++ 32 :: (textB params ++ 32 :: (textB results ++ 32 :: (textB locals ++ (if inner = true then 32 :: textB outer else [])))))
def funcT (f : Fn) : List UInt8 := headT f.1 f.2.1 f.2.2.1 f.2.2.2.1 f.2.2.2.2.1 f.2.2.2.2.2.1 ++ 10 :: (codeT f.2.2.2.2.2.2.2.1 f.2.2.2.2.2.2.1 ++ [101, 110, 100, 10])
theorem textB_le (l : List Int) : (textB l).length ≤ l.length + 1 := by
  unfold textB
  split <;> simp
theorem headT_le {name : List UInt8} {inner : Bool} {outer params results locals : List Int} : (headT name inner outer params results locals).length ≤ name.length + outer.length + params.length + results.length + locals.length + 20 := by
  have h1 := textB_le outer
  have h2 := textB_le params
  have h3 := textB_le results
  have h4 := textB_le locals
  unfold headT
  cases inner <;> simp <;> omega
/-- The lists are no longer than there is room for. -/
def RoomF (name : List UInt8) (outer params results locals : List Int) : Prop := name.length ≤ 100000000 ∧ outer.length ≤ 1000000 ∧ params.length ≤ 1000000 ∧ results.length ≤ 1000000 ∧ locals.length ≤ 1000000
section
variable {name : List UInt8} {inner : Bool} {outer params results locals lines at' : List Int} {code : List (Int × Int)} {nodes : List Nd} {live : List St}
theorem sp_sText {l : List Int} (h : l.length ≤ 1000000) : S_sig_Text l = some (textB l, ()) := by simp [S_sig_Text, h]
theorem sp_join {l : List (List UInt8)} {s : List UInt8} (h0 : 1 ≤ l.length) (h : l.length ≤ 1000000) (h2 : (Lib.join l s).length ≤ 140737488355328) : S_strings_Join l s = some (Lib.join l s, ()) := by simp [S_strings_Join, h0, h, h2]
theorem join5 (a b c d e s : List UInt8) : Lib.join [a, b, c, d, e] s = a ++ s ++ (b ++ s ++ (c ++ s ++ (d ++ s ++ e))) := by simp [Lib.join]
theorem join6 (a b c d e f s : List UInt8) : Lib.join [a, b, c, d, e, f] s = a ++ s ++ (b ++ s ++ (c ++ s ++ (d ++ s ++ (e ++ s ++ f)))) := by simp [Lib.join]
theorem sp_head (h : RoomF name outer params results locals) : S_dis_Head name inner outer params results locals code lines nodes at' live = some (headT name inner outer params results locals, ()) := by
  obtain ⟨h0, h1, h2, h3, h4⟩ := h
  refine u_dis_Head (N := 0) ?_
  have hr : room 5 1 16 = true := by decide +kernel
  have hl := headT_le (name := name) (inner := inner) (outer := outer) (params := params) (results := results) (locals := locals)
  cases inner with
  | true =>
    have e : Lib.join [[102, 117, 110, 99], name, textB params, textB results, textB locals, textB outer] [32] = headT name true outer params results locals := by rw [join6]; simp [headT]
    have hJ := sp_join (l := [[102, 117, 110, 99], name, textB params, textB results, textB locals, textB outer]) (s := [32]) (by simp) (by simp) (by rw [e]; omega)
    rw [e] at hJ
    simp [M_dis_Head, sp_sText h1, sp_sText h2, sp_sText h3, sp_sText h4, hr, encL_cons, hJ]
  | false =>
    have e : Lib.join [[102, 117, 110, 99], name, textB params, textB results, textB locals] [32] = headT name false outer params results locals := by rw [join5]; simp [headT]
    have hJ := sp_join (l := [[102, 117, 110, 99], name, textB params, textB results, textB locals]) (s := [32]) (by simp) (by simp) (by rw [e]; omega)
    rw [e] at hJ
    simp [M_dis_Head, sp_sText h1, sp_sText h2, sp_sText h3, sp_sText h4, hr, encL_cons, hJ]
end
/-- A loop that lays one thing after the other. -/
theorem flatMap_le {α : Type} {g : α → List UInt8} {c : Nat} : ∀ {l : List α}, (∀ x ∈ l, (g x).length ≤ c) → (l.flatMap g).length ≤ l.length * c
  | [], _ => by simp
  | x :: l, h => by
    have h1 := h x (by simp)
    have h2 := flatMap_le (l := l) (c := c) fun y hy => h y (by simp [hy])
    simp only [List.flatMap_cons, List.length_append, List.length_cons, Nat.succ_mul]
    omega
def I64s (n : Int) : Prop := -9223372036854775808 ≤ n ∧ n ≤ 9223372036854775807
theorem textI_le {p : Int × Int} (h : I64s p.2) : (textI p).length ≤ 32 := by
  have h1 := opNameL_len p.1
  have h2 := decB_len h.1 h.2
  unfold textI
  split
  · split
    · omega
    · simp
      omega
  · simp
theorem instT_le {lines : List Int} {p : (Int × Int) × Nat} (hl : ∀ v ∈ lines, I64s v) (h : I64s p.1.2) : (instT lines p).length ≤ 60 := by
  have h1 : I64s (atL lines p.2) := by
    unfold atL
    cases hq : lines[p.2]? with
    | none => exact ⟨by decide, by decide⟩
    | some v => exact hl v (List.mem_of_getElem? hq)
  have h2 := decB_len h1.1 h1.2
  have h3 := textI_le h
  simp only [instT, List.length_append, List.length_cons, List.length_nil]
  omega
theorem atL_ok {lines : List Int} {i : Nat} (hl : ∀ v ∈ lines, I64s v) : I64s (atL lines i) := by
  unfold atL
  cases hq : lines[i]? with
  | none => exact ⟨by decide, by decide⟩
  | some v => exact hl v (List.mem_of_getElem? hq)
theorem sp_lAt {l : List Int} {i : Nat} : S_lines_At l (i : Int) = some (atL l i, ()) := by
  refine u_lines_At (N := 0) ?_
  by_cases h : i < l.length
  · simp [M_lines_At, show ¬(i : Int) < 0 by omega, show ¬(l.length : Int) ≤ i by omega, atL, h]
  · simp [M_lines_At, show ¬(i : Int) < 0 by omega, show (l.length : Int) ≤ i by omega, atL, List.getElem?_eq_none (show l.length ≤ i by omega)]
theorem codeT_le {lines : List Int} {code : List (Int × Int)} (hl : ∀ v ∈ lines, I64s v) (hc : ∀ p ∈ code, I64s p.2) : (codeT lines code).length ≤ code.length * 60 := by
  have := flatMap_le (l := code.zipIdx) (g := instT lines) (c := 60) fun x hx => instT_le hl (hc x.1 (by
    obtain ⟨i, hi, e⟩ := List.mem_iff_getElem.1 hx
    rw [List.getElem_zipIdx] at e
    rw [← e]
    exact List.getElem_mem _))
  rwa [List.length_zipIdx] at this
section
variable {name : List UInt8} {inner : Bool} {outer params results locals lines at' : List Int} {code : List (Int × Int)} {nodes : List Nd} {live : List St}
end
def textT (fs : List Fn) : List UInt8 := fs.flatMap funcT
/-- A function whose text is made. -/
def OkT (f : Fn) : Prop := RoomF f.1 f.2.2.1 f.2.2.2.1 f.2.2.2.2.1 f.2.2.2.2.2.1 ∧ f.2.2.2.2.2.2.1.length ≤ 100000 ∧ (∀ v ∈ f.2.2.2.2.2.2.2.1, I64s v) ∧ ∀ p ∈ f.2.2.2.2.2.2.1, I64s p.2
end Go.Proofs.YtkdnbnkbnegckaaGreatDoor
