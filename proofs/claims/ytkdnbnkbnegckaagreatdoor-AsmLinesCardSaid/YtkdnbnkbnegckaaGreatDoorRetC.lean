/- Lifted functions, brought to a plain form. The texts of programs: what the lifted functions come to. dis.writer: a builder within a struct: what is written into it, and what it tells. dis.writer: a line. Calls of what the second machine knows; functions in a row. The words of a line: asm.words; the reference's cut. Results that lie in a cell. -/
import Derived.Test.YtkdnbnkbnegckaaGreatDoorSigP
import Derived.Laws.Bits64b
import Derived.Laws.BitsAllLaws
import Derived.Test.YtkdnbnkbnegckaaGreatDoorAb
import Derived.Test.YtkdnbnkbnegckaaGreatDoorBase
import Derived.Test.YtkdnbnkbnegckaaGreatDoorStrA
import Derived.Shelf.RegionOpenPlain
import Derived.Lib.Strings
import Derived.Lib.Slices
import Derived.Lib.Walk
import Derived.Lib.Builder
import Derived.Lib.AppendStr
import Derived.Lib.UnsafeStr
import Derived.WalkKit
import Derived.Laws.Externs
import Derived.Test.YtkdnbnkbnegckaaGreatDoorShelf
import Derived.Deep.RegionHeld3
import Derived.Laws.ResultCell
namespace Go.Proofs.YtkdnbnkbnegckaaGreatDoor
open Go.RowKit

section
variable {α β : Type}
@[simp] theorem chk_t {r : Option β} : chk true r = r := rfl
@[simp] theorem chk_f {r : Option β} : chk false r = none := rfl
@[simp] theorem chk_d {p : Prop} [Decidable p] {r : Option β} : chk (decide p) r = if p then r else none := by by_cases h : p <;> simp [h]
@[simp] theorem cnd_t {x y : Option β} : cnd true x y = x := rfl
@[simp] theorem cnd_f {x y : Option β} : cnd false x y = y := rfl
@[simp] theorem cnd_d {p : Prop} [Decidable p] {x y : Option β} : cnd (decide p) x y = if p then x else y := by by_cases h : p <;> simp [h]
@[simp] theorem chk_and {a b : Bool} {r : Option β} : chk (a && b) r = chk a (chk b r) := by cases a <;> rfl
theorem cnd_b {b : Bool} {x y : Option β} : cnd b x y = if b = true then x else y := by cases b <;> rfl
@[simp] theorem cnd_same {b : Bool} {x : Option β} : cnd b x x = x := by cases b <;> rfl
@[simp] theorem cnd_not {b : Bool} {x y : Option β} : cnd (!b) x y = cnd b y x := by cases b <;> rfl
@[simp] theorem bnd_s {a : α} {k : α → Option β} : bnd (some a) k = k a := rfl
@[simp] theorem bnd_n {k : α → Option β} : bnd none k = none := rfl
theorem bnd_get {l : List α} {i : Nat} (h : i < l.length) {k : α → Option β} : bnd l[i]? k = k l[i] := by rw [List.getElem?_eq_getElem h]; rfl
@[simp] theorem joinK_l {δ : Type} {d : δ} {k : δ → Option β} : joinK (leftK d) k = k d := rfl
@[simp] theorem joinK_r {δ : Type} {r : Option β} {k : δ → Option β} : joinK (rightK r) k = r := by cases r <;> rfl
@[simp] theorem joinK_n {δ : Type} {k : δ → Option β} : joinK none k = none := rfl
@[simp] theorem joinK_ite {δ : Type} {p : Prop} [Decidable p] {a b : δ} {k : δ → Option β} : joinK (if p then leftK a else leftK b) k = k (if p then a else b) := by split <;> rfl
@[simp high] theorem joinK_lr {δ : Type} {p : Prop} [Decidable p] {a : δ} {r : Option β} {k : δ → Option β} : joinK (if p then leftK a else rightK r) k = if p then k a else r := by split <;> simp
@[simp high] theorem joinK_rl {δ : Type} {p : Prop} [Decidable p] {a : δ} {r : Option β} {k : δ → Option β} : joinK (if p then rightK r else leftK a) k = if p then r else k a := by split <;> simp
@[simp high] theorem joinK_and {υ : Type} {p : Prop} [Decidable p] {b : Bool} {u : υ} {k : Bool × υ → Option β} : joinK (if p then leftK (b, u) else leftK (false, u)) k = k (decide p && b, u) := by by_cases h : p <;> simp [h]
@[simp high] theorem joinK_or {υ : Type} {p : Prop} [Decidable p] {b : Bool} {u : υ} {k : Bool × υ → Option β} : joinK (if p then leftK (true, u) else leftK (b, u)) k = k (decide p || b, u) := by by_cases h : p <;> simp [h]
@[simp] theorem cnd_and {p q : Prop} [Decidable p] [Decidable q] {x y : Option β} : cnd (decide p && decide q) x y = if p ∧ q then x else y := by by_cases h : p <;> by_cases h2 : q <;> simp [h, h2]
@[simp] theorem cnd_or {p q : Prop} [Decidable p] [Decidable q] {x y : Option β} : cnd (decide p || decide q) x y = if p ∨ q then x else y := by by_cases h : p <;> by_cases h2 : q <;> simp [h, h2]
/-- A loop: what holds of what its rounds come to. -/
theorem iter_ex {f : α → (α → Option β) → Option β} (μ : α → Nat) (I : α → Prop) {R : Option β → Prop} (h : ∀ a again, I a → (∀ b, I b → μ b < μ a → R (again b)) → R (f a again)) : ∀ N a, I a → μ a < N → R (iter f N a)
  | 0, a, _, hm => by omega
  | N + 1, a, ha, hm => h a _ ha fun b hb hlt => iter_ex μ I h N b hb (by omega)
theorem iter_to {f : α → (α → Option β) → Option β} {x : Option β} (μ : α → Nat) (I : α → Prop) (h : ∀ a again, I a → (∀ b, I b → μ b < μ a → again b = x) → f a again = x) : ∀ N a, I a → μ a < N → iter f N a = x := iter_ex (R := fun r => r = x) μ I h
end

@[simp] theorem leI_d {a b : Int} : leI a b = decide (a ≤ b) := rfl
@[simp] theorem ltI_d {a b : Int} : ltI a b = decide (a < b) := rfl
@[simp] theorem eqI_d {a b : Int} : eqI a b = decide (a = b) := by simp [eqI, Bool.beq_eq_decide_eq]
@[simp] theorem leN_d {a b : Nat} : leN a b = decide (a ≤ b) := rfl
@[simp] theorem ltN_d {a b : Nat} : ltN a b = decide (a < b) := rfl
@[simp] theorem eqN_d {a b : Nat} : eqN a b = decide (a = b) := rfl
@[simp] theorem notB_d {b : Bool} : notB b = !b := rfl
@[simp] theorem eqB_s {b : Bool} : eqB b b = true := by simp [eqB]
@[simp] theorem eqES_s {l : List (List C)} : eqES l l = true := by simp [eqES]
@[simp] theorem eqBA_s {l : ByteArray} : eqBA l l = true := by simp [eqBA]
@[simp] theorem natI_d {n : Int} : natI n = n.toNat := rfl
@[simp] theorem addN_d {a b : Nat} : addN a b = a + b := rfl
@[simp] theorem addI_d {a b : Int} : addI a b = a + b := rfl
@[simp] theorem subI_d {a b : Int} : subI a b = a - b := rfl
@[simp] theorem mulI_d {a b : Int} : mulI a b = a * b := rfl
@[simp] theorem subN_d {a b : Int} : subN a b = (a - b).toNat := rfl
theorem room_t {a b c : Nat} (h : a + b ≤ 2000000) (hc : c ≤ 1000) : room a b c = true := by
  have : (a + b) * c ≤ 2000000 * 1000 := Nat.mul_le_mul h hc
  refine decide_eq_true ⟨?_, by omega⟩
  unfold maxLen
  omega
@[simp] theorem remI_d {a b : Int} : remI a b = a.tmod b := rfl
theorem wi64 {n : Int} (h1 : -9223372036854775808 ≤ n) (h2 : n < 9223372036854775808) : wrp .i64 n = n := by rw [wrp, IntKind.wrap_i64]; omega
@[simp] theorem wrp_z {k : IntKind} : wrp k 0 = 0 := by cases k <;> rfl
@[simp] theorem wrp_u8b {x : UInt8} : wrp .u8 (u8I x) = u8I x := by
  have := x.toNat_lt
  rw [wrp, IntKind.wrap_u8']; simp only [u8I]; omega
@[simp] theorem wrp_u64b {x : UInt8} : wrp .u64 (u8I x) = u8I x := by
  have := x.toNat_lt
  rw [wrp, IntKind.wrap_u64]; simp only [u8I]; omega
@[simp] theorem wrp_i64b {x : UInt8} : wrp .i64 (u8I x) = u8I x := by
  have := x.toNat_lt
  rw [wrp, IntKind.wrap_i64]; simp only [u8I]; omega
@[simp] theorem quoI_d {a b : Int} : quoI a b = a.tdiv b := rfl
@[simp] theorem negI_d {a : Int} : negI a = -a := by simp [negI]
theorem u8_lt {x : UInt8} : u8I x < 256 := by have := x.toNat_lt; simp only [u8I]; omega
theorem u8_ge {x : UInt8} : 0 ≤ u8I x := by simp only [u8I]; omega
@[simp] theorem inU8_z : inU8 0 = true := rfl
@[simp] theorem toU8_z : toU8 0 = 0 := rfl
@[simp] theorem inU8_u8 {x : UInt8} : inU8 (u8I x) = true := decide_eq_true ⟨u8_ge, u8_lt⟩
@[simp] theorem toU8_u8 {x : UInt8} : toU8 (u8I x) = x := by simp [toU8, u8I]

/-! Lists of data -/
section
variable {τ : Ty} {β : Type}
@[simp] theorem decK_enc {x : Data τ} {k : Data τ → Option β} : decK τ (enc τ x) k = k x := by
  unfold decK
  have h : ∃ y, enc τ x = enc τ y := ⟨x, rfl⟩
  rw [dif_pos h, ← enc_inj h.choose_spec]
@[simp] theorem decL_enc {l : List (Data τ)} {k : List (Data τ) → Option β} : decL τ (encL τ l) k = k l := by
  unfold decL
  have h : ∃ y, encL τ l = encL τ y := ⟨l, rfl⟩
  rw [dif_pos h, ← encL_inj h.choose_spec]
@[simp] theorem decL_nil {k : List (Data τ) → Option β} : decL τ [] k = k [] := decL_enc (l := [])
@[simp] theorem dI_d {β : Type} {l : LI} {k : LI → Option β} : dI l k = k l := decL_enc
@[simp] theorem dW_d {β : Type} {l : LI} {k : LI → Option β} : dW l k = k l := decL_enc
@[simp] theorem dY_d {β : Type} {l : LB} {k : LB → Option β} : dY l k = k l := decL_enc
@[simp] theorem dC_d {β : Type} {l : LC} {k : LC → Option β} : dC l k = k l := decL_enc
@[simp] theorem dN_d {β : Type} {l : LN} {k : LN → Option β} : dN l k = k l := decL_enc
@[simp] theorem dS_d {β : Type} {l : LS} {k : LS → Option β} : dS l k = k l := decL_enc
@[simp] theorem dF_d {β : Type} {l : LF} {k : LF → Option β} : dF l k = k l := decL_enc
@[simp] theorem qS_d {β : Type} {l : List (List C)} {r : Option β} : qS l r = r := by simp [qS]
@[simp] theorem qI_d {β : Type} {n : Int} {r : Option β} : qI n r = r := by simp [qI]
@[simp] theorem qN_d {β : Type} {n : Nat} {r : Option β} : qN n r = r := by simp [qN]
@[simp] theorem qB_d {β : Type} {b : ByteArray} {r : Option β} : qB b r = r := by simp [qB]
@[simp] theorem qO_d {β : Type} {b : Bool} {r : Option β} : qO b r = r := by simp [qO]
@[simp] theorem getE_enc {l : List (Data τ)} {i : Nat} {k : Data τ → Option β} : getE τ (encL τ l) i k = bnd l[i]? k := by
  simp only [getE, encL, mapE, List.getElem?_map]
  cases l[i]? with
  | none => rfl
  | some x => exact decK_enc
@[simp] theorem vnum_enc {l : List (Data τ)} : vnum (encL τ l) = l.length := List.length_map _
@[simp] theorem vlen_enc {l : List (Data τ)} : vlen (encL τ l) = (l.length : Int) := by simp only [vlen, encL, mapE, List.length_map]
@[simp] theorem vnum_nil : vnum [] = 0 := rfl
@[simp] theorem vlen_nil : vlen [] = 0 := rfl
@[simp] theorem vcut_enc {l : List (Data τ)} {a b : Nat} : vcut (encL τ l) a b = encL τ ((l.drop a).take b) := by simp only [vcut, encL, mapE, List.map_take, List.map_drop]
@[simp] theorem vapp_enc {l m : List (Data τ)} : vapp (encL τ l) (encL τ m) = encL τ (l ++ m) := by simp only [vapp, encL, mapE, List.map_append]
@[simp] theorem vapp_nil {l : List (List C)} : vapp [] l = l := rfl
theorem encL_cons {x : Data τ} {l : List (Data τ)} : enc τ x :: encL τ l = encL τ (x :: l) := rfl
@[simp] theorem one_enc {x : Data τ} : [enc τ x] = encL τ [x] := rfl
end
@[simp] theorem bytes_enc {l : List UInt8} : bytesOf (encL (.int .u8) l) = some l := by
  induction l with
  | nil => rfl
  | cons x l ih =>
    show (bytesOf (encL (.int .u8) l)).map (UInt8.ofNat (u8I x).toNat :: ·) = _
    rw [ih]
    simp [u8I]
@[simp] theorem strK_enc {β : Type} {l : List UInt8} {k : ByteArray → Option β} : strK (encL (.int .u8) l) k = k ⟨⟨l⟩⟩ := by
  simp only [strK, bytes_enc, bnd_s]
@[simp] theorem getS_d {β : Type} {l : List UInt8} {i : Nat} {k : UInt8 → Option β} : getS ⟨⟨l⟩⟩ i k = bnd l[i]? k := by simp [getS]
@[simp] theorem lapp_d {a b : List UInt8} : lapp a b = a ++ b := rfl
@[simp] theorem slen_d {l : List UInt8} : slen ⟨⟨l⟩⟩ = (l.length : Int) := rfl
@[simp] theorem encS_d {l : List UInt8} : encS ⟨⟨l⟩⟩ = encL (.int .u8) l := rfl
@[simp] theorem seq2_d {a b : List UInt8} : seq2 ⟨⟨a⟩⟩ ⟨⟨b⟩⟩ = decide (a = b) := by simp [seq2, Bool.beq_eq_decide_eq]
@[simp] theorem take_rest {α : Type} {l : List α} {k : Nat} : List.take (l.length - k) (List.drop k l) = List.drop k l := List.take_of_length_le (by simp)
/-! Cells -/
@[simp] theorem cell_i64 {n : Int} : [C.v (.int .i64 n)] = enc (.int .i64) n := rfl
@[simp] theorem cell_u64 {n : Int} : [C.v (.int .u64 n)] = enc (.int .u64) n := rfl
@[simp] theorem cell_u8 {n : UInt8} : [C.v (.int .u8 (u8I n))] = enc (.int .u8) n := rfl
@[simp] theorem cells_i64 {τ : Ty} {n : Int} {x : Data τ} : C.v (.int .i64 n) :: enc τ x = enc (.pr (.int .i64) τ) (n, x) := rfl
@[simp] theorem cells_u64 {τ : Ty} {n : Int} {x : Data τ} : C.v (.int .u64 n) :: enc τ x = enc (.pr (.int .u64) τ) (n, x) := rfl
@[simp] theorem cells_bool {τ : Ty} {b : Bool} {x : Data τ} : C.v (.bool b) :: enc τ x = enc (.pr .bool τ) (b, x) := rfl
@[simp] theorem cells_str {τ : Ty} {b : List UInt8} {x : Data τ} : C.v (.string ⟨⟨b⟩⟩) :: enc τ x = enc (.pr .str τ) (b, x) := rfl
@[simp] theorem cells_fz {τ σ : Ty} {sz : Nat} {l : List (Data σ)} {x : Data τ} : C.fz sz (encL σ l) :: enc τ x = enc (.pr (.sl sz σ) τ) (l, x) := rfl
@[simp] theorem cell_fz {σ : Ty} {sz : Nat} {l : List (Data σ)} : [C.fz sz (encL σ l)] = enc (.sl sz σ) l := rfl
@[simp] theorem cell_str {b : List UInt8} : [C.v (.string ⟨⟨b⟩⟩)] = enc .str b := rfl
@[simp] theorem cell_bool {b : Bool} : [C.v (.bool b)] = enc .bool b := rfl
end Go.Proofs.YtkdnbnkbnegckaaGreatDoor
namespace Go.Proofs.YtkdnbnkbnegckaaGreatDoor
open Go.RowKit
set_option maxRecDepth 20000
abbrev Nd := Int × (Int × (Int × (Int × (Int × (Int × Int)))))
abbrev St := Int × (Int × (Int × Int))
abbrev Fn := List UInt8 × (Bool × (List Int × (List Int × (List Int × (List Int × (List (Int × Int) × (List Int × (List Nd × (List Int × List St)))))))))
section
variable {name : List UInt8} {inner : Bool} {outer params results locals lines at' : List Int} {code : List (Int × Int)} {nodes : List Nd} {live : List St}
end
section
variable {name : List UInt8} {inner : Bool} {outer params results locals lines at' : List Int} {code : List (Int × Int)} {nodes : List Nd} {live : List St}
end
end Go.Proofs.YtkdnbnkbnegckaaGreatDoor
namespace Go.Proofs.YtkdnbnkbnegckaaGreatDoor
open Go.RowKit Go.Shelf
set_option maxRecDepth 100000
set_option linter.unusedVariables false

/-! What stays as it was -/
def ownB (b : Nat) (w : World) : Option Nat := (w.cell? ⟨b, 1, none⟩).bind Value.ownBlock
structure Kp (b : Nat) (w w' : World) : Prop where
  size : w.heap.size ≤ w'.heap.size
  blk : ∀ k, k < w.heap.size → k ≠ b → ownB b w ≠ some k → w'.heap[k]? = w.heap[k]?
  own : ∀ k, ownB b w' = some k → ownB b w = some k ∨ w.heap.size ≤ k
theorem Kp.rf (b : Nat) (w : World) : Kp b w w := ⟨Nat.le_refl _, fun _ _ _ _ => rfl, fun _ h => .inl h⟩
theorem Kp.tr {b : Nat} {u v w : World} (h : Kp b u v) (k : Kp b v w) : Kp b u w := by
  refine ⟨Nat.le_trans h.size k.size, fun i h1 h2 h3 => ?_, fun i h1 => ?_⟩
  · rw [k.blk i (Nat.lt_of_lt_of_le h1 h.size) h2 fun e => (h.own i e).elim h3 fun e2 => by omega, h.blk i h1 h2 h3]
  · rcases k.own i h1 with h2 | h2
    · exact h.own i h2
    · exact .inr (Nat.le_trans h.size h2)
theorem Kp.ext {b : Nat} {w w' : World} (hb : b < w.heap.size) (hx : Ext w w') : Kp b w w' := by
  refine ⟨hx.size, fun k h1 _ _ => hx.block h1, fun k h => .inl ?_⟩
  have e : w'.cell? ⟨b, 1, none⟩ = w.cell? ⟨b, 1, none⟩ := by simp [World.cell?, hx.block hb]
  rw [ownB, ← e]
  exact h
end Go.Proofs.YtkdnbnkbnegckaaGreatDoor
namespace Go.Proofs.YtkdnbnkbnegckaaGreatDoor
open Go.RowKit
set_option maxRecDepth 100000
set_option linter.unusedVariables false

end Go.Proofs.YtkdnbnkbnegckaaGreatDoor
namespace Go.Proofs.YtkdnbnkbnegckaaGreatDoor
open Go.RowKit
set_option maxRecDepth 20000
theorem repT_one {W : World} {who : Nat → Who} {L : Lay} {h : Hp} {c : C} {v : Value} (H : RepT W who L h ⟨.one, [.c c]⟩ v) : RepC W who c v := by
  obtain ⟨x, hx, hr⟩ := H
  cases hx
  exact hr
theorem pure_one {f : FuncId} {args : List T} {c : C} {h' : Hp} (hc : callW Tryz.prog annX plansX f args ⟨[], []⟩ = some (⟨.one, [.c c]⟩, h')) {W : World} {vs : List Value} (hl : args.length = vs.length) (hr : ∀ (i : Nat) t v, args[i]? = some t → vs[i]? = some v → RepT W W0 L0 ⟨[], []⟩ t v) :
    Calls Tryz.prog f vs.toArray W fun e W' => ∃ v, e = .returned v ∧ RepC W' W0 c v ∧ Ext W W' := by
  refine ((callW_ok (A := annX) base_ok prog_ok f args ⟨[], []⟩ _ h' hc).2 W W0 L0 vs ⟨fun k xs h => by simp at h, fun r ty sz es h => by simp at h, fun r sz es h => by simp at h⟩ hl hr).mono fun e W' ⟨v, who', L', he, hv, _, hs⟩ => ?_
  exact ⟨v, he, (repT_one hv).mono fun _ _ => rfl, hs.os, hs.tape, hs.output, hs.size, fun k hk => (hs.fro k rfl hk).1⟩
def fnX (x : Fn) : List X := (enc tF x).map .c
theorem encL_len {σ : Ty} (l : List (Data σ)) : (encL σ l).length = l.length := List.length_map _
end Go.Proofs.YtkdnbnkbnegckaaGreatDoor
namespace Go.Proofs.YtkdnbnkbnegckaaGreatDoor
open Go.RowKit
set_option maxRecDepth 20000
set_option linter.unusedVariables false
def stepW (ws : List (List UInt8)) (c : UInt8) : List (List UInt8) := if c = 32 then ws ++ [[]] else ws.dropLast ++ [ws.getLast?.getD [] ++ [c]]
/-- A line's pieces between its blanks. -/
def wordsF (s : List UInt8) : List (List UInt8) := s.foldl stepW [[]]
theorem stepW_len (ws : List (List UInt8)) (c : UInt8) (h : ws ≠ []) : stepW ws c ≠ [] ∧ (stepW ws c).length ≤ ws.length + 1 := by
  unfold stepW
  have := List.length_pos_iff.2 h
  split
  · simp
  · simp only [List.length_append, List.length_dropLast, List.length_cons, List.length_nil, ne_eq, List.append_eq_nil_iff]
    refine ⟨by simp, by omega⟩
theorem wordsF_take {s : List UInt8} {k : Nat} (h : k < s.length) : wordsF (s.take (k + 1)) = stepW (wordsF (s.take k)) s[k] := by
  rw [wordsF, List.take_succ_eq_append_getElem h, List.foldl_append]
  rfl
theorem wordsF_ne (s : List UInt8) (k : Nat) : wordsF (s.take k) ≠ [] ∧ (wordsF (s.take k)).length ≤ k + 1 := by
  induction k with
  | zero => simp [wordsF]
  | succ k ih =>
    by_cases h : k < s.length
    · rw [wordsF_take h]
      have := stepW_len (wordsF (s.take k)) s[k] ih.1
      exact ⟨this.1, by omega⟩
    · rw [List.take_of_length_le (by omega)] at ih ⊢
      exact ⟨ih.1, by omega⟩
@[simp] theorem vset_enc {τ : Ty} {l : List (Data τ)} {i : Nat} {x : Data τ} : vset (encL τ l) i (enc τ x) = encL τ (l.set i x) := by simp only [vset, encL, mapE, List.map_set]
theorem wordsF_elem {s : List UInt8} (k : Nat) : ∀ w ∈ wordsF (s.take k), w.length ≤ k := by
  induction k with
  | zero => simp [wordsF]
  | succ k ih =>
    by_cases h : k < s.length
    · rw [wordsF_take h, stepW]
      intro w hw
      split at hw
      · rcases List.mem_append.1 hw with h2 | h2
        · have := ih w h2; omega
        · obtain rfl := List.mem_singleton.1 h2; simp
      · rcases List.mem_append.1 hw with h2 | h2
        · have := ih w ((List.dropLast_sublist _).mem h2); omega
        · obtain rfl := List.mem_singleton.1 h2
          cases hg : (wordsF (s.take k)).getLast? with
          | none => simp
          | some l =>
            have := ih l (List.mem_of_getLast? hg)
            simp
            omega
    · rw [List.take_of_length_le (by omega)] at ih ⊢
      intro w hw
      have := ih w hw
      omega
theorem set_last {α : Type} (ws : List α) (y : α) (h : ws ≠ []) : ws.set (ws.length - 1) y = ws.dropLast ++ [y] := by
  obtain ⟨i, l, rfl⟩ : ∃ i l, ws = i ++ [l] := ⟨ws.dropLast, ws.getLast h, (List.dropLast_concat_getLast h).symm⟩
  simp
theorem u8_32 {x : UInt8} : (u8I x = 32) ↔ x = 32 := by
  constructor
  · intro h
    exact UInt8.toNat_inj.1 (by have : (x.toNat : Int) = 32 := h; show x.toNat = 32; omega)
  · rintro rfl
    rfl
theorem sp_words {s : List UInt8} (hs : s.length ≤ 1000000) : S_asm_words s = some (wordsF s, ()) := by
  refine u_asm_words (N := s.length + 1) ?_
  simp [M_asm_words]
  refine iter_to (fun d => s.length - d.2.1.toNat) (fun d => ∃ k : Nat, d = (wordsF (s.take k), ((k : Int), ())) ∧ k ≤ s.length) ?_ _ _ ⟨0, by simp [wordsF], Nat.zero_le _⟩ (by simp)
  rintro _ again ⟨k, rfl, hk⟩ ih
  obtain ⟨hne, hle⟩ := wordsF_ne s k
  have hpos := List.length_pos_iff.2 hne
  by_cases h : k < s.length
  · have hw : wrp .i64 ((k : Int) + 1) = (k : Int) + 1 := wi64 (by omega) (by omega)
    have hw2 : wrp .i64 (((wordsF (s.take k)).length : Int) - 1) = ((wordsF (s.take k)).length : Int) - 1 := wi64 (by omega) (by omega)
    have hw3 : wrp .i32 (u8I s[k]) = u8I s[k] := by have h1 := @u8_lt s[k]; have h2 := @u8_ge s[k]; rw [wrp, IntKind.wrap_i32]; omega
    have hw4 : wrp .i32 (u8I 32) = 32 := by decide
    have hel := wordsF_elem (s := s) k
    have h2 := ih (wordsF (s.take (k + 1)), ((k : Int) + 1, ())) ⟨k + 1, rfl, h⟩ (by simp; omega)
    rw [wordsF_take h] at h2
    generalize wordsF (s.take k) = ws at *
    have hto : ((ws.length : Int) - 1).toNat = ws.length - 1 := by omega
    by_cases hc : s[k] = 32
    · have hr := room_t (a := ws.length) (b := 1) (c := 16) (by omega) (by omega)
      rw [stepW, if_pos hc] at h2
      simp [h, bnd_get h, hw, hw3, hw4, u8_32, hc, hr, h2]
    · rw [stepW, if_neg hc] at h2
      have hl : ws.length - 1 < ws.length := by omega
      have hg : ws.getLast? = some ws[ws.length - 1] := by rw [List.getLast?_eq_getElem?, List.getElem?_eq_getElem hl]
      rw [hg] at h2
      have h9 := hel ws[ws.length - 1] (List.getElem_mem hl)
      have h8 := set_last ws (ws[ws.length - 1] ++ [s[k]]) hne
      simp [h, bnd_get h, hw, hw2, hw3, u8_32, hc, hto, bnd_get hl, vset_enc, h8]
      refine ⟨by omega, by omega, by omega, by omega, by omega, ?_⟩
      simpa using h2
  · obtain rfl : k = s.length := by omega
    simp
end Go.Proofs.YtkdnbnkbnegckaaGreatDoor
namespace Go.Proofs.YtkdnbnkbnegckaaGreatDoor
open Go.RowKit
/-- A cursor of two cells, written anew. -/
theorem set2 {W : World} {g : Nat} {x y : Value} {t : TypeId} {fz : Nat × Nat} (h : W.heap[g]? = some (.cells #[x, y] t fz)) (a b : Value) : ((W.setCell ⟨g, 0, none⟩ a).setCell ⟨g, 1, none⟩ b).heap[g]? = some (.cells #[a, b] t fz) :=
  set_blk (set_blk h 0 a) 1 b
theorem ext2 {w W : World} {g : Nat} (h : Ext w W) (hg : w.heap.size ≤ g) (a b : Value) : Ext w ((W.setCell ⟨g, 0, none⟩ a).setCell ⟨g, 1, none⟩ b) :=
  Below.setCell (Below.setCell h.b (p := ⟨g, 0, none⟩) hg a) (p := ⟨g, 1, none⟩) hg b
theorem ret_cell_tmp {fn : Func} {p u : Tmp} {ty : TypeId} (h : fn.results = #[.cell p ty, .tmp u]) {tmps : Array Value} {P : Program} {w : World} {A : Addr} {v : Value} (hp : tmps.getD p undef = .pointer (some A)) (hv : (loadVar ty A).run P w = .ok v w) :
    (results fn tmps).run P w = .ok (.tuple #[v, tmps.getD u undef]) w := by
  rw [results_cell_tmp h, hp]
  simp [asAddr, Result.andThen, hv]
end Go.Proofs.YtkdnbnkbnegckaaGreatDoor
