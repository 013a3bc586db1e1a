/- The program's data as Lean's: instructions, nodes, sets, functions; their cells; where a function lies. Bytes of functions: what the lifted functions come to. -/
import Derived.Test.YtkdnbnkbnegckaaGreatBase
import Derived.Test.YtkdnbnkbnegckaaGreatStrA
import Derived.Test.YtkdnbnkbnegckaaGreatSpK
namespace Go.Proofs.YtkdnbnkbnegckaaGreat
open Go.RowKit

abbrev InstrT := Int × Int
structure NodeT where
  par : Int
  fn : Int
  line : Int
  frm : Int
  args : Int
  upto : Int
  res : Int
  deriving DecidableEq
structure SetT where
  a : Nat
  b : Nat
  c : Nat
  d : Nat
  deriving DecidableEq
structure FuncT where
  name : ByteArray
  inner : Bool
  outer : List Int
  params : List Int
  results : List Int
  locs : List Int
  code : List InstrT
  lines : List Int
  nodes : List NodeT
  ats : List Int
  live : List SetT
  deriving DecidableEq

def nodeC (n : NodeT) : List Value := [.int .i64 n.par, .int .i64 n.fn, .int .i64 n.line, .int .i64 n.frm, .int .i64 n.args, .int .i64 n.upto, .int .i64 n.res]
def setC (s : SetT) : List Value := [.int .u64 s.a, .int .u64 s.b, .int .u64 s.c, .int .u64 s.d]
def I64 (n : Int) : Prop := -9223372036854775808 ≤ n ∧ n ≤ 9223372036854775807
def Node64 (n : NodeT) : Prop := I64 n.par ∧ I64 n.fn ∧ I64 n.line ∧ I64 n.frm ∧ I64 n.args ∧ I64 n.upto ∧ I64 n.res
def Set64 (s : SetT) : Prop := s.a < 18446744073709551616 ∧ s.b < 18446744073709551616 ∧ s.c < 18446744073709551616 ∧ s.d < 18446744073709551616

/-- Where the parts of a function lie. -/
structure FuncA where
  o1 : Option Addr
  c1 : Nat
  o2 : Option Addr
  c2 : Nat
  o3 : Option Addr
  c3 : Nat
  o4 : Option Addr
  c4 : Nat
  o5 : Option Addr
  c5 : Nat
  o6 : Option Addr
  c6 : Nat
  o7 : Option Addr
  c7 : Nat
  o8 : Option Addr
  c8 : Nat
  o9 : Option Addr
  c9 : Nat

/-- A function lies there. -/
structure FuncIn (w : World) (A : FuncA) (f : FuncT) : Prop where
  h1 : Cells w A.o1 (f.outer.map (.int .i64))
  h2 : Cells w A.o2 (f.params.map (.int .i64))
  h3 : Cells w A.o3 (f.results.map (.int .i64))
  h4 : Cells w A.o4 (f.locs.map (.int .i64))
  h5 : Cells w A.o5 (f.code.flatMap pairC)
  h6 : Cells w A.o6 (f.lines.map (.int .i64))
  h7 : Cells w A.o7 (f.nodes.flatMap nodeC)
  h8 : Cells w A.o8 (f.ats.map (.int .i64))
  h9 : Cells w A.o9 (f.live.flatMap setC)

theorem FuncIn.ext {w w' : World} {A : FuncA} {f : FuncT} (h : FuncIn w A f) (hb : Ext w w') : FuncIn w' A f :=
  ⟨h.h1.ext hb, h.h2.ext hb, h.h3.ext hb, h.h4.ext hb, h.h5.ext hb, h.h6.ext hb, h.h7.ext hb, h.h8.ext hb, h.h9.ext hb⟩

/-- What a machine's function is: numbers of 64 bits, lengths that may be. -/
structure FuncB (f : FuncT) : Prop where
  n0 : f.name.size ≤ 9223372036854775807
  n1 : f.outer.length ≤ 17592186044416
  n2 : f.params.length ≤ 17592186044416
  n3 : f.results.length ≤ 17592186044416
  n4 : f.locs.length ≤ 17592186044416
  n5 : f.code.length ≤ 17592186044416
  n6 : f.lines.length ≤ 17592186044416
  n7 : f.nodes.length ≤ 17592186044416
  n8 : f.ats.length ≤ 17592186044416
  n9 : f.live.length ≤ 17592186044416
  v1 : ∀ n ∈ f.outer, I64 n
  v2 : ∀ n ∈ f.params, I64 n
  v3 : ∀ n ∈ f.results, I64 n
  v4 : ∀ n ∈ f.locs, I64 n
  v5 : ∀ i ∈ f.code, I64 i.1 ∧ I64 i.2
  v6 : ∀ n ∈ f.lines, I64 n
  v7 : ∀ n ∈ f.nodes, Node64 n
  v8 : ∀ n ∈ f.ats, I64 n
  v9 : ∀ s ∈ f.live, Set64 s
end Go.Proofs.YtkdnbnkbnegckaaGreat
namespace Go.Proofs.YtkdnbnkbnegckaaGreat
open Go.RowKit
set_option maxRecDepth 8000
theorem room_b {a b : Nat} (h : a + b ≤ 100000000000) : room a b 1 = true := decide_eq_true ⟨by unfold maxLen; omega, by omega⟩
/-! Numbers -/
theorem pow128 (f : Nat) : 2 ^ (7 * (f + 1)) = 2 ^ (7 * f) * 128 := by rw [Nat.mul_add, Nat.pow_add]
theorem sp_uPut {b : List UInt8} {n : Nat} (hb : b.length ≤ 10000000000) (hn : n < 18446744073709551616) : S_uvar_Put b n = some (b ++ putB n, ()) := by
  refine u_uvar_Put (N := n + 1) ?_
  simp [M_uvar_Put]
  refine iter_to (fun d => d.2.1.toNat) (fun d => ∃ (acc : List UInt8) (m f : Nat), d = (acc, ((m : Int), ())) ∧ acc ++ putF f m = b ++ putB n ∧ m < 2 ^ (7 * (f + 1)) ∧ f ≤ 9 ∧ m < 18446744073709551616 ∧ acc.length + f ≤ b.length + 9) ?_ _ _ ⟨b, n, 9, rfl, rfl, Nat.lt_of_lt_of_le hn (by decide), by omega, hn, by omega⟩ (by simp)
  rintro _ again ⟨acc, m, f, rfl, h1, h2, h3, h4, h5⟩ ih
  by_cases h : 128 ≤ m
  · obtain ⟨f, rfl⟩ : ∃ g, f = g + 1 := by
      cases f with
      | zero => simp at h2; omega
      | succ g => exact ⟨g, rfl⟩
    have e1 : bitI .or .u8 (wrp .u8 (m : Int)) 128 = u8I (UInt8.ofNat (m % 128 + 128)) := by
      rw [wrp, IntKind.wrap_u8']
      exact or128
    have e2 : shrI .u64 (m : Int) 7 = ((m / 128 : Nat) : Int) := by
      show (m : Int).fdiv (2 ^ min (7 : Int).toNat 64) = _
      rw [show (2 : Int) ^ min (7 : Int).toNat 64 = 128 from rfl, Int.fdiv_eq_ediv_of_nonneg _ (by decide)]
      omega
    rw [putF_ge _ h] at h1
    have hr := room_b (a := acc.length) (b := 1) (by omega)
    rw [pow128] at h2
    have := ih (acc ++ [UInt8.ofNat (m % 128 + 128)], (((m / 128 : Nat) : Int), ())) ⟨_, m / 128, f, rfl, by simpa using h1, by omega, by omega, by omega, by simp; omega⟩ (by simp; omega)
    simpa [h, e1, e2, hr, show (128 : Int) ≤ m by omega] using this
  · have e1 : wrp .u8 (m : Int) = u8I (UInt8.ofNat m) := by
      rw [wrp, IntKind.wrap_u8']
      have := ofNat_lt (n := m) (by omega)
      simp only [u8I]
      omega
    rw [putF_lt _ (by omega)] at h1
    have hr := room_b (a := acc.length) (b := 1) (by omega)
    have hl := congrArg List.length h1
    simp at hl
    simp [e1, hr, show ¬(128 : Int) ≤ m by omega, h1, hl]
theorem sp_Fold {n : Int} (hn : I64 n) : S_uvar_Fold n = some ((foldN n : Int), ()) := by
  refine u_uvar_Fold (N := 0) ?_
  have e1 : shrI .i64 n 63 = n / 9223372036854775808 := by
    show n.fdiv (2 ^ min (63 : Int).toNat 64) = _
    rw [show (2 : Int) ^ min (63 : Int).toNat 64 = 9223372036854775808 from rfl, Int.fdiv_eq_ediv_of_nonneg _ (by decide)]
  have e2 : shlI .u64 (wrp .u64 n) 1 = wrp .u64 n * 2 := rfl
  have := fold_bits hn.1 hn.2
  simp only [M_uvar_Fold, e1, e2]
  exact congrArg (fun x => some (x, ())) this
def intB (n : Int) : List UInt8 := putB (foldN n)
theorem sp_PutInt {b : List UInt8} {n : Int} (hb : b.length ≤ 10000000000) (hn : I64 n) : S_uvar_PutInt b n = some (b ++ intB n, ()) := by
  refine u_uvar_PutInt (N := 0) ?_
  have := foldN_lt hn.1 hn.2
  simp [M_uvar_PutInt, sp_Fold hn, sp_uPut hb (n := foldN n) (by omega), intB]
theorem intB_le (n : Int) : (intB n).length ≤ 10 := putB_le _
/-- A loop that lays one thing after the other. -/
theorem flatMap_le {α : Type} {g : α → List UInt8} {c : Nat} : ∀ {l : List α}, (∀ x ∈ l, (g x).length ≤ c) → (l.flatMap g).length ≤ l.length * c
  | [], _ => by simp
  | x :: l, h => by
    have h1 := h x (by simp)
    have h2 := flatMap_le (l := l) (c := c) fun y hy => h y (by simp [hy])
    simp only [List.flatMap_cons, List.length_append, List.length_cons, Nat.succ_mul]
    omega
theorem iter_lay {α β : Type} {l : List α} {g : α → List UInt8} {c : Nat} {b : List UInt8} {fin : Option β} {f : List UInt8 × (Int × Unit) → (List UInt8 × (Int × Unit) → Option β) → Option β} {N : Nat} (hN : l.length < N) (hl : l.length ≤ 1000000000) (hc : ∀ x ∈ l, (g x).length ≤ c)
    (hf : ∀ (k : Nat) acc again, (hk : k < l.length) → acc.length ≤ b.length + l.length * c → f (acc, ((k : Int), ())) again = again (acc ++ g l[k], (wrp .i64 ((k : Int) + 1), ()))) (he : ∀ again, f (b ++ l.flatMap g, ((l.length : Int), ())) again = fin) : iter f N (b, (0, ())) = fin := by
  refine iter_to (fun d => l.length - d.2.1.toNat) (fun d => ∃ k : Nat, d = (b ++ (l.take k).flatMap g, ((k : Int), ())) ∧ k ≤ l.length) ?_ _ _ ⟨0, by simp, Nat.zero_le _⟩ (by simpa using hN)
  rintro _ again ⟨k, rfl, hk⟩ ih
  by_cases h : k < l.length
  · have hw : wrp .i64 ((k : Int) + 1) = (k : Int) + 1 := wi64 (by omega) (by omega)
    have h1 := flatMap_le (l := l.take k) (g := g) (c := c) fun x hx => hc x (List.mem_of_mem_take hx)
    have h2 : (l.take k).length * c ≤ l.length * c := Nat.mul_le_mul_right _ (by simp; omega)
    rw [hf k _ again h (by simp only [List.length_append]; omega), hw]
    refine ih _ ⟨k + 1, ?_, h⟩ (by simp; omega)
    rw [List.take_succ_eq_append_getElem h, List.flatMap_append, List.flatMap_singleton, List.append_assoc]
    rfl
  · have : k = l.length := by omega
    subst this
    rw [List.take_of_length_le (Nat.le_refl _)]
    exact he again
def sigL (l : List Int) : List UInt8 := putB l.length ++ l.flatMap fun t => [toU8 t]
theorem sigL_le (l : List Int) : (sigL l).length ≤ 10 + l.length := by
  have h1 := putB_le l.length
  have h2 := flatMap_le (l := l) (g := fun t => [toU8 t]) (c := 1) (by simp)
  simp only [sigL, List.length_append]
  omega
theorem sp_sigPut {b : List UInt8} {l : List Int} (hb : b.length ≤ 1000000000) (hl : l.length ≤ 1000000) (ht : l.all typeB = true) : S_sig_Put b l = some (b ++ sigL l, ()) := by
  refine u_sig_Put (N := l.length + 1) ?_
  have h1 := putB_le l.length
  have hw : wrp .u64 (l.length : Int) = (l.length : Int) := wu64 (by omega) (by omega)
  simp [M_sig_Put, sp_sigRight (l := l) (m := l.length) (by omega), sigB, ht, hw, sp_uPut (n := l.length) (show b.length ≤ 10000000000 by omega) (by omega)]
  refine iter_lay (l := l) (g := fun t => [toU8 t]) (c := 1) (by omega) (by omega) (by simp) ?_ ?_
  · intro k acc again hk ha
    have h3 : typeB l[k] = true := List.all_eq_true.1 ht _ (List.getElem_mem hk)
    simp only [typeB, Bool.or_eq_true, decide_eq_true_eq] at h3
    have e1 : wrp .u8 l[k] = u8I (toU8 l[k]) := by
      rw [wrp, IntKind.wrap_u8']
      rcases h3 with h3 | h3 <;> rw [h3] <;> rfl
    have hr := room_b (a := acc.length) (b := 1) (by simp at ha; omega)
    simp [hk, bnd_get hk, e1, hr]
  · intro again
    simp [sigL]
def instrL (n a : Int) : List UInt8 := toU8 n :: if kindN n ≠ 0 then intB a else []
theorem instrL_le (n a : Int) : (instrL n a).length ≤ 11 := by
  have := intB_le a
  unfold instrL
  split <;> simp <;> omega
theorem sp_instrPut {b : List UInt8} {n a : Int} (hb : b.length ≤ 1000000000) (h : rightN n a = true) (ha : I64 a) : S_instr_Put b n a = some (b ++ instrL n a, ()) := by
  refine u_instr_Put (N := 0) ?_
  have h1 : 0 ≤ n ∧ n < 35 := by simp only [rightN, decide_eq_true_eq] at h; omega
  have e1 : wrp .u8 n = u8I (toU8 n) := by
    rw [wrp, IntKind.wrap_u8']
    obtain ⟨k, rfl⟩ := Int.eq_ofNat_of_zero_le h1.1
    have := ofNat_lt (n := k) (by omega)
    simp only [u8I, toU8, Int.toNat_natCast]
    omega
  have hr := room_b (a := b.length) (b := 1) (by omega)
  by_cases hk : kindN n = 0
  · simp [M_instr_Put, sp_iRight, h, e1, hr, hk, instrL]
  · simp [M_instr_Put, sp_iRight, h, e1, hr, hk, instrL, sp_PutInt (b := b ++ [toU8 n]) (by simp; omega) ha]
/-! Groups of things that are alike -/
section
variable {α : Type} [DecidableEq α]
def stepG (acc : List (Int × α)) (v : α) : List (Int × α) :=
  match acc.getLast? with
  | some p => if p.2 = v then acc.dropLast ++ [(p.1 + 1, p.2)] else acc ++ [(1, v)]
  | none => [(1, v)]
def groupsG (l : List α) : List (Int × α) := l.foldl stepG []
theorem stepG_same {ys : List (Int × α)} {p : Int × α} : stepG (ys ++ [p]) p.2 = ys ++ [(p.1 + 1, p.2)] := by simp [stepG]
theorem stepG_new {ys : List (Int × α)} {p : Int × α} {v : α} (h : p.2 ≠ v) : stepG (ys ++ [p]) v = ys ++ [p] ++ [(1, v)] := by simp [stepG, h]
theorem groupsG_take {l : List α} {k : Nat} (h : k < l.length) : groupsG (l.take (k + 1)) = stepG (groupsG (l.take k)) l[k] := by
  unfold groupsG
  rw [List.take_succ_eq_append_getElem h, List.foldl_append]
  rfl
def expandG (l : List (Int × α)) : List α := l.flatMap fun p => List.replicate p.1.toNat p.2
def chainG : Option α → List (Int × α) → Prop
  | _, [] => True
  | o, p :: l => 1 ≤ p.1 ∧ o ≠ some p.2 ∧ chainG (some p.2) l
omit [DecidableEq α] in
theorem chainG_append : ∀ {a b : List (Int × α)} {o : Option α}, chainG o (a ++ b) ↔ chainG o a ∧ chainG (match a.getLast? with | some p => some p.2 | none => o) b
  | [], b, o => by simp [chainG]
  | [p], b, o => by simp [chainG, and_assoc]
  | p :: q :: a, b, o => by
    have := chainG_append (a := q :: a) (b := b) (o := some p.2)
    obtain ⟨r, hr⟩ : ∃ r, (q :: a).getLast? = some r := by
      cases h : (q :: a).getLast? with
      | none => simp at h
      | some r => exact ⟨r, rfl⟩
    rw [hr] at this
    rw [List.getLast?_cons_cons, hr]
    show 1 ≤ p.1 ∧ o ≠ some p.2 ∧ chainG (some p.2) (q :: a ++ b) ↔ (1 ≤ p.1 ∧ o ≠ some p.2 ∧ chainG (some p.2) (q :: a)) ∧ _
    rw [this, and_assoc, and_assoc]
theorem groupsG_ok (l : List α) : ∀ k, k ≤ l.length → expandG (groupsG (l.take k)) = l.take k ∧ chainG none (groupsG (l.take k)) ∧ (groupsG (l.take k)).length ≤ k ∧ (∀ p ∈ groupsG (l.take k), 1 ≤ p.1 ∧ p.1 ≤ k ∧ p.2 ∈ l)
  | 0, _ => by simp [groupsG, expandG, chainG]
  | k + 1, hk => by
    obtain ⟨h1, h2, h3, h4⟩ := groupsG_ok l k (by omega)
    rw [groupsG_take (by omega), List.take_succ_eq_append_getElem (by omega)]
    have hm : l[k] ∈ l := List.getElem_mem (by omega)
    generalize groupsG (l.take k) = acc at *
    cases h : acc.getLast? with
    | none =>
      have : acc = [] := List.getLast?_eq_none_iff.1 h
      subst this
      simp only [expandG, List.flatMap_nil] at h1
      rw [← h1]
      simp [stepG, expandG, chainG, hm]
      omega
    | some p =>
      obtain ⟨ys, rfl⟩ := List.getLast?_eq_some_iff.1 h
      have hp := h4 p (by simp)
      by_cases e : p.2 = l[k]
      · rw [← e, stepG_same]
        refine ⟨?_, ?_, by simp at h3 ⊢; omega, ?_⟩
        · rw [← h1]
          have : (p.1 + 1).toNat = p.1.toNat + 1 := by omega
          simp [expandG, this, List.replicate_succ']
        · rw [chainG_append] at h2 ⊢
          exact ⟨h2.1, by simp only [chainG] at h2 ⊢; exact ⟨by omega, h2.2.2.1, trivial⟩⟩
        · intro q hq
          rcases List.mem_append.1 hq with hq | hq
          · have := h4 q (by simp [hq])
            exact ⟨this.1, by omega, this.2.2⟩
          · simp at hq
            subst hq
            exact ⟨by simp; omega, by simp; omega, hp.2.2⟩
      · rw [stepG_new e]
        refine ⟨?_, ?_, by simp at h3 ⊢; omega, ?_⟩
        · rw [← h1]
          simp [expandG]
        · rw [chainG_append]
          exact ⟨h2, by simp [chainG, e]⟩
        · intro q hq
          rcases List.mem_append.1 hq with hq | hq
          · have := h4 q hq
            exact ⟨this.1, by omega, this.2.2⟩
          · simp at hq
            subst hq
            exact ⟨by simp, by simp; omega, hm⟩
theorem groupsG_all (l : List α) : expandG (groupsG l) = l ∧ chainG none (groupsG l) ∧ (groupsG l).length ≤ l.length ∧ (∀ p ∈ groupsG l, 1 ≤ p.1 ∧ p.1 ≤ l.length ∧ p.2 ∈ l) := by
  have := groupsG_ok l l.length (Nat.le_refl _)
  rwa [List.take_of_length_le (Nat.le_refl _)] at this
end
@[simp] theorem vset_enc {τ : Ty} {l : List (Data τ)} {i : Nat} {x : Data τ} : vset (encL τ l) i (enc τ x) = encL τ (l.set i x) := by simp only [vset, encL, mapE, List.map_set]
theorem sp_groups {l : List Int} (hl : l.length ≤ 1000000) : S_runs_groups_int l = some (groupsG l, ()) := by
  refine u_runs_groups_int (N := l.length + 1) ?_
  simp [M_runs_groups_int]
  refine iter_to (fun d => l.length - d.2.1.toNat) (fun d => ∃ k : Nat, d = (groupsG (l.take k), ((k : Int), ())) ∧ k ≤ l.length) ?_ _ _ ⟨0, by simp [groupsG], Nat.zero_le _⟩ (by simp)
  rintro _ again ⟨k, rfl, hk⟩ ih
  by_cases h : k < l.length
  · have hw : wrp .i64 ((k : Int) + 1) = (k : Int) + 1 := wi64 (by omega) (by omega)
    obtain ⟨-, -, h3, h4⟩ := groupsG_ok l k hk
    have hi := ih (stepG (groupsG (l.take k)) l[k], ((k : Int) + 1, ())) ⟨k + 1, by rw [groupsG_take h]; rfl, h⟩ (by simp; omega)
    generalize groupsG (l.take k) = acc at *
    have hr := room_t (a := acc.length) (b := 1) (c := 16) (by omega) (by omega)
    cases hg : acc.getLast? with
    | none =>
      have : acc = [] := List.getLast?_eq_none_iff.1 hg
      subst this
      simp at hr
      simpa [h, bnd_get h, hw, hr, stepG, show wrp .i64 (-1) = -1 from rfl] using hi
    | some p =>
      obtain ⟨ys, rfl⟩ := List.getLast?_eq_some_iff.1 hg
      have hp := h4 p (by simp)
      simp at h3
      have hw2 : wrp .i64 (ys.length : Int) = ys.length := wi64 (by omega) (by omega)
      have hw3 : wrp .i64 (p.1 + 1) = p.1 + 1 := wi64 (by omega) (by omega)
      by_cases e : p.2 = l[k]
      · rw [← e, stepG_same] at hi
        simpa [h, bnd_get h, hw, hw2, hw3, e, show (ys.length : Int) < ys.length + 1 by omega] using hi
      · rw [stepG_new e] at hi
        simp at hr
        simpa [h, bnd_get h, hw, hw2, hr, e, show (ys.length : Int) < ys.length + 1 by omega] using hi
  · have : k = l.length := by omega
    subst this
    simp
end Go.Proofs.YtkdnbnkbnegckaaGreat
