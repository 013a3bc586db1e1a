/- dis.writer: a builder within a struct: what is written into it, and what it tells. dis.writer: a line. Calls of what the second machine knows; functions in a row. -/
import Derived.Test.YtkdnbnkbnegckaaGreatDoorBase
import Derived.Test.YtkdnbnkbnegckaaGreatDoorStrA
import Derived.Shelf.RegionOpenPlain
import Derived.Lib.Strings
import Derived.Lib.Slices
import Derived.Lib.Walk
import Derived.Lib.Builder
import Derived.Lib.AppendStr
import Derived.Lib.UnsafeStr
import Derived.WalkKit
import Derived.Laws.Externs
import Derived.Test.YtkdnbnkbnegckaaGreatDoorShelf
import Derived.Deep.RegionHeld3
import Derived.Test.YtkdnbnkbnegckaaGreatDoorDaS
namespace Go.Proofs.YtkdnbnkbnegckaaGreatDoor
open Go.RowKit Go.Shelf
set_option maxRecDepth 100000
set_option linter.unusedVariables false

theorem wr_info : (Tryz.prog.info? 85).map (·.size) = some 2 := by kernel_rfl
theorem wr_lies : liesAt Tryz.prog Tryz.prog.depth 87 (2 / Tryz.prog.cellsOf 87) 0 85 1 = true := by kernel_rfl
/-- A writer's builder, of so many bytes. -/
abbrev WrAt (B b : Nat) (p : Value) (l : List UInt8) (w : World) : Prop := Lib.BuilderAt 87 5 B b p (l.map byteC) w
def IsWr (B b : Nat) (l : List UInt8) (w : World) : Prop := WrAt B b (.pointer none) l w ∨ WrAt B b (.pointer (some ⟨b, 0, none⟩)) l w
/-! What stays as it was -/
def ownB (b : Nat) (w : World) : Option Nat := (w.cell? ⟨b, 1, none⟩).bind Value.ownBlock
structure Kp (b : Nat) (w w' : World) : Prop where
  size : w.heap.size ≤ w'.heap.size
  blk : ∀ k, k < w.heap.size → k ≠ b → ownB b w ≠ some k → w'.heap[k]? = w.heap[k]?
  own : ∀ k, ownB b w' = some k → ownB b w = some k ∨ w.heap.size ≤ k
theorem Kp.rf (b : Nat) (w : World) : Kp b w w := ⟨Nat.le_refl _, fun _ _ _ _ => rfl, fun _ h => .inl h⟩
theorem Kp.tr {b : Nat} {u v w : World} (h : Kp b u v) (k : Kp b v w) : Kp b u w := by
  refine ⟨Nat.le_trans h.size k.size, fun i h1 h2 h3 => ?_, fun i h1 => ?_⟩
  · rw [k.blk i (Nat.lt_of_lt_of_le h1 h.size) h2 fun e => (h.own i e).elim h3 fun e2 => by omega, h.blk i h1 h2 h3]
  · rcases k.own i h1 with h2 | h2
    · exact h.own i h2
    · exact .inr (Nat.le_trans h.size h2)
theorem Kp.ext {b : Nat} {w w' : World} (hb : b < w.heap.size) (hx : Ext w w') : Kp b w w' := by
  refine ⟨hx.size, fun k h1 _ _ => hx.block h1, fun k h => .inl ?_⟩
  have e : w'.cell? ⟨b, 1, none⟩ = w.cell? ⟨b, 1, none⟩ := by simp [World.cell?, hx.block hb]
  rw [ownB, ← e]
  exact h
theorem kp_of {b : Nat} {w w' : World} {v v' : Value} (hs : w.heap.size ≤ w'.heap.size) (c : w.cell? ⟨b, 1, none⟩ = some v) (c' : w'.cell? ⟨b, 1, none⟩ = some v') (hk : ∀ k, k < w.heap.size → k ≠ b → v.ownBlock ≠ some k → w'.heap[k]? = w.heap[k]?) (hv : ∀ k, v'.ownBlock = some k → v.ownBlock = some k ∨ w.heap.size ≤ k) : Kp b w w' := by
  have e : ownB b w = v.ownBlock := by rw [ownB, c]; rfl
  have e' : ownB b w' = v'.ownBlock := by rw [ownB, c']; rfl
  exact ⟨hs, fun k h1 h2 h3 => hk k h1 h2 (by rw [← e]; exact h3), fun k h => by rw [e'] at h; rw [e]; exact hv k h⟩
theorem wpList_str {P : Program} {w : World} {ops : Array Oper} {rest : List Oper} {o : Oper} {a : Act} {Q : Exit → Act → World → Prop} (hgd : o.guard = none) (sl x : Operand) (t u : TypeId)
    (ho : o.op = .call { callee := .builtin .append, args := #[sl, x], argTypes := #[t, u] })
    (base : Nat) (e : TypeId) (z : Value) (ht : P.underlying t = some (.slice e)) (hu : P.underlying u = some .string) (hi : (P.info? e).map (fun i => (i.zero, i.size, i.bytes)) = some (some z, 1, 1))
    (hzs : z.cells.size = 1) (v : Value) (n : Nat) (xs : List Value) (hs : a.eval sl = v) (hown : w.ownsRow base e 1 v n xs) (s : ByteArray) (hx : a.eval x = .string s)
    (h63 : n + s.size ≤ maxLen) (hbytes : n + s.size ≤ 140737488355328) (hbase : base ≤ w.heap.size)
    (h : ∀ v' w', w'.ownsRow base e 1 v' (n + s.size) (xs ++ s.data.toList.map byteC) → Grow w w' v v' → wpList P ops Q rest (a.put o.dst v') w') : wpList P ops Q (o :: rest) a w :=
  wpList_plain hgd fun _ hK => wp_str sl x t u ho base e z ht hu hi hzs v n xs hs hown s hx h63 hbytes hbase fun v' w' h2 h3 => hK _ _ (h v' w' h2 h3)
set_option maxHeartbeats 1000000 in
theorem wr_copyCheck_used (b : Nat) (w : World) (h0 : w.cell? ⟨b, 0, none⟩ = some (.pointer (some ⟨b, 0, none⟩))) :
    Calls Tryz.prog 107 #[.pointer (some ⟨b, 0, none⟩)] w fun e w' => e = .returned (.tuple #[]) ∧ w' = w := by
  obtain ⟨j, hj, _⟩ := Option.map_eq_some_iff.1 wr_info
  go_enter Tryz.func107, Tryz.ntmps107
  go_wp2
  rw [Lib.run_neq_ptr_same w _ Tryz.underlying82 hj]
  go_wp2
  go_end0
  exact ⟨rfl, rfl⟩
set_option maxHeartbeats 1000000 in
theorem wr_copyCheck_fresh (b : Nat) (w : World) (h0 : w.cell? ⟨b, 0, none⟩ = some (.pointer none)) (hsh : w.shape? b = some (87, 2)) (hfz : w.frozen? ⟨b, 0, none⟩ = false) :
    Calls Tryz.prog 107 #[.pointer (some ⟨b, 0, none⟩)] w fun e w' => e = .returned (.tuple #[]) ∧ w' = w.setCell ⟨b, 0, none⟩ (.pointer (some ⟨b, 0, none⟩)) := by
  obtain ⟨j, hj, hjs⟩ := Option.map_eq_some_iff.1 wr_info
  go_enter Tryz.func107, Tryz.ntmps107
  go_wp2
  rw [Lib.run_to_unsafe w ⟨b, 0, none⟩ Tryz.underlying82 Tryz.underlying159 hj (by rw [hjs]; decide) hsh (Nat.zero_lt_succ 1)]
  simp only [Result.andThen]
  rw [Oper.upon_value]
  go_wp2
  rw [run_callFunc_extern Tryz.func123 (by kernel_rfl) (by kernel_rfl) (by kernel_rfl) (e := Extern.AbiNoEscape.same) (by kernel_rfl)]
  rw [Lib.run_noEscape]
  simp only [Result.andThen]
  rw [Oper.upon_value]
  go_wp2
  rw [Lib.run_from_unsafe w ⟨b, 0, none⟩ Tryz.underlying159 Tryz.underlying82 hj hsh wr_lies]
  simp only [Result.andThen]
  rw [Oper.upon_value]
  go_wp2
  go_end0
  exact ⟨rfl, rfl⟩
theorem wr_copyCheck (B b : Nat) (l : List UInt8) (w : World) (h : IsWr B b l w) :
    Calls Tryz.prog 107 #[.pointer (some ⟨b, 0, none⟩)] w fun e w' => e = .returned (.tuple #[]) ∧ (WrAt B b (.pointer (some ⟨b, 0, none⟩)) l w' ∧ Below B w w') ∧ Kp b w w' := by
  rcases h with h | h
  · refine (wr_copyCheck_fresh b w h.cell0 h.shape h.frozen0).mono ?_
    rintro e w' ⟨rfl, rfl⟩
    refine ⟨rfl, ⟨h.used _, (Below.refl B w).setCell (p := ⟨b, 0, none⟩) h.1 _⟩, ?_⟩
    obtain ⟨hB, v, hb, hown, hne⟩ := h
    have hb2 : (w.setCell ⟨b, 0, none⟩ (.pointer (some ⟨b, 0, none⟩))).heap[b]? = some (.cells #[.pointer (some ⟨b, 0, none⟩), v] 87 (0, 0)) := by simp [World.setCell, Array.getElem?_modify, hb]
    exact kp_of (v := v) (v' := v) (by simp [World.setCell]) (by rw [Lib.cell_of_heap hb]; rfl) (by rw [Lib.cell_of_heap hb2]; rfl) (fun k _ hk _ => Below.heap_setCell _ _ _ _ fun e => hk (by simp [e])) fun k h => .inl h
  · refine (wr_copyCheck_used b w h.cell0).mono ?_
    rintro e w' ⟨rfl, rfl⟩
    exact ⟨rfl, ⟨h, Below.refl B _⟩, Kp.rf _ _⟩
set_option maxHeartbeats 1000000 in
theorem wr_Write (B b : Nat) (l s : List UInt8) (w : World) (h : IsWr B b l w) (hlen : l.length + s.length ≤ 140737488355328) (hBw : B ≤ w.heap.size) :
    Calls Tryz.prog 87 #[.pointer (some ⟨b, 0, none⟩), .string ⟨⟨s⟩⟩] w fun e w' => e = .returned (.tuple #[.int .i64 s.length, .nilIface]) ∧ (WrAt B b (.pointer (some ⟨b, 0, none⟩)) (l ++ s) w' ∧ Below B w w') ∧ Kp b w w' := by
  have hsz : ByteArray.size ⟨⟨s⟩⟩ = s.length := rfl
  have hll : (l.map byteC).length = l.length := List.length_map _
  go_enter Tryz.func87, Tryz.ntmps87
  go_wp2_with (go_at_call 107; refine (wr_copyCheck B b l _ h).mono ?_)
  rintro e w1 ⟨rfl, ⟨h1, hb1⟩, hk1⟩
  obtain ⟨hB, v, hbk, hown, hne⟩ := h1
  have c0 : w1.cell? ⟨b, 0, none⟩ = some (.pointer (some ⟨b, 0, none⟩)) := by rw [Lib.cell_of_heap hbk]; rfl
  have c1 : w1.cell? ⟨b, 1, none⟩ = some v := by rw [Lib.cell_of_heap hbk]; rfl
  go_wp2_with (at_builtin; refine wpList_str rfl _ _ 83 9 rfl B 5 (.int .u8 0) Tryz.underlying83 Tryz.underlying9 (by kernel_rfl) rfl _ _ _ rfl hown ⟨⟨s⟩⟩ rfl ?c3 ?c4 ?c5 ?_)
  case c3 => unfold maxLen; omega
  case c4 => omega
  case c5 => have := hb1.size; omega
  intro v' w2 hown' hgrow
  have hlt : b < w1.heap.size := by
    rcases Nat.lt_or_ge b w1.heap.size with h' | h'
    · exact h'
    · simp [Array.getElem?_eq_none h'] at hbk
  have hb2 : w2.heap[b]? = some (.cells #[.pointer (some ⟨b, 0, none⟩), v] 87 (0, 0)) := by
    rw [hgrow.block b hlt (fun e => hne e.symm)]
    exact hbk
  have d0 : w2.cell? ⟨b, 0, none⟩ = some (.pointer (some ⟨b, 0, none⟩)) := by rw [Lib.cell_of_heap hb2]; rfl
  have d1 : w2.cell? ⟨b, 1, none⟩ = some v := by rw [Lib.cell_of_heap hb2]; rfl
  have f1 : w2.frozen? ⟨b, 1, none⟩ = false := Lib.frozen_of_heap hb2 1
  obtain ⟨ao, n', cap, rfl⟩ : ∃ ao n' cap, v' = .slice ao n' cap := by
    rcases hown'.2 with ⟨hv, _⟩ | ⟨g, cap, cur, hv, _⟩
    · exact ⟨_, _, _, hv⟩
    · exact ⟨_, _, _, hv⟩
  have HKK := Lib.hid hk1
  have HGR := Lib.hid hgrow
  go_wp2
  go_ret2
  have hb3 : (w2.setCell ⟨b, 1, none⟩ (.slice ao n' cap)).heap[b]? = some (.cells #[.pointer (some ⟨b, 0, none⟩), .slice ao n' cap] 87 (0, 0)) := by simp [World.setCell, Array.getElem?_modify, hb2]
  refine ⟨rfl, ⟨?_, ?_⟩, HKK.out.tr (kp_of (v := v) (v' := .slice ao n' cap) (Nat.le_trans HGR.out.size (by simp [World.setCell])) c1 (by rw [Lib.cell_of_heap hb3]; rfl) (fun k h1 h2 h3 => (Below.heap_setCell _ _ _ _ fun e => h2 (by simp [e])).trans (HGR.out.block k h1 fun e => h3 e.symm)) fun k h => ?_)⟩
  · refine Lib.BuilderAt.put (T := 87) (e := 5) hB hb2 (bs' := (l ++ s).map byteC) ?_ (by decide)
    rw [List.map_append]
    simpa [hsz] using hown'
  · exact (hb1.grown hgrow.togrownBy (by have := hb1.size; omega) (fun k hk => (hown.lt k hk).1)).setCell (p := ⟨b, 1, none⟩) hB _
  · rcases HGR.out.new with e | e
    · exact .inl (by rw [← e]; exact h)
    · exact .inr (e k h)
theorem freeze_other {w : World} {p : Addr} {n k : Nat} (h : k ≠ p.block) : (w.freeze p n).heap[k]? = w.heap[k]? := by
  unfold World.freeze
  split
  · rfl
  · simp only [Array.getElem?_modify]
    rw [if_neg (by omega)]
set_option maxHeartbeats 1000000 in
theorem wr_StringK (B b : Nat) (l : List UInt8) (w : World) (h : IsWr B b l w) (h0 : l ≠ []) :
    Calls Tryz.prog 45 #[.pointer (some ⟨b, 0, none⟩)] w fun e w' => e = .returned (.string ⟨⟨l⟩⟩) ∧ Below B w w' ∧ ∀ k, ownB b w ≠ some k → w'.heap[k]? = w.heap[k]? := by
  obtain ⟨p, hB, v, hbk, hown, hne⟩ : ∃ p, WrAt B b p l w := by
    rcases h with h | h
    · exact ⟨_, h⟩
    · exact ⟨_, h⟩
  have hl0 : l.length ≠ 0 := by simpa using h0
  rw [List.length_map] at hown
  obtain ⟨g, cap, cur, rfl, hbg, hg, hnc, hcm, hcs, htake⟩ : ∃ g cap cur, v = .slice (some ⟨g, 0, none⟩) l.length cap ∧ B ≤ g ∧ w.heap[g]? = some (.cells cur 5 (0, 0)) ∧ l.length ≤ cap ∧ cap ≤ maxLen ∧ cur.size = cap * 1 ∧ cur.toList.take (l.length * 1) = l.map byteC := by
    rcases hown.2 with ⟨_, hz⟩ | ⟨g, cap, cur, hv, r⟩
    · exact absurd hz hl0
    · exact ⟨g, cap, cur, hv, r⟩
  have c1 : w.drew.cell? ⟨b, 1, none⟩ = some (.slice (some ⟨g, 0, none⟩) l.length cap) := by
    have : w.drew.heap[b]? = some (.cells #[p, .slice (some ⟨g, 0, none⟩) l.length cap] 87 (0, 0)) := hbk
    rw [Lib.cell_of_heap this]; rfl
  have hob : ownB b w = some g := by rw [ownB, show w.cell? ⟨b, 1, none⟩ = some (.slice (some ⟨g, 0, none⟩) l.length cap) from c1]; rfl
  have HOB := Lib.hid hob
  clear hob
  have hSD : (Builtin.unsafeSliceData_ #[83] 119 #[.slice (some ⟨g, 0, none⟩) l.length cap]).run Tryz.prog w.drew = .ok (.pointer (some ⟨g, 0, none⟩)) w.drew :=
    Lib.run_unsafeSliceData_row _ _ _ _ _ _ (by omega)
  have hUS : (Builtin.unsafeString_ #[119, 3] 9 #[.pointer (some ⟨g, 0, none⟩), .int .i64 l.length]).run Tryz.prog w.drew = .ok (.string ⟨l.toArray⟩) (w.drew.freeze ⟨g, 0, none⟩ l.length) := by
    refine Lib.run_unsafeString_row w.drew 119 3 9 5 Tryz.underlying119 (by kernel_rfl) g cur.size (by have hg' : w.drew.heap[g]? = some (.cells cur 5 (0, 0)) := hg; simp [World.shape?, hg']) l h0 (by omega) (by unfold maxLen at hcm; omega) ?_
    intro j x hx
    have := hown.cells (g := g) rfl j (.int .u8 x.toNat) (by simp [byteC, hx])
    exact this
  have mixed : Tryz.prog.follows .mixedOrders = true := by kernel_rfl
  go_enter Tryz.func45, Tryz.ntmps45
  go_wp2
  go_region_o
  all_goals (go_wp2; go_ret; exact ⟨rfl, Lib.below_freeze (Below.drew (Below.refl B w)) (p := ⟨g, 0, none⟩) hbg _, fun k hk => freeze_other fun e => hk (by rw [HOB.out, e])⟩)
theorem wr_String (B b : Nat) (l : List UInt8) (w : World) (h : IsWr B b l w) (h0 : l ≠ []) :
    Calls Tryz.prog 45 #[.pointer (some ⟨b, 0, none⟩)] w fun e w' => e = .returned (.string ⟨⟨l⟩⟩) ∧ Below B w w' := (wr_StringK B b l w h h0).mono fun _ _ h => ⟨h.1, h.2.1⟩
set_option maxHeartbeats 1000000 in
theorem wr_String_nil (B b : Nat) (p : Value) (w : World) (hbk : w.heap[b]? = some (.cells #[p, .slice none 0 0] 87 (0, 0))) :
    Calls Tryz.prog 45 #[.pointer (some ⟨b, 0, none⟩)] w fun e w' => e = .returned (.string ⟨⟨[]⟩⟩) ∧ Below B w w' ∧ ∀ k : Nat, w'.heap[k]? = w.heap[k]? := by
  have hUS : ∀ (W : World) (q : Option Addr), (Builtin.unsafeString_ #[119, 3] 9 #[.pointer q, .int .i64 0]).run Tryz.prog W = .ok (.string .empty) W := fun W q => Lib.run_unsafeString_none W _ _ _ q
  have c1 : w.drew.cell? ⟨b, 1, none⟩ = some (.slice none 0 0) := by
    have : w.drew.heap[b]? = some (.cells #[p, .slice none 0 0] 87 (0, 0)) := hbk
    rw [Lib.cell_of_heap this]; rfl
  have hSD : (Builtin.unsafeSliceData_ #[83] 119 #[.slice none 0 0]).run Tryz.prog w.drew = .ok (.pointer none) w.drew := rfl
  have mixed : Tryz.prog.follows .mixedOrders = true := by kernel_rfl
  go_enter Tryz.func45, Tryz.ntmps45
  go_wp2
  go_region_o
  all_goals (go_wp2; go_ret; exact ⟨rfl, Below.drew (Below.refl B w), fun _ => rfl⟩)
end Go.Proofs.YtkdnbnkbnegckaaGreatDoor
namespace Go.Proofs.YtkdnbnkbnegckaaGreatDoor
open Go.RowKit
set_option maxRecDepth 100000
set_option linter.unusedVariables false

theorem own_at {W W' : World} {base : Nat} {e : TypeId} {size n : Nat} {v : Value} {xs : List Value} (h : W.ownsRow base e size v n xs) (hb : ∀ b, v.ownBlock = some b → W'.heap[b]? = W.heap[b]?) : W'.ownsRow base e size v n xs := by
  refine ⟨h.1, ?_⟩
  rcases h.2 with h3 | ⟨g, cap, cur, rfl, h4, h5, h6⟩
  · exact .inl h3
  · exact .inr ⟨g, cap, cur, rfl, h4, by rw [hb g rfl]; exact h5, h6⟩
theorem wr_ext {B b : Nat} {p : Value} {l : List UInt8} {w w' : World} (h : WrAt B b p l w) (hx : Ext w w') : WrAt B b p l w' := by
  obtain ⟨hB, v, hbk, hown, hne⟩ := h
  exact ⟨hB, v, (hx.block (Array.getElem?_eq_some_iff.1 hbk).1).trans hbk, own_at hown fun y hy => hx.block (hown.lt y hy).2, hne⟩
theorem isWr_ext {B b : Nat} {l : List UInt8} {w w' : World} (h : IsWr B b l w) (hx : Ext w w') : IsWr B b l w' := h.elim (fun h => .inl (wr_ext h hx)) fun h => .inr (wr_ext h hx)
theorem cell_of_block {W W' : World} {b o : Nat} (h : W'.heap[b]? = W.heap[b]?) : W'.cell? ⟨b, o, none⟩ = W.cell? ⟨b, o, none⟩ := by simp [World.cell?, h]
theorem isWr_lt {B b : Nat} {l : List UInt8} {w : World} (h : IsWr B b l w) : b < w.heap.size := h.elim (fun h => h.lt) fun h => h.lt
/-- A line of words. -/
def lineB (xs : List (List UInt8)) : List UInt8 := Lib.join xs [32] ++ [10]
set_option maxHeartbeats 2000000 in
theorem wr_line (B b : Nat) (l : List UInt8) (g o n cap : Nat) (xs : List (List UInt8)) (w : World) (h : IsWr B b l w) (hc : ∀ (j : Nat) x, (xs.map fun b => (⟨⟨b⟩⟩ : ByteArray))[j]? = some x → w.cell? ⟨g, o + j, none⟩ = some (.string x)) (hg : g < w.heap.size) (hn : n = (xs.map fun b => (⟨⟨b⟩⟩ : ByteArray)).length) (hcap : n ≤ cap) (hN : n ≤ 1000000)
    (hlen : l.length + (Lib.join xs [32]).length + 1 ≤ 140737488355328) (hBw : B ≤ w.heap.size) :
    Calls Tryz.prog 70 #[.pointer (some ⟨b, 0, none⟩), .slice (some ⟨g, o, none⟩) n cap] w fun e w' => e = .returned (.tuple #[]) ∧ (WrAt B b (.pointer (some ⟨b, 0, none⟩)) (l ++ lineB xs) w' ∧ Below B w w') ∧ Kp b w w' := by
  have hmm : ((xs.map fun b => (⟨⟨b⟩⟩ : ByteArray)).map (·.data.toList)) = xs := by rw [List.map_map]; exact List.map_id' _
  have HJ : Hid (∀ W, Ext w W → Calls Tryz.prog 63 #[.slice (some ⟨g, o, none⟩) n cap, .string ⟨#[32]⟩] W fun e w' => e = .returned (.string ⟨⟨Lib.join xs [32]⟩⟩) ∧ Ext W w') := Lib.hid fun W hx => by
    have := Tryz.strings_Join g o cap (xs.map fun b => (⟨⟨b⟩⟩ : ByteArray)) ⟨#[32]⟩ W (fun j x hj => (cell_of_block (hx.block hg)).trans (hc j x hj)) (Nat.lt_of_lt_of_le hg hx.size) (by omega) (by omega) (by rw [hmm]; show (Lib.join xs [32]).length ≤ _; omega)
    rw [← hn, hmm] at this
    exact this
  have HX0 := Lib.hid (Ext.rf w)
  have HW := Lib.hid h
  have HBw := Lib.hid hBw
  clear hc hg hn hcap hN h hBw hmm
  go_enter Tryz.func70, Tryz.ntmps70
  go_wp2_with fail
  go_region_held3 (fun _ => True) (trivial)
    (first | (go_at_call 63; refine (HJ.out _ ?_).mono ?_; exact HX0.out.dr; rintro e w1 ⟨rfl, hx1⟩; have HW1 := Lib.hid (isWr_ext HW.out (HX0.out.dr.tr hx1)); have HB1 := Lib.hid (Nat.le_trans HBw.out (HX0.out.dr.tr hx1).size); have HY1 := Lib.hid (HX0.out.dr.tr hx1); clear hx1) | (go_at_call 87; refine (wr_Write B b l (Lib.join xs [32]) _ HW1.out (by omega) HB1.out).mono ?_; rintro e w2 ⟨rfl, ⟨hw2, hb2⟩, hk2⟩; have HW2 := Lib.hid hw2; have HB2 := Lib.hid hb2; have HK2 := Lib.hid hk2; clear hw2 hb2 hk2))
  go_wp2_with fail
  refine (wr_Write B b (l ++ Lib.join xs [32]) [10] _ (.inr HW2.out) (by simp; omega) (Nat.le_trans HB1.out HB2.out.size)).mono ?_
  rintro e w3 ⟨rfl, ⟨hw3, hb3⟩, hk3⟩
  have HK3 := Lib.hid hk3
  clear hk3
  go_wp2_with fail
  go_end0
  exact ⟨rfl, ⟨by rw [lineB, ← List.append_assoc]; exact hw3, (HY1.out.b.mono HBw.out).trans (HB2.out.trans hb3)⟩, (Kp.ext (isWr_lt HW.out) HY1.out).tr (HK2.out.tr HK3.out)⟩
end Go.Proofs.YtkdnbnkbnegckaaGreatDoor
namespace Go.Proofs.YtkdnbnkbnegckaaGreatDoor
open Go.RowKit
set_option maxRecDepth 20000
theorem repT_one {W : World} {who : Nat → Who} {L : Lay} {h : Hp} {c : C} {v : Value} (H : RepT W who L h ⟨.one, [.c c]⟩ v) : RepC W who c v := by
  obtain ⟨x, hx, hr⟩ := H
  cases hx
  exact hr
theorem pure_one {f : FuncId} {args : List T} {c : C} {h' : Hp} (hc : callW Tryz.prog annX plansX f args ⟨[], []⟩ = some (⟨.one, [.c c]⟩, h')) {W : World} {vs : List Value} (hl : args.length = vs.length) (hr : ∀ (i : Nat) t v, args[i]? = some t → vs[i]? = some v → RepT W W0 L0 ⟨[], []⟩ t v) :
    Calls Tryz.prog f vs.toArray W fun e W' => ∃ v, e = .returned v ∧ RepC W' W0 c v ∧ Ext W W' := by
  refine ((callW_ok (A := annX) base_ok prog_ok f args ⟨[], []⟩ _ h' hc).2 W W0 L0 vs ⟨fun k xs h => by simp at h, fun r ty sz es h => by simp at h, fun r sz es h => by simp at h⟩ hl hr).mono fun e W' ⟨v, who', L', he, hv, _, hs⟩ => ?_
  exact ⟨v, he, (repT_one hv).mono fun _ _ => rfl, hs.os, hs.tape, hs.output, hs.size, fun k hk => (hs.fro k rfl hk).1⟩
def fnX (x : Fn) : List X := (enc tF x).map .c
def whoO (W : World) (who : Nat → Who) : Nat → Who := fun b => if b < W.heap.size then who b else .other
theorem hand_rep {W W' : World} {who : Nat → Who} (hs : W.heap.size ≤ W'.heap.size) (hk : ∀ b, b < W.heap.size → who b = .frozen → W'.heap[b]? = W.heap[b]?) {c : C} {u : Value} (H : RepC W who c u) : RepC W' (whoO W who) c u := by
  induction H with
  | v u hu => exact .v u hu
  | fz sz cap es ao us hu hc ha hw hr hl hrep ih =>
    refine .fz sz cap es ao us hu hc ha (fun b off hne e => ⟨(if_pos (hw b off hne e).2).trans (hw b off hne e).1, Nat.lt_of_lt_of_le (hw b off hne e).2 hs⟩) (fun b off e => ?_) hl ih
    by_cases hne : es = []
    · subst hne
      obtain rfl : us = [] := List.eq_nil_of_length_eq_zero (by simpa using hl.symm)
      intro j v hj
      simp at hj
    · exact range_same (hr b off e) fun _ => hk b (hw b off hne e).2 (hw b off hne e).1
theorem hand_reps {W W' : World} {who : Nat → Who} (hs : W.heap.size ≤ W'.heap.size) (hk : ∀ b, b < W.heap.size → who b = .frozen → W'.heap[b]? = W.heap[b]?) {cs : List C} {us : List Value} (H : RepCs W who cs us) : RepCs W' (whoO W who) cs us :=
  ⟨H.1, fun i c u h1 h2 => hand_rep hs hk (H.2 i c u h1 h2)⟩
theorem fn_cells {W : World} {who : Nat → Who} {x : Fn} {us : List Value} (h : RepCs W who (enc tF x) us) : ∃ a1 c1 a2 c2 a3 c3 a4 c4 a5 c5 a6 c6 a7 c7 a8 c8 a9 c9, us = [.string ⟨⟨x.1⟩⟩, .bool x.2.1, .slice a1 x.2.2.1.length c1, .slice a2 x.2.2.2.1.length c2, .slice a3 x.2.2.2.2.1.length c3, .slice a4 x.2.2.2.2.2.1.length c4,
    .slice a5 x.2.2.2.2.2.2.1.length c5, .slice a6 x.2.2.2.2.2.2.2.1.length c6, .slice a7 x.2.2.2.2.2.2.2.2.1.length c7, .slice a8 x.2.2.2.2.2.2.2.2.2.1.length c8, .slice a9 x.2.2.2.2.2.2.2.2.2.2.length c9] := by
  obtain ⟨nm, inn, ou, pa, re, lo, co, li, no, at', lv⟩ := x
  have hl := h.1
  have hen : ∀ (σ : Ty) (l : List (Data σ)), (encL σ l).length = l.length := fun σ l => List.length_map _
  obtain ⟨v0, v1, v2, v3, v4, v5, v6, v7, v8, v9, v10, rfl⟩ : ∃ v0 v1 v2 v3 v4 v5 v6 v7 v8 v9 v10, us = [v0, v1, v2, v3, v4, v5, v6, v7, v8, v9, v10] := by
    match us, hl with
    | [v0, v1, v2, v3, v4, v5, v6, v7, v8, v9, v10], _ => exact ⟨v0, v1, v2, v3, v4, v5, v6, v7, v8, v9, v10, rfl⟩
  have sl : ∀ (sz : Nat) (σ : Ty) (l : List (Data σ)) (v : Value), RepC W who (.fz sz (encL σ l)) v → ∃ a c, v = .slice a l.length c := fun sz σ l v hr => by
    obtain ⟨n, hn⟩ : ∃ n, n = encL σ l := ⟨_, rfl⟩
    have h1 := hen σ l
    rw [← hn] at hr h1
    cases hr with
    | fz _ cap _ ao us => exact ⟨ao, cap, by rw [h1]⟩
  have k0 := h.2 0 _ v0 rfl rfl
  have k1 := h.2 1 _ v1 rfl rfl
  obtain ⟨a1, c1, rfl⟩ := sl 1 tI ou v2 (h.2 2 _ v2 rfl rfl)
  obtain ⟨a2, c2, rfl⟩ := sl 1 tI pa v3 (h.2 3 _ v3 rfl rfl)
  obtain ⟨a3, c3, rfl⟩ := sl 1 tI re v4 (h.2 4 _ v4 rfl rfl)
  obtain ⟨a4, c4, rfl⟩ := sl 1 tI lo v5 (h.2 5 _ v5 rfl rfl)
  obtain ⟨a5, c5, rfl⟩ := sl 2 tC co v6 (h.2 6 _ v6 rfl rfl)
  obtain ⟨a6, c6, rfl⟩ := sl 1 tI li v7 (h.2 7 _ v7 rfl rfl)
  obtain ⟨a7, c7, rfl⟩ := sl 7 tN no v8 (h.2 8 _ v8 rfl rfl)
  obtain ⟨a8, c8, rfl⟩ := sl 1 tI at' v9 (h.2 9 _ v9 rfl rfl)
  obtain ⟨a9, c9, rfl⟩ := sl 4 tS lv v10 (h.2 10 _ v10 rfl rfl)
  cases k0
  cases k1
  exact ⟨a1, c1, a2, c2, a3, c3, a4, c4, a5, c5, a6, c6, a7, c7, a8, c8, a9, c9, rfl⟩
theorem encL_len {σ : Ty} (l : List (Data σ)) : (encL σ l).length = l.length := List.length_map _
theorem row_elem {W : World} {v : Value} {fs : List Fn} (hr : RepC W W0 (.fz 11 (encL tF fs)) v) : ∃ ao cap, v = .slice ao fs.length cap ∧ (fs ≠ [] → ∃ b off, ao = some ⟨b, off, none⟩ ∧ b < W.heap.size ∧ ∀ j (h : j < fs.length), ∃ cs, RepCs W W0 (enc tF fs[j]) cs ∧ W.rangeAt b (off + j * 11) cs) := by
  obtain ⟨es, he⟩ : ∃ es, es = encL tF fs := ⟨_, rfl⟩
  have hel : es.length = fs.length := by rw [he, encL_len]
  rw [← he] at hr
  cases hr with
  | fz _ cap _ ao us hu hc ha hw hrg hl hrep =>
    refine ⟨ao, cap, by rw [hel], fun hne => ?_⟩
    have hne2 : es ≠ [] := fun h => hne (List.eq_nil_of_length_eq_zero (by rw [← hel, h]; rfl))
    obtain ⟨b, off, rfl⟩ := ha hne2
    refine ⟨b, off, rfl, (hw b off hne2 rfl).2, fun j hj => ?_⟩
    have hj2 : j < es.length := by rw [hel]; exact hj
    have hej : es[j] = enc tF fs[j] := by subst he; exact List.getElem_map _
    have hfl := flatten_len es hu
    have hul : us.length = es.length * 11 := by rw [← hl, hfl]
    have hle : j * 11 + 11 ≤ us.length := by rw [hul, ← Nat.succ_mul]; exact Nat.mul_le_mul_right 11 hj2
    have hflat : ∀ i, i < 11 → es.flatten[j * 11 + i]? = (enc tF fs[j])[i]? := fun i hi => by
      rw [← hej]
      have := congrArg (fun l => l[i]?) (flatten_at hu (List.getElem?_eq_getElem hj2))
      simp only [List.getElem?_take, if_pos hi, List.getElem?_drop] at this
      exact this
    refine ⟨(us.drop (j * 11)).take 11, ⟨by rw [List.length_take, List.length_drop, enc_len]; show 11 = _; omega, fun i c u h1 h2 => ?_⟩, fun i u hi => ?_⟩
    · have hi : i < 11 := by
        have := (List.getElem?_eq_some_iff.1 h1).1
        rw [enc_len] at this
        exact this
      rw [List.getElem?_take, if_pos hi, List.getElem?_drop] at h2
      exact hrep (j * 11 + i) c u (by rw [hflat i hi]; exact h1) h2
    · have hi2 : i < 11 := by
        rw [List.getElem?_take] at hi
        split at hi
        · assumption
        · cases hi
      rw [List.getElem?_take, if_pos hi2, List.getElem?_drop] at hi
      have := hrg b off rfl (j * 11 + i) u hi
      rw [Nat.add_assoc]
      exact this
end Go.Proofs.YtkdnbnkbnegckaaGreatDoor
