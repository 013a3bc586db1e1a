/- dis.writer: a builder within a struct: what is written into it, and what it tells. -/
import Derived.Test.YtkdnbnkbnegckaaBase
import Derived.Test.YtkdnbnkbnegckaaStrA
import Derived.Shelf.RegionOpenPlain
import Derived.Lib.Strings
import Derived.Lib.Slices
import Derived.Lib.Walk
import Derived.Lib.Builder
import Derived.Lib.AppendStr
import Derived.Lib.UnsafeStr
import Derived.WalkKit
import Derived.Laws.Externs
namespace Go.Proofs.Ytkdnbnkbnegckaa
open Go.RowKit Go.Shelf
set_option maxRecDepth 100000
set_option linter.unusedVariables false

theorem wr_info : (Try.prog.info? 42).map (·.size) = some 2 := by kernel_rfl
theorem wr_lies : liesAt Try.prog Try.prog.depth 44 (2 / Try.prog.cellsOf 44) 0 42 1 = true := by kernel_rfl
/-- A writer's builder, of so many bytes. -/
abbrev WrAt (B b : Nat) (p : Value) (l : List UInt8) (w : World) : Prop := Lib.BuilderAt 44 5 B b p (l.map byteC) w
def IsWr (B b : Nat) (l : List UInt8) (w : World) : Prop := WrAt B b (.pointer none) l w ∨ WrAt B b (.pointer (some ⟨b, 0, none⟩)) l w
/-! What stays as it was -/
def ownB (b : Nat) (w : World) : Option Nat := (w.cell? ⟨b, 1, none⟩).bind Value.ownBlock
structure Kp (b : Nat) (w w' : World) : Prop where
  size : w.heap.size ≤ w'.heap.size
  blk : ∀ k, k < w.heap.size → k ≠ b → ownB b w ≠ some k → w'.heap[k]? = w.heap[k]?
  own : ∀ k, ownB b w' = some k → ownB b w = some k ∨ w.heap.size ≤ k
theorem Kp.rf (b : Nat) (w : World) : Kp b w w := ⟨Nat.le_refl _, fun _ _ _ _ => rfl, fun _ h => .inl h⟩
theorem Kp.tr {b : Nat} {u v w : World} (h : Kp b u v) (k : Kp b v w) : Kp b u w := by
  refine ⟨Nat.le_trans h.size k.size, fun i h1 h2 h3 => ?_, fun i h1 => ?_⟩
  · rw [k.blk i (Nat.lt_of_lt_of_le h1 h.size) h2 fun e => (h.own i e).elim h3 fun e2 => by omega, h.blk i h1 h2 h3]
  · rcases k.own i h1 with h2 | h2
    · exact h.own i h2
    · exact .inr (Nat.le_trans h.size h2)
theorem Kp.ext {b : Nat} {w w' : World} (hb : b < w.heap.size) (hx : Ext w w') : Kp b w w' := by
  refine ⟨hx.size, fun k h1 _ _ => hx.block h1, fun k h => .inl ?_⟩
  have e : w'.cell? ⟨b, 1, none⟩ = w.cell? ⟨b, 1, none⟩ := by simp [World.cell?, hx.block hb]
  rw [ownB, ← e]
  exact h
theorem kp_of {b : Nat} {w w' : World} {v v' : Value} (hs : w.heap.size ≤ w'.heap.size) (c : w.cell? ⟨b, 1, none⟩ = some v) (c' : w'.cell? ⟨b, 1, none⟩ = some v') (hk : ∀ k, k < w.heap.size → k ≠ b → v.ownBlock ≠ some k → w'.heap[k]? = w.heap[k]?) (hv : ∀ k, v'.ownBlock = some k → v.ownBlock = some k ∨ w.heap.size ≤ k) : Kp b w w' := by
  have e : ownB b w = v.ownBlock := by rw [ownB, c]; rfl
  have e' : ownB b w' = v'.ownBlock := by rw [ownB, c']; rfl
  exact ⟨hs, fun k h1 h2 h3 => hk k h1 h2 (by rw [← e]; exact h3), fun k h => by rw [e'] at h; rw [e]; exact hv k h⟩
theorem wpList_str {P : Program} {w : World} {ops : Array Oper} {rest : List Oper} {o : Oper} {a : Act} {Q : Exit → Act → World → Prop} (hgd : o.guard = none) (sl x : Operand) (t u : TypeId)
    (ho : o.op = .call { callee := .builtin .append, args := #[sl, x], argTypes := #[t, u] })
    (base : Nat) (e : TypeId) (z : Value) (ht : P.underlying t = some (.slice e)) (hu : P.underlying u = some .string) (hi : (P.info? e).map (fun i => (i.zero, i.size, i.bytes)) = some (some z, 1, 1))
    (hzs : z.cells.size = 1) (v : Value) (n : Nat) (xs : List Value) (hs : a.eval sl = v) (hown : w.ownsRow base e 1 v n xs) (s : ByteArray) (hx : a.eval x = .string s)
    (h63 : n + s.size ≤ maxLen) (hbytes : n + s.size ≤ 140737488355328) (hbase : base ≤ w.heap.size)
    (h : ∀ v' w', w'.ownsRow base e 1 v' (n + s.size) (xs ++ s.data.toList.map byteC) → Grow w w' v v' → wpList P ops Q rest (a.put o.dst v') w') : wpList P ops Q (o :: rest) a w :=
  wpList_plain hgd fun _ hK => wp_str sl x t u ho base e z ht hu hi hzs v n xs hs hown s hx h63 hbytes hbase fun v' w' h2 h3 => hK _ _ (h v' w' h2 h3)
set_option maxHeartbeats 1000000 in
theorem wr_copyCheck_used (b : Nat) (w : World) (h0 : w.cell? ⟨b, 0, none⟩ = some (.pointer (some ⟨b, 0, none⟩))) :
    Calls Try.prog 36 #[.pointer (some ⟨b, 0, none⟩)] w fun e w' => e = .returned (.tuple #[]) ∧ w' = w := by
  obtain ⟨j, hj, _⟩ := Option.map_eq_some_iff.1 wr_info
  go_enter Try.func36, Try.ntmps36
  go_wp2
  rw [Lib.run_neq_ptr_same w _ Try.underlying39 hj]
  go_wp2
  go_end0
  exact ⟨rfl, rfl⟩
set_option maxHeartbeats 1000000 in
theorem wr_copyCheck_fresh (b : Nat) (w : World) (h0 : w.cell? ⟨b, 0, none⟩ = some (.pointer none)) (hsh : w.shape? b = some (44, 2)) (hfz : w.frozen? ⟨b, 0, none⟩ = false) :
    Calls Try.prog 36 #[.pointer (some ⟨b, 0, none⟩)] w fun e w' => e = .returned (.tuple #[]) ∧ w' = w.setCell ⟨b, 0, none⟩ (.pointer (some ⟨b, 0, none⟩)) := by
  obtain ⟨j, hj, hjs⟩ := Option.map_eq_some_iff.1 wr_info
  go_enter Try.func36, Try.ntmps36
  go_wp2
  rw [Lib.run_to_unsafe w ⟨b, 0, none⟩ Try.underlying39 Try.underlying76 hj (by rw [hjs]; decide) hsh (Nat.zero_lt_succ 1)]
  simp only [Result.andThen]
  rw [Oper.upon_value]
  go_wp2
  rw [run_callFunc_extern Try.func43 (by kernel_rfl) (by kernel_rfl) (by kernel_rfl) (e := Extern.AbiNoEscape.same) (by kernel_rfl)]
  rw [Lib.run_noEscape]
  simp only [Result.andThen]
  rw [Oper.upon_value]
  go_wp2
  rw [Lib.run_from_unsafe w ⟨b, 0, none⟩ Try.underlying76 Try.underlying39 hj hsh wr_lies]
  simp only [Result.andThen]
  rw [Oper.upon_value]
  go_wp2
  go_end0
  exact ⟨rfl, rfl⟩
theorem wr_copyCheck (B b : Nat) (l : List UInt8) (w : World) (h : IsWr B b l w) :
    Calls Try.prog 36 #[.pointer (some ⟨b, 0, none⟩)] w fun e w' => e = .returned (.tuple #[]) ∧ (WrAt B b (.pointer (some ⟨b, 0, none⟩)) l w' ∧ Below B w w') ∧ Kp b w w' := by
  rcases h with h | h
  · refine (wr_copyCheck_fresh b w h.cell0 h.shape h.frozen0).mono ?_
    rintro e w' ⟨rfl, rfl⟩
    refine ⟨rfl, ⟨h.used _, (Below.refl B w).setCell (p := ⟨b, 0, none⟩) h.1 _⟩, ?_⟩
    obtain ⟨hB, v, hb, hown, hne⟩ := h
    have hb2 : (w.setCell ⟨b, 0, none⟩ (.pointer (some ⟨b, 0, none⟩))).heap[b]? = some (.cells #[.pointer (some ⟨b, 0, none⟩), v] 44 (0, 0)) := by simp [World.setCell, Array.getElem?_modify, hb]
    exact kp_of (v := v) (v' := v) (by simp [World.setCell]) (by rw [Lib.cell_of_heap hb]; rfl) (by rw [Lib.cell_of_heap hb2]; rfl) (fun k _ hk _ => Below.heap_setCell _ _ _ _ fun e => hk (by simp [e])) fun k h => .inl h
  · refine (wr_copyCheck_used b w h.cell0).mono ?_
    rintro e w' ⟨rfl, rfl⟩
    exact ⟨rfl, ⟨h, Below.refl B _⟩, Kp.rf _ _⟩
set_option maxHeartbeats 1000000 in
theorem wr_Write (B b : Nat) (l s : List UInt8) (w : World) (h : IsWr B b l w) (hlen : l.length + s.length ≤ 140737488355328) (hBw : B ≤ w.heap.size) :
    Calls Try.prog 26 #[.pointer (some ⟨b, 0, none⟩), .string ⟨⟨s⟩⟩] w fun e w' => e = .returned (.tuple #[.int .i64 s.length, .nilIface]) ∧ (WrAt B b (.pointer (some ⟨b, 0, none⟩)) (l ++ s) w' ∧ Below B w w') ∧ Kp b w w' := by
  have hsz : ByteArray.size ⟨⟨s⟩⟩ = s.length := rfl
  have hll : (l.map byteC).length = l.length := List.length_map _
  go_enter Try.func26, Try.ntmps26
  go_wp2_with (go_at_call 36; refine (wr_copyCheck B b l _ h).mono ?_)
  rintro e w1 ⟨rfl, ⟨h1, hb1⟩, hk1⟩
  obtain ⟨hB, v, hbk, hown, hne⟩ := h1
  have c0 : w1.cell? ⟨b, 0, none⟩ = some (.pointer (some ⟨b, 0, none⟩)) := by rw [Lib.cell_of_heap hbk]; rfl
  have c1 : w1.cell? ⟨b, 1, none⟩ = some v := by rw [Lib.cell_of_heap hbk]; rfl
  go_wp2_with (at_builtin; refine wpList_str rfl _ _ 40 9 rfl B 5 (.int .u8 0) Try.underlying40 Try.underlying9 (by kernel_rfl) rfl _ _ _ rfl hown ⟨⟨s⟩⟩ rfl ?c3 ?c4 ?c5 ?_)
  case c3 => unfold maxLen; omega
  case c4 => omega
  case c5 => have := hb1.size; omega
  intro v' w2 hown' hgrow
  have hlt : b < w1.heap.size := by
    rcases Nat.lt_or_ge b w1.heap.size with h' | h'
    · exact h'
    · simp [Array.getElem?_eq_none h'] at hbk
  have hb2 : w2.heap[b]? = some (.cells #[.pointer (some ⟨b, 0, none⟩), v] 44 (0, 0)) := by
    rw [hgrow.block b hlt (fun e => hne e.symm)]
    exact hbk
  have d0 : w2.cell? ⟨b, 0, none⟩ = some (.pointer (some ⟨b, 0, none⟩)) := by rw [Lib.cell_of_heap hb2]; rfl
  have d1 : w2.cell? ⟨b, 1, none⟩ = some v := by rw [Lib.cell_of_heap hb2]; rfl
  have f1 : w2.frozen? ⟨b, 1, none⟩ = false := Lib.frozen_of_heap hb2 1
  obtain ⟨ao, n', cap, rfl⟩ : ∃ ao n' cap, v' = .slice ao n' cap := by
    rcases hown'.2 with ⟨hv, _⟩ | ⟨g, cap, cur, hv, _⟩
    · exact ⟨_, _, _, hv⟩
    · exact ⟨_, _, _, hv⟩
  have HKK := Lib.hid hk1
  have HGR := Lib.hid hgrow
  go_wp2
  go_ret2
  have hb3 : (w2.setCell ⟨b, 1, none⟩ (.slice ao n' cap)).heap[b]? = some (.cells #[.pointer (some ⟨b, 0, none⟩), .slice ao n' cap] 44 (0, 0)) := by simp [World.setCell, Array.getElem?_modify, hb2]
  refine ⟨rfl, ⟨?_, ?_⟩, HKK.out.tr (kp_of (v := v) (v' := .slice ao n' cap) (Nat.le_trans HGR.out.size (by simp [World.setCell])) c1 (by rw [Lib.cell_of_heap hb3]; rfl) (fun k h1 h2 h3 => (Below.heap_setCell _ _ _ _ fun e => h2 (by simp [e])).trans (HGR.out.block k h1 fun e => h3 e.symm)) fun k h => ?_)⟩
  · refine Lib.BuilderAt.put (T := 44) (e := 5) hB hb2 (bs' := (l ++ s).map byteC) ?_ (by decide)
    rw [List.map_append]
    simpa [hsz] using hown'
  · exact (hb1.grown hgrow.togrownBy (by have := hb1.size; omega) (fun k hk => (hown.lt k hk).1)).setCell (p := ⟨b, 1, none⟩) hB _
  · rcases HGR.out.new with e | e
    · exact .inl (by rw [← e]; exact h)
    · exact .inr (e k h)
set_option maxHeartbeats 1000000 in
theorem wr_String (B b : Nat) (l : List UInt8) (w : World) (h : IsWr B b l w) (h0 : l ≠ []) :
    Calls Try.prog 12 #[.pointer (some ⟨b, 0, none⟩)] w fun e w' => e = .returned (.string ⟨⟨l⟩⟩) ∧ Below B w w' := by
  obtain ⟨p, hB, v, hbk, hown, hne⟩ : ∃ p, WrAt B b p l w := by
    rcases h with h | h
    · exact ⟨_, h⟩
    · exact ⟨_, h⟩
  have hl0 : l.length ≠ 0 := by simpa using h0
  rw [List.length_map] at hown
  obtain ⟨g, cap, cur, rfl, hbg, hg, hnc, hcm, hcs, htake⟩ : ∃ g cap cur, v = .slice (some ⟨g, 0, none⟩) l.length cap ∧ B ≤ g ∧ w.heap[g]? = some (.cells cur 5 (0, 0)) ∧ l.length ≤ cap ∧ cap ≤ maxLen ∧ cur.size = cap * 1 ∧ cur.toList.take (l.length * 1) = l.map byteC := by
    rcases hown.2 with ⟨_, hz⟩ | ⟨g, cap, cur, hv, r⟩
    · exact absurd hz hl0
    · exact ⟨g, cap, cur, hv, r⟩
  have c1 : w.drew.cell? ⟨b, 1, none⟩ = some (.slice (some ⟨g, 0, none⟩) l.length cap) := by
    have : w.drew.heap[b]? = some (.cells #[p, .slice (some ⟨g, 0, none⟩) l.length cap] 44 (0, 0)) := hbk
    rw [Lib.cell_of_heap this]; rfl
  have hSD : (Builtin.unsafeSliceData_ #[40] 57 #[.slice (some ⟨g, 0, none⟩) l.length cap]).run Try.prog w.drew = .ok (.pointer (some ⟨g, 0, none⟩)) w.drew :=
    Lib.run_unsafeSliceData_row _ _ _ _ _ _ (by omega)
  have hUS : (Builtin.unsafeString_ #[57, 3] 9 #[.pointer (some ⟨g, 0, none⟩), .int .i64 l.length]).run Try.prog w.drew = .ok (.string ⟨l.toArray⟩) (w.drew.freeze ⟨g, 0, none⟩ l.length) := by
    refine Lib.run_unsafeString_row w.drew 57 3 9 5 Try.underlying57 (by kernel_rfl) g cur.size (by have hg' : w.drew.heap[g]? = some (.cells cur 5 (0, 0)) := hg; simp [World.shape?, hg']) l h0 (by omega) (by unfold maxLen at hcm; omega) ?_
    intro j x hx
    have := hown.cells (g := g) rfl j (.int .u8 x.toNat) (by simp [byteC, hx])
    exact this
  have mixed : Try.prog.follows .mixedOrders = true := by kernel_rfl
  go_enter Try.func12, Try.ntmps12
  go_wp2
  go_region_o
  all_goals (go_wp2; go_ret; exact ⟨rfl, Lib.below_freeze (Below.drew (Below.refl B w)) (p := ⟨g, 0, none⟩) hbg _⟩)
set_option maxHeartbeats 1000000 in
theorem wr_String_nil (B b : Nat) (p : Value) (w : World) (hbk : w.heap[b]? = some (.cells #[p, .slice none 0 0] 44 (0, 0))) :
    Calls Try.prog 12 #[.pointer (some ⟨b, 0, none⟩)] w fun e w' => e = .returned (.string ⟨⟨[]⟩⟩) ∧ Below B w w' := by
  have hUS : ∀ (W : World) (q : Option Addr), (Builtin.unsafeString_ #[57, 3] 9 #[.pointer q, .int .i64 0]).run Try.prog W = .ok (.string .empty) W := fun W q => Lib.run_unsafeString_none W _ _ _ q
  have c1 : w.drew.cell? ⟨b, 1, none⟩ = some (.slice none 0 0) := by
    have : w.drew.heap[b]? = some (.cells #[p, .slice none 0 0] 44 (0, 0)) := hbk
    rw [Lib.cell_of_heap this]; rfl
  have hSD : (Builtin.unsafeSliceData_ #[40] 57 #[.slice none 0 0]).run Try.prog w.drew = .ok (.pointer none) w.drew := rfl
  have mixed : Try.prog.follows .mixedOrders = true := by kernel_rfl
  go_enter Try.func12, Try.ntmps12
  go_wp2
  go_region_o
  all_goals (go_wp2; go_ret; exact ⟨rfl, Below.drew (Below.refl B w)⟩)
end Go.Proofs.Ytkdnbnkbnegckaa
