/- Numbers as bytes, in plain Lean. A text turned to bytes, at a step of a region that draws its order. append(b, s...) of a string to bytes of one's own. -/
import Derived.Lib.Zigzag
import Derived.Lib.VarintBits
import Derived.Laws.BitsAllLaws
import Derived.Test.YtkdnbnkbnegckaaDoorBase
import Derived.Lib.ConvBytes
namespace Go.Proofs.YtkdnbnkbnegckaaDoor

/-- A byte as a cell. -/
def byteC (b : UInt8) : Value := .int .u8 (b.toNat : Int)

end Go.Proofs.YtkdnbnkbnegckaaDoor
namespace Go.Proofs.YtkdnbnkbnegckaaDoor
open Go.RowKit

theorem bytesWorld_ext (w : World) (e : TypeId) (s : ByteArray) : Ext w (Lib.bytesWorld w e s) :=
  ⟨rfl, rfl, rfl, by rw [Lib.bytesWorld_size]; omega, fun k hk => Lib.bytesWorld_at_old w e s k hk⟩
theorem bytesWorld_cells (w : World) (e : TypeId) (s : ByteArray) : Cells (Lib.bytesWorld w e s) (some ⟨w.heap.size, 0, none⟩) (s.data.toList.map byteC) := by
  refine ⟨fun _ => ⟨_, _, rfl⟩, fun b off e2 j u hu => ?_⟩
  cases e2
  have hj : j < s.size := by
    have := (List.getElem?_eq_some_iff.1 hu).1
    simpa using this
  rw [Nat.zero_add, Lib.bytesWorld_cell w e s j hj]
  rw [List.getElem?_map] at hu
  have h2 : s.data.toList[j]? = some (s.data.toList.getD j 0) := by
    rw [List.getD, List.getElem?_eq_getElem (by simpa using hj)]; rfl
  rw [h2] at hu
  simpa [byteC] using hu

end Go.Proofs.YtkdnbnkbnegckaaDoor
namespace Go.Proofs.YtkdnbnkbnegckaaDoor
open Go.RowKit

theorem str_cells (s : ByteArray) : (Array.map (fun b : UInt8 => Value.int IntKind.u8 (b.toNat : Int)) s.data).extract 0 s.size = (s.data.toList.map byteC).toArray := by
  have hs : s.size = (Array.map (fun b : UInt8 => Value.int IntKind.u8 (b.toNat : Int)) s.data).size := by rw [Array.size_map]; rfl
  rw [hs, Array.extract_size]
  apply Array.ext'
  rw [Array.toList_map]; rfl

theorem run_append_str {P : Program} {w : World} (t u ty : TypeId) (base : Nat) (e : TypeId) (i : TypeInfo) (z : Value) (ht : P.underlying t = some (.slice e)) (hu : P.underlying u = some .string) (hi : P.info? e = some i) (hz : i.zero = some z)
    (hsize : i.size = 1) (hby : i.bytes = 1) (hzs : z.cells.size = 1) (v : Value) (n : Nat) (xs : List Value) (hown : w.ownsRow base e 1 v n xs) (s : ByteArray) (h63 : n + s.size ≤ maxLen) (hbytes : n + s.size ≤ 140737488355328) (hbase : base ≤ w.heap.size) :
    ∃ v' w', (Builtin.append_ #[t, u] ty #[v, .string s]).run P w = .ok v' w' ∧ w'.ownsRow base e 1 v' (n + s.size) (xs ++ s.data.toList.map byteC) ∧ Grow w w' v v' := by
  have hl : (s.data.toList.map byteC).length = s.size := by rw [List.length_map, Array.length_toList]; rfl
  have hsmall : n + s.size ≤ 9223372036854775807 := by simp only [maxLen] at h63; omega
  have h1 : ∀ u ∈ s.data.toList.map byteC, u.oneCell' = true := by intro u hu; simp only [List.mem_map] at hu; obtain ⟨_, _, rfl⟩ := hu; rfl
  have hx := str_cells s
  have hlen : (xs ++ s.data.toList.map byteC).length = (n + s.size) * 1 := by rw [List.length_append, hown.1, hl]; omega
  generalize hN : s.data.toList.map byteC = news at *
  have grown : ∀ (old : Nat), old < n + s.size →
      (w.drew.alloc (.cells (xs.toArray ++ news.toArray ++ Builtin.zeroCells z.cells (grownCap w (n + s.size) old e - (n + s.size))) e)).ownsRow base e 1
        (.slice (some ⟨w.heap.size, 0, none⟩) (n + s.size) (grownCap w (n + s.size) old e)) (n + s.size) (xs ++ news) ∧
      Grow w (w.drew.alloc (.cells (xs.toArray ++ news.toArray ++ Builtin.zeroCells z.cells (grownCap w (n + s.size) old e - (n + s.size))) e)) v (.slice (some ⟨w.heap.size, 0, none⟩) (n + s.size) (grownCap w (n + s.size) old e)) := by
    intro old ho
    have hge := grownCap_ge w (n + s.size) old e
    have hcm : grownCap w (n + s.size) old e ≤ maxLen := grownCap_le_maxLen w (n + s.size) old e h63
    refine ⟨⟨hlen, .inr ⟨w.heap.size, _, _, rfl, hbase, heap_alloc_new w.drew _, hge, hcm, ?_, ?_⟩⟩, ⟨⟨rfl, rfl, rfl, by simp, fun k hk _ => heap_alloc_old w.drew _ hk⟩, .inr fun k hk => by simp [Value.ownBlock] at hk; omega⟩⟩
    · simp only [Array.size_append, List.size_toArray, size_zeroCells, hzs, hown.1, hl]
      omega
    · simp only [Array.toList_append, List.append_assoc]
      rw [← List.append_assoc, ← hlen]
      exact List.take_left
  rcases hown.2 with ⟨rfl, rfl⟩ | ⟨g, cap, cur, rfl, hbg, hg, hnc, hcm, hcs, htake⟩
  · have hx0 : xs = [] := List.eq_nil_of_length_eq_zero (by simpa using hown.1)
    subst hx0
    by_cases hm : s.size = 0
    · have hn : news = [] := List.eq_nil_of_length_eq_zero (by omega)
      subst hn
      rw [hm]
      refine ⟨.slice none 0 0, w, ?_, World.ownsRow_nil w base e 1, Grow.rf _ _⟩
      simp [Builtin.append_, run_underlying ht, run_underlying hu, sizeOf, typeInfo, hi, Builtin.lenOf, Builtin.firstCells, hm]
    · have hr := run_append_nil_string (P := P) w t u ty e i z ht hu hi hz s (by omega) (by omega) (by rw [hby]; omega)
      have hgr := grown 0 (by omega)
      have hd : s.data.map (fun b => Value.int .u8 b.toNat) = news.toArray := by
        rw [← hx]
        have hs : s.size = (Array.map (fun b : UInt8 => Value.int IntKind.u8 (b.toNat : Int)) s.data).size := by rw [Array.size_map]; rfl
        rw [hs, Array.extract_size]
      rw [hd] at hr
      simp only [Nat.zero_add, List.nil_append, Array.empty_append] at hgr ⊢
      exact ⟨_, _, hr, hgr.1, hgr.2⟩
  · by_cases hroom : n + s.size ≤ cap
    · have hfit : n + news.length ≤ cur.size := by omega
      have hst := run_storeCells_at P g n e news 0 cur w hg (by simpa using hfit) h1
      simp only [Nat.add_zero] at hst
      have hr : (Builtin.append_ #[t, u] ty #[.slice (some ⟨g, 0, none⟩) n cap, .string s]).run P w = .ok (.slice (some ⟨g, 0, none⟩) (n + s.size) cap) (w.setRow g (cur.toList.take n ++ news ++ cur.toList.drop (n + news.length)).toArray) := by
        simp [Builtin.append_, run_underlying ht, run_underlying hu, sizeOf, typeInfo, hi, Builtin.lenOf, Builtin.firstCells, hroom, hx, hsize, Addr.add_lit, hst]
      refine ⟨_, _, hr, ⟨hlen, .inr ⟨g, cap, _, rfl, hbg, setRow_heap w g cur _ e _ hg, hroom, hcm, ?_, ?_⟩⟩, ⟨⟨rfl, rfl, rfl, by simp, fun k _ hk => setRow_other w g k _ (fun e => hk (by simp [Value.ownBlock, e]))⟩, .inl rfl⟩⟩
      · simp only [List.size_toArray, List.length_append, List.length_take, List.length_drop, Array.length_toList]
        omega
      · have ht' : cur.toList.take n = xs := by simpa using htake
        rw [ht', ← hlen]
        exact List.take_left
    · have holds : ∀ j u, xs[j]? = some u → w.cell? ((⟨g, 0, none⟩ : Addr).add j) = some u := hown.cells (g := g) rfl
      have hfo := run_firstCells_some (P := P) w.drew 1 n ⟨g, 0, none⟩ n cap xs hown.1 (by simpa using holds)
      have hr : (Builtin.append_ #[t, u] ty #[.slice (some ⟨g, 0, none⟩) n cap, .string s]).run P w = .ok (.slice (some ⟨w.heap.size, 0, none⟩) (n + s.size) (grownCap w (n + s.size) cap e))
          (w.drew.alloc (.cells (xs.toArray ++ news.toArray ++ Builtin.zeroCells z.cells (grownCap w (n + s.size) cap e - (n + s.size))) e)) := by
        have h63' : ¬ (9223372036854775807 < ((n : Int) + (s.size : Int))) := by omega
        have hfits := growslice_fits (need := n + s.size) (old := cap) (bytes := 1) (by omega) (by omega)
        have h48' : ¬ (281474976710656 < Builtin.nextslicecap (n + s.size) cap * i.bytes) := by rw [hby]; omega
        simp [Builtin.append_, run_underlying ht, run_underlying hu, sizeOf, typeInfo, zeroValue, hi, hz, hsize, Builtin.lenOf, hroom, h63', h48', Question.forced, Builtin.firstCells, hx, hfo, newRow, grownCap]
        have hfo2 : Sem.run P (loadCells ⟨g, 0, none⟩ n) w.drew = .ok xs.toArray w.drew := by simpa [Builtin.firstCells] using hfo
        rw [hfo2]
        simp only [Result.andThen_ok]
        congr 3
        apply Array.ext'
        simp
      have hgr := grown cap (by omega)
      exact ⟨_, _, hr, hgr.1, hgr.2⟩

theorem wp_str {P : Program} {w : World} {o : Oper} {a : Act} {K : Act → World → Prop} {Q : Exit → Act → World → Prop} (sl x : Operand) (t u : TypeId)
    (ho : o.op = .call { callee := .builtin .append, args := #[sl, x], argTypes := #[t, u] })
    (base : Nat) (e : TypeId) (z : Value) (ht : P.underlying t = some (.slice e)) (hu : P.underlying u = some .string) (hi : (P.info? e).map (fun i => (i.zero, i.size, i.bytes)) = some (some z, 1, 1))
    (hzs : z.cells.size = 1) (v : Value) (n : Nat) (xs : List Value) (hs : a.eval sl = v) (hown : w.ownsRow base e 1 v n xs) (s : ByteArray) (hx : a.eval x = .string s)
    (h63 : n + s.size ≤ maxLen) (hbytes : n + s.size ≤ 140737488355328) (hbase : base ≤ w.heap.size)
    (h : ∀ v' w', w'.ownsRow base e 1 v' (n + s.size) (xs ++ s.data.toList.map byteC) → Grow w w' v v' → K (a.put o.dst v') w') : o.wp P a w K Q := by
  obtain ⟨i, hi, hz0, hz1, hz2⟩ := info_parts hi
  obtain ⟨v', w', hr, h2, h3⟩ := run_append_str (P := P) t u o.type base e i z ht hu hi hz0 hz1 hz2 hzs v n xs hown s h63 hbytes hbase
  unfold Oper.wp execOp
  simp only [ho, resolve, invoke, builtin, Sem.run_bind, Sem.run_pure, Result.andThen_ok, List.map_toArray, List.map_cons, List.map_nil, hs, hx, hr]
  exact h v' w' h2 h3

end Go.Proofs.YtkdnbnkbnegckaaDoor
