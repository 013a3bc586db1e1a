/- From the second machine to a law's walk: arguments that came in, and what is left behind. The names of the instructions, in plain Lean. The number that bytes begin with: the walks of uvar.Get, Unfold, and of their references. The walks of package cursor's methods. -/
import Derived.Test.YtkdnbnkbnegckaaDoorEvM
import Derived.Test.YtkdnbnkbnegckaaDoorStrA
import Derived.Test.YtkdnbnkbnegckaaDoorDigW
import Derived.Test.YtkdnbnkbnegckaaDoorInstr
import Derived.OwnWalk
import Derived.WalkMore
import Derived.Laws.Bits64b
import Derived.Laws.BitsAllLaws
namespace Go.Proofs.YtkdnbnkbnegckaaDoor
open Go.RowKit

abbrev W0 : Nat → Who := fun _ => .frozen
abbrev L0 : Lay := ⟨id, fun _ => undef⟩
/-- A slice that came in. -/
theorem repC_in {W : World} {sz cap : Nat} {es : List (List C)} {ao : Option Addr} {us : List Value} (h0 : 0 < sz) (hu : ∀ e ∈ es, e.length = sz) (hc : es.length ≤ cap) (hC : Cells W ao us) (hr : RepCs W W0 es.flatten us) : RepC W W0 (.fz sz es) (.slice ao es.length cap) := by
  have hne : es ≠ [] → us ≠ [] := fun he hn => by
    subst hn
    have h1 := hr.1
    rw [flatten_len es hu] at h1
    have : 0 < es.length := List.length_pos_iff.2 he
    have : 0 < es.length * sz := Nat.mul_pos this h0
    simp at h1
    omega
  exact .fz sz cap es ao us hu hc (fun he => hC.addr (hne he)) (fun b off he ha => ⟨rfl, Cells.lt (ha ▸ hC) (hne he)⟩) (fun b off ha j v hj => hC.cell b off ha j v hj) hr.1 hr.2
/-- What lies above the heap that was is taken for frozen. -/
def whoN (W : World) (who : Nat → Who) : Nat → Who := fun b => if b < W.heap.size then who b else .frozen
theorem ext_frozen {W W' : World} {who : Nat → Who} {L : Lay} {h : Hp} (H : HSim W who L h) (hext : Ext W W') : HSim W' (whoN W who) L h ∧ Step .no W who L h W' (whoN W who) L h := by
  have hw2 : ∀ b, b < W.heap.size → whoN W who b = who b := fun b hb => if_pos hb
  have hsame : ∀ k, k < W.heap.size → W'.heap[k]? = W.heap[k]? := fun k hk => hext.block hk
  have S2 : Step .no W who L h W' (whoN W who) L h :=
    { os := hext.b.os, tape := hext.b.tape, output := hext.b.output, size := hext.size
      fro := fun b hb hlt => ⟨hsame b hlt, (hw2 b hlt).trans hb⟩
      oth := fun b hb hlt => ⟨hsame b hlt, (hw2 b hlt).trans hb⟩
      bx := Nat.le_refl _, box := fun _ _ => rfl
      rw := Nat.le_refl _, row := fun r _ sz es he => ⟨⟨es, he, rfl⟩, rfl⟩
      keepB := fun b hlt k hb _ => ⟨hsame b hlt, (hw2 b hlt).trans hb⟩
      keepR := fun b hlt k hb _ => ⟨hsame b hlt, .inl ((hw2 b hlt).trans hb)⟩ }
  refine ⟨⟨fun k xs hk => ?_, fun r ty sz es hr => ?_, fun r sz es hr => S2.froR (H.frz r sz es hr)⟩, S2⟩
  · have hb := (H.box_lt (List.getElem?_eq_some_iff.1 hk).1).1
    exact box_same S2 H hk (hsame _ hb) (hw2 _ hb)
  · have hmu := H.mu r ty sz es hr
    exact own_same S2 hmu fun g hg => ⟨hsame g (hmu.lt hg), (hw2 g (hmu.lt hg)).trans (hmu.who g hg)⟩
end Go.Proofs.YtkdnbnkbnegckaaDoor
namespace Go.Proofs.YtkdnbnkbnegckaaDoor
open Go.RowKit

/-- All names, one behind the other. -/
def wordsL : List UInt8 := [110, 111, 112, 32, 112, 117, 115, 104, 32, 108, 111, 97, 100, 32, 115, 116, 111, 114, 101, 32, 112, 111, 112, 32, 100, 117, 112, 32, 97, 100, 100, 32, 115, 117, 98, 32, 109, 117, 108, 32, 100, 105, 118, 32, 109, 111, 100, 32, 110, 101, 103, 32, 108, 101, 115, 115, 32, 115, 97, 109, 101, 32, 110, 111, 116, 32, 112, 97, 105, 114, 32, 112, 108, 117, 115, 32, 109, 105, 110, 117, 115, 32, 116, 105, 109, 101, 115, 32, 114, 101, 97, 108, 32, 105, 109, 97, 103, 32, 106, 117, 109, 112, 32, 105, 102, 32, 99, 97, 108, 108, 32, 100, 101, 102, 101, 114, 32, 114, 101, 116, 32, 112, 97, 110, 105, 99, 32, 114, 101, 99, 111, 118, 101, 114, 32, 103, 101, 116, 114, 101, 115, 32, 115, 101, 116, 114, 101, 115, 32, 101, 109, 105, 116, 32, 116, 114, 97, 99, 101, 32, 100, 114, 97, 119, 32, 111, 112, 101, 110, 32, 99, 108, 111, 115, 101]
def opNames : List (List UInt8) := [[110, 111, 112], [112, 117, 115, 104], [108, 111, 97, 100], [115, 116, 111, 114, 101], [112, 111, 112], [100, 117, 112], [97, 100, 100], [115, 117, 98], [109, 117, 108], [100, 105, 118], [109, 111, 100], [110, 101, 103], [108, 101, 115, 115], [115, 97, 109, 101], [110, 111, 116], [112, 97, 105, 114], [112, 108, 117, 115], [109, 105, 110, 117, 115], [116, 105, 109, 101, 115], [114, 101, 97, 108], [105, 109, 97, 103], [106, 117, 109, 112], [105, 102], [99, 97, 108, 108], [100, 101, 102, 101, 114], [114, 101, 116], [112, 97, 110, 105, 99], [114, 101, 99, 111, 118, 101, 114], [103, 101, 116, 114, 101, 115], [115, 101, 116, 114, 101, 115], [101, 109, 105, 116], [116, 114, 97, 99, 101], [100, 114, 97, 119], [111, 112, 101, 110], [99, 108, 111, 115, 101]]
def wordsR : List UInt8 := [110, 111, 112, 32, 112, 117, 115, 104, 32, 108, 111, 97, 100, 32, 115, 116, 111, 114, 101, 32, 112, 111, 112, 32, 100, 117, 112, 32, 97, 100, 100, 32, 115, 117, 98, 32, 109, 117, 108, 32, 100, 105, 118, 32, 109, 111, 100, 32, 110, 101, 103, 32, 108, 101, 115, 115, 32, 115, 97, 109, 101, 32, 110, 111, 116, 32, 112, 97, 105, 114, 32, 112, 108, 117, 115, 32, 109, 105, 110, 117, 115, 32, 116, 105, 109, 101, 115, 32, 114, 101, 97, 108, 32, 105, 109, 97, 103, 32, 106, 117, 109, 112, 32, 105, 102, 32, 99, 97, 108, 108, 32, 100, 101, 102, 101, 114, 32, 114, 101, 116, 32, 112, 97, 110, 105, 99, 32, 114, 101, 99, 111, 118, 101, 114, 32, 103, 101, 116, 114, 101, 115, 32, 115, 101, 116, 114, 101, 115, 32, 101, 109, 105, 116, 32, 116, 114, 97, 99, 101, 32, 100, 114, 97, 119, 32, 111, 112, 101, 110, 32, 99, 108, 111, 115, 101, 32]
def addW (acc : List (List UInt8)) (b : UInt8) : List (List UInt8) := if b = 32 then acc ++ [[]] else acc.dropLast ++ [acc.getLastD [] ++ [b]]
/-- The names in the first so many bytes. -/
def cutW (k : Nat) : List (List UInt8) := (wordsL.take k).foldl addW [[]]
theorem cutW_all : cutW 175 = opNames := by decide +kernel
theorem cutW_step (k : Nat) (b : UInt8) (h : wordsL[k]? = some b) : cutW (k + 1) = addW (cutW k) b := by
  unfold cutW
  obtain ⟨hk, rfl⟩ := List.getElem?_eq_some_iff.1 h
  rw [List.take_succ_eq_append_getElem hk, List.foldl_append]; rfl
theorem addW_ne (acc : List (List UInt8)) (b : UInt8) : addW acc b ≠ [] := by
  unfold addW; split <;> simp
theorem cutW_ne (k : Nat) : cutW k ≠ [] := by
  have h : ∀ (l : List UInt8) (acc : List (List UInt8)), acc ≠ [] → l.foldl addW acc ≠ [] := by
    intro l
    induction l with
    | nil => intro acc h; exact h
    | cons b l ih => intro acc _; exact ih _ (addW_ne _ _)
  exact h _ _ (by simp)
theorem cutW_len (k : Nat) : (cutW k).length ≤ 1 + k := by
  have h : ∀ (l : List UInt8) (acc : List (List UInt8)), acc ≠ [] → (l.foldl addW acc).length ≤ acc.length + l.length := by
    intro l
    induction l with
    | nil => intro acc _; exact Nat.le_refl _
    | cons b l ih =>
      intro acc hne
      have h1 := ih (addW acc b) (addW_ne _ _)
      have h2 : (addW acc b).length ≤ acc.length + 1 := by
        unfold addW; split
        · simp
        · have := List.length_pos_iff.2 hne
          simp
      simp only [List.foldl_cons, List.length_cons]; omega
  have := h (wordsL.take k) [[]] (by simp)
  simp only [List.length_singleton, List.length_take] at this
  unfold cutW; omega
theorem wordsL_low : ∀ b ∈ wordsL, b.toNat < 128 := by decide +kernel
theorem cutW_small : ∀ k < 176, ∀ x ∈ cutW k, x.length ≤ 10 := by decide +kernel

/-- The name of an instruction. -/
def nameAt (k : Nat) : List UInt8 := (opNames[k]?).getD []
def opNameL (op : Int) : List UInt8 := if isOp op then nameAt op.toNat else []
theorem nameAt_len : ∀ k < 35, (nameAt k).length ≤ 10 := by decide +kernel
theorem opNameL_len (op : Int) : (opNameL op).length ≤ 10 := by
  unfold opNameL; split
  · rename_i h
    simp only [isOp, Bool.and_eq_true, decide_eq_true_eq] at h
    exact nameAt_len _ (by omega)
  · exact Nat.zero_le _
/-- The reference's loop: where the name at hand begins, and its number. -/
def fromR (k : Nat) : Nat := (List.range k).foldl (fun a i => if wordsR[i]? = some 32 then i + 1 else a) 0
def cntR (k : Nat) : Nat := (List.range k).foldl (fun a i => if wordsR[i]? = some 32 then a + 1 else a) 0
theorem fromR_hit {k : Nat} (h : wordsR[k]? = some 32) : fromR (k + 1) = k + 1 := by
  unfold fromR; rw [List.range_succ, List.foldl_append]; simp [h]
theorem fromR_miss {k : Nat} (h : wordsR[k]? ≠ some 32) : fromR (k + 1) = fromR k := by
  unfold fromR; rw [List.range_succ, List.foldl_append]; simp [h]
theorem fromR_le (k : Nat) : fromR k ≤ k := by
  induction k with
  | zero => exact Nat.le_refl _
  | succ k ih =>
    by_cases h : wordsR[k]? = some 32
    · rw [fromR_hit h]; exact Nat.le_refl _
    · rw [fromR_miss h]; omega
theorem cntR_hit {k : Nat} (h : wordsR[k]? = some 32) : cntR (k + 1) = cntR k + 1 := by
  unfold cntR; rw [List.range_succ, List.foldl_append]; simp [h]
theorem cntR_miss {k : Nat} (h : wordsR[k]? ≠ some 32) : cntR (k + 1) = cntR k := by
  unfold cntR; rw [List.range_succ, List.foldl_append]; simp [h]
theorem cntR_all : cntR 176 = 35 := by decide +kernel
def wordsRS : ByteArray := ⟨wordsR.toArray⟩
theorem wordsR_len : wordsR.length = 176 := by decide +kernel
theorem piece_RS : ∀ k < 176, wordsR[k]? = some 32 → wordsRS.extract (fromR k) k = strB (nameAt (cntR k)) := by decide +kernel
end Go.Proofs.YtkdnbnkbnegckaaDoor
namespace Go.Proofs.YtkdnbnkbnegckaaDoor
open Go.RowKit

end Go.Proofs.YtkdnbnkbnegckaaDoor
namespace Go.Proofs.YtkdnbnkbnegckaaDoor
open Go.RowKit

theorem frozen_blk {W : World} {g : Nat} {cs : Array Value} {t : TypeId} (h : W.heap[g]? = some (.cells cs t (0, 0))) (j : Nat) : W.frozen? ⟨g, j, none⟩ = false := by simp [World.frozen?, h]
theorem Cells.grown {w w' : World} {ao : Option Addr} {cs : List Value} {g : Nat} (h : Cells w ao cs) (hg : w.grownBy w' (some g)) (hne : ∀ ad, ao = some ad → ad.block ≠ g) : Cells w' ao cs :=
  ⟨h.addr, fun b off e j u hu => hg.cell (h.cell b off e j u hu) (fun e2 => hne _ e (by cases e2; rfl))⟩

theorem Ext.grow {a b : World} (h : Ext a b) (g : Nat) : a.grownBy b (some g) := ⟨h.b.os, h.b.tape, h.b.output, h.size, fun k hk _ => h.block hk⟩
theorem addr_add (b off n : Nat) : (⟨b, off, none⟩ : Addr).add n = ⟨b, off + n, none⟩ := by
  unfold Addr.add; split <;> simp_all
theorem Cells.drop {w : World} {ao : Option Addr} {cs : List Value} (h : Cells w ao cs) (n : Nat) : Cells w (ao.map fun x => x.add n) (cs.drop n) := by
  refine ⟨fun hne => ?_, fun b off e j u hu => ?_⟩
  · obtain ⟨b, off, rfl⟩ := h.addr (by rintro rfl; simp at hne)
    exact ⟨b, off + n, by simp [addr_add]⟩
  · cases ao with
    | none => simp at e
    | some ad =>
      rw [List.getElem?_drop] at hu
      by_cases hne : cs = []
      · subst hne; simp at hu
      obtain ⟨b', off', e'⟩ := h.addr hne
      simp only [Option.some.injEq] at e'
      subst e'
      simp only [Option.map_some, Option.some.injEq, addr_add, Addr.mk.injEq] at e
      obtain ⟨rfl, rfl, -⟩ := e
      have := h.cell _ _ rfl (n + j) u hu
      rw [Nat.add_assoc]
      exact this

end Go.Proofs.YtkdnbnkbnegckaaDoor
