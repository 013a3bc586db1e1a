/- Short words for the texts of lifted functions. From the second machine to a law's walk: arguments that came in, and what is left behind. -/
import Derived.Test.YtkdnbnkbnegckaaEvS
import Derived.Test.YtkdnbnkbnegckaaEvM
import Derived.Test.YtkdnbnkbnegckaaStrA
namespace Go.Proofs.Ytkdnbnkbnegckaa
open Go.RowKit

abbrev tI : Ty := .int .i64
abbrev tW : Ty := .int .u64
abbrev tY : Ty := .int .u8
abbrev tC : Ty := .pr tI tI
abbrev tN : Ty := .pr tI (.pr tI (.pr tI (.pr tI (.pr tI (.pr tI tI)))))
abbrev tS : Ty := .pr tW (.pr tW (.pr tW tW))
abbrev tF : Ty := .pr .str (.pr .bool (.pr (.sl 1 tI) (.pr (.sl 1 tI) (.pr (.sl 1 tI) (.pr (.sl 1 tI) (.pr (.sl 2 tC) (.pr (.sl 1 tI) (.pr (.sl 7 tN) (.pr (.sl 1 tI) (.sl 4 tS))))))))))
abbrev LB := List UInt8
abbrev LI := List Int
abbrev LC := List (Int × Int)
abbrev LN := List (Int × (Int × (Int × (Int × (Int × (Int × Int))))))
abbrev LS := List (Int × (Int × (Int × Int)))
abbrev LF := List (LB × (Bool × (LI × (LI × (LI × (LI × (LC × (LI × (LN × (LI × LS))))))))))
abbrev eI (l : LI) := encL tI l
abbrev eC (l : LC) := encL tC l
abbrev eN (l : LN) := encL tN l
abbrev eS (l : LS) := encL tS l
abbrev eF (l : LF) := encL tF l
section
variable {β : Type}
noncomputable def dI (l : LI) (k : LI → Option β) : Option β := decL tI (encL tI l) k
noncomputable def dW (l : LI) (k : LI → Option β) : Option β := decL tW (encL tW l) k
noncomputable def dY (l : LB) (k : LB → Option β) : Option β := decL tY (encL tY l) k
noncomputable def dC (l : LC) (k : LC → Option β) : Option β := decL tC (encL tC l) k
noncomputable def dN (l : LN) (k : LN → Option β) : Option β := decL tN (encL tN l) k
noncomputable def dS (l : LS) (k : LS → Option β) : Option β := decL tS (encL tS l) k
noncomputable def dF (l : LF) (k : LF → Option β) : Option β := decL tF (encL tF l) k
noncomputable def qS (l : List (List C)) (r : Option β) : Option β := chk (eqES l l) r
noncomputable def qI (n : Int) (r : Option β) : Option β := chk (eqI n n) r
noncomputable def qN (n : Nat) (r : Option β) : Option β := chk (eqN n n) r
noncomputable def qB (b : ByteArray) (r : Option β) : Option β := chk (eqBA b b) r
noncomputable def qO (b : Bool) (r : Option β) : Option β := chk (eqB b b) r
end
end Go.Proofs.Ytkdnbnkbnegckaa
namespace Go.Proofs.Ytkdnbnkbnegckaa
open Go.RowKit

abbrev W0 : Nat → Who := fun _ => .frozen
abbrev L0 : Lay := ⟨id, fun _ => undef⟩
/-- A slice that came in. -/
theorem repC_in {W : World} {sz cap : Nat} {es : List (List C)} {ao : Option Addr} {us : List Value} (h0 : 0 < sz) (hu : ∀ e ∈ es, e.length = sz) (hc : es.length ≤ cap) (hC : Cells W ao us) (hr : RepCs W W0 es.flatten us) : RepC W W0 (.fz sz es) (.slice ao es.length cap) := by
  have hne : es ≠ [] → us ≠ [] := fun he hn => by
    subst hn
    have h1 := hr.1
    rw [flatten_len es hu] at h1
    have : 0 < es.length := List.length_pos_iff.2 he
    have : 0 < es.length * sz := Nat.mul_pos this h0
    simp at h1
    omega
  exact .fz sz cap es ao us hu hc (fun he => hC.addr (hne he)) (fun b off he ha => ⟨rfl, Cells.lt (ha ▸ hC) (hne he)⟩) (fun b off ha j v hj => hC.cell b off ha j v hj) hr.1 hr.2
/-- What lies above the heap that was is taken for frozen. -/
def whoN (W : World) (who : Nat → Who) : Nat → Who := fun b => if b < W.heap.size then who b else .frozen
theorem ext_frozen {W W' : World} {who : Nat → Who} {L : Lay} {h : Hp} (H : HSim W who L h) (hext : Ext W W') : HSim W' (whoN W who) L h ∧ Step .no W who L h W' (whoN W who) L h := by
  have hw2 : ∀ b, b < W.heap.size → whoN W who b = who b := fun b hb => if_pos hb
  have hsame : ∀ k, k < W.heap.size → W'.heap[k]? = W.heap[k]? := fun k hk => hext.block hk
  have S2 : Step .no W who L h W' (whoN W who) L h :=
    { os := hext.b.os, tape := hext.b.tape, output := hext.b.output, size := hext.size
      fro := fun b hb hlt => ⟨hsame b hlt, (hw2 b hlt).trans hb⟩
      oth := fun b hb hlt => ⟨hsame b hlt, (hw2 b hlt).trans hb⟩
      bx := Nat.le_refl _, box := fun _ _ => rfl
      rw := Nat.le_refl _, row := fun r _ sz es he => ⟨⟨es, he, rfl⟩, rfl⟩
      keepB := fun b hlt k hb _ => ⟨hsame b hlt, (hw2 b hlt).trans hb⟩
      keepR := fun b hlt k hb _ => ⟨hsame b hlt, .inl ((hw2 b hlt).trans hb)⟩ }
  refine ⟨⟨fun k xs hk => ?_, fun r ty sz es hr => ?_, fun r sz es hr => S2.froR (H.frz r sz es hr)⟩, S2⟩
  · have hb := (H.box_lt (List.getElem?_eq_some_iff.1 hk).1).1
    exact box_same S2 H hk (hsame _ hb) (hw2 _ hb)
  · have hmu := H.mu r ty sz es hr
    exact own_same S2 hmu fun g hg => ⟨hsame g (hmu.lt hg), (hw2 g (hmu.lt hg)).trans (hmu.who g hg)⟩
end Go.Proofs.Ytkdnbnkbnegckaa
