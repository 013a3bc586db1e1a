/- Whether two structs of ints, or two arrays of ints, are the same: what the model comes to. -/
import Derived.Test.YtkdnbnkbnegckaaDoorBase
import Derived.Laws.StructEq
namespace Go.Proofs.YtkdnbnkbnegckaaDoor
open Go.RowKit

/-- A struct of n ints of kind k, and of nothing else. -/
def intFields (P : Program) (k : IntKind) (t : TypeId) (n : Nat) : Bool :=
  match P.underlying t with
  | some (.struct fs) => fs.size == n && fs.toList.zipIdx.all fun p => p.1.name != "_" && p.1.offset == p.2 && (match P.underlying p.1.type with | some (.int k') => k' == k | _ => false) && !(P.stoodInHeld t)
  | _ => false

theorem run_part_int {P : Program} {k k' : IntKind} {t : TypeId} (w : World) (ht : P.underlying t = some (.int k)) (xs : Array Value) (off : Nat) (n : Int) (hx : xs[off]? = some (.int k' n)) : (part t xs off).run P w = .ok (.int k' n) w := by
  simp [part, isAgg, Sem.run_bind, run_underlying ht, hx]

theorem run_eqFields_ints {P : Program} (k : IntKind) (w : World) (d : Nat) (xs ys : Array Value) : ∀ (fs : List Field) (off : Nat) (l m : List Int), fs.length = l.length → fs.length = m.length →
    (∀ i f, fs[i]? = some f → f.name ≠ "_" ∧ f.offset = off + i ∧ P.underlying f.type = some (.int k)) →
    (∀ i n, l[i]? = some n → xs[off + i]? = some (.int k n)) → (∀ i n, m[i]? = some n → ys[off + i]? = some (.int k n)) →
    (Op.eqFields (d + 1) xs ys fs).run P w = .ok (decide (l = m)) w := by
  intro fs
  induction fs with
  | nil =>
    intro off l m hl hm _ _ _
    obtain rfl := List.eq_nil_of_length_eq_zero hl.symm
    obtain rfl := List.eq_nil_of_length_eq_zero hm.symm
    simp [Op.eqFields]
  | cons f fs ih =>
    intro off l m hl hm hf hx hy
    match l, m, hl, hm with
    | a :: l, b :: m, hl, hm =>
      obtain ⟨h1, h2, h3⟩ := hf 0 f rfl
      have e1 := hx 0 a rfl
      have e2 := hy 0 b rfl
      rw [Nat.add_zero] at h2 e1 e2
      have hr := ih (off + 1) l m (by simpa using hl) (by simpa using hm) (fun i g hg => by
          obtain ⟨q1, q2, q3⟩ := hf (i + 1) g (by simpa using hg)
          exact ⟨q1, by omega, q3⟩)
        (fun i n hn => by have := hx (i + 1) n (by simpa using hn); rwa [show off + (i + 1) = off + 1 + i by omega] at this)
        (fun i n hn => by have := hy (i + 1) n (by simpa using hn); rwa [show off + (i + 1) = off + 1 + i by omega] at this)
      simp only [Op.eqFields, h1, ne_eq, not_false_eq_true, if_true, Sem.run_bind, h2, run_part_int w h3 _ _ _ e1, run_part_int w h3 _ _ _ e2, Result.andThen_ok, run_equalIn_int w d f.type k k a b h3, Sem.run_ite]
      by_cases hab : a = b
      · subst hab
        simp [hr]
      · simp [hab, Sem.run_pure]

theorem intFields_of {P : Program} {k : IntKind} {t : TypeId} {n : Nat} (hn : 0 < n) (h : intFields P k t n = true) : P.underlying t = some (.struct (P.fieldsOf t)) ∧ P.stoodInHeld t = false ∧ (P.fieldsOf t).toList.length = n ∧
    ∀ i f, (P.fieldsOf t).toList[i]? = some f → f.name ≠ "_" ∧ f.offset = 0 + i ∧ P.underlying f.type = some (.int k) := by
  unfold intFields at h
  split at h
  · rename_i fs hfs
    have hu : P.fieldsOf t = fs := by simp [Program.fieldsOf, hfs]
    rw [hu]
    simp only [Bool.and_eq_true, beq_iff_eq, List.all_eq_true] at h
    obtain ⟨h1, h2⟩ := h
    have key : ∀ i f, fs.toList[i]? = some f → f.name ≠ "_" ∧ f.offset = 0 + i ∧ P.underlying f.type = some (.int k) ∧ P.stoodInHeld t = false := by
      intro i f hf
      have := h2 (f, i) (by
        rw [List.mem_iff_getElem?]
        exact ⟨i, by simp [List.getElem?_zipIdx, hf]⟩)
      obtain ⟨⟨⟨a1, a2⟩, a3⟩, a4⟩ := this
      refine ⟨by simpa using a1, by simpa using a2, ?_, by simpa using a4⟩
      simp only at a3
      split at a3
      · rename_i k' hk'; rw [hk']; simp at a3; rw [a3]
      · cases a3
    refine ⟨hfs, ?_, by simpa using h1, fun i f hf => ⟨(key i f hf).1, (key i f hf).2.1, (key i f hf).2.2.1⟩⟩
    cases hl : fs.toList with
    | nil =>
      have : fs.toList.length = 0 := by rw [hl]; rfl
      simp at this
      simp [this] at h1
      omega
    | cons f r => exact (key 0 f (by rw [hl]; rfl)).2.2.2
  · cases h

theorem run_equalIn_ints {P : Program} {k : IntKind} {t : TypeId} {n : Nat} (hn : 0 < n) (h : intFields P k t n = true) (w : World) (d : Nat) (l m : List Int) (hl : l.length = n) (hm : m.length = n) :
    (Op.equalIn (d + 2) t (.agg (l.map (Value.int k)).toArray) (.agg (m.map (Value.int k)).toArray)).run P w = .ok (decide (l = m)) w := by
  obtain ⟨h1, h2, h3, h4⟩ := intFields_of hn h
  rw [run_equalIn_struct w (d + 1) t _ _ h1 h2]
  exact run_eqFields_ints k w d _ _ _ 0 l m (by omega) (by omega) h4 (fun i n hn => by simp [hn]) (fun i n hn => by simp [hn])

theorem run_neq_ints {P : Program} {k : IntKind} {t : TypeId} {n : Nat} (hn : 0 < n) (h : intFields P k t n = true) (w : World) (l m : List Int) (hl : l.length = n) (hm : m.length = n) :
    (binOp .neq t (.agg (l.map (Value.int k)).toArray) (.agg (m.map (Value.int k)).toArray)).run P w = .ok (.bool (!decide (l = m))) w := by
  rw [run_neq_struct, run_equalIn_ints hn h w 9998 l m hl hm]; rfl
theorem run_eql_ints {P : Program} {k : IntKind} {t : TypeId} {n : Nat} (hn : 0 < n) (h : intFields P k t n = true) (w : World) (l m : List Int) (hl : l.length = n) (hm : m.length = n) :
    (binOp .eql t (.agg (l.map (Value.int k)).toArray) (.agg (m.map (Value.int k)).toArray)).run P w = .ok (.bool (decide (l = m))) w := by
  rw [run_eql_struct, run_equalIn_ints hn h w 9998 l m hl hm]; rfl

/-- An array of n ints. -/
theorem run_equalIn_arr {P : Program} {k : IntKind} {t e : TypeId} {n : Nat} (ht : P.underlying t = some (.array n e)) (he : P.underlying e = some (.int k)) (hs : ∀ w, (sizeOf e).run P w = .ok 1 w) (w : World) (d : Nat) (l m : List Int) (hl : l.length = n) (hm : m.length = n) :
    (Op.equalIn (d + 2) t (.agg (l.map (Value.int k)).toArray) (.agg (m.map (Value.int k)).toArray)).run P w = .ok (decide (l = m)) w := by
  rw [Op.equalIn]
  simp only [Sem.run_bind, run_underlying ht, Result.andThen_ok, hs]
  rw [Std.Legacy.Range.forIn_eq_forIn_range']
  simp only [Std.Legacy.Range.size, Nat.sub_zero, Nat.add_sub_cancel, Nat.div_one]
  have key : ∀ (c s : Nat), s + c = n → l.take s = m.take s → ∀ (F : Nat → Option Bool × Unit → Sem (ForInStep (Option Bool × Unit))),
      (∀ i, i < n → ∀ w, (F i (none, ())).run P w = .ok (if l[i]? = m[i]? then .yield (none, ()) else .done (some false, ())) w) →
      (forIn (List.range' s c) (none, ()) F).run P w = .ok (if l = m then (none, ()) else (some false, ())) w := by
    intro c
    induction c with
    | zero =>
      intro s hs' ht' F _
      have : l = m := by
        rw [← List.take_of_length_le (i := s) (l := l) (by omega), ht', List.take_of_length_le (by omega)]
      simp [this]
    | succ c ih =>
      intro s hs' ht' F hF
      rw [List.range'_succ, List.forIn_cons, Sem.run_bind, hF s (by omega) w, Result.andThen_ok]
      by_cases hq : l[s]? = m[s]?
      · rw [if_pos hq]
        exact ih (s + 1) (by omega) (by rw [List.take_add_one, List.take_add_one, ht', hq]) F hF
      · rw [if_neg hq, if_neg (fun e => hq (by rw [e]))]
        rfl
  rw [key n 0 (by omega) (by simp) _ ?_]
  · by_cases hq : l = m
    · simp [hq]
    · simp [hq]
  · intro i hi w
    have e1 : ((l.map (Value.int k)).toArray)[i * 1]? = some (.int k l[i]) := by simp [Nat.mul_one, hl, hi]
    have e2 : ((m.map (Value.int k)).toArray)[i * 1]? = some (.int k m[i]) := by simp [Nat.mul_one, hm, hi]
    simp only [Sem.run_bind, run_part_int w he _ _ _ e1, run_part_int w he _ _ _ e2, Result.andThen_ok, run_equalIn_int w d e k k _ _ he]
    have f1 : l[i]? = some l[i] := by simp [hl, hi]
    have f2 : m[i]? = some m[i] := by simp [hm, hi]
    rw [f1, f2]
    by_cases hab : l[i] = m[i]
    · simp [hab]
    · simp [hab]

theorem run_neq_arr {P : Program} {k : IntKind} {t e : TypeId} {n : Nat} (ht : P.underlying t = some (.array n e)) (he : P.underlying e = some (.int k)) (hs : ∀ w, (sizeOf e).run P w = .ok 1 w) (w : World) (l m : List Int) (hl : l.length = n) (hm : m.length = n) :
    (binOp .neq t (.agg (l.map (Value.int k)).toArray) (.agg (m.map (Value.int k)).toArray)).run P w = .ok (.bool (!decide (l = m))) w := by
  rw [run_neq_struct, run_equalIn_arr ht he hs w 9998 l m hl hm]; rfl
theorem run_eql_arr {P : Program} {k : IntKind} {t e : TypeId} {n : Nat} (ht : P.underlying t = some (.array n e)) (he : P.underlying e = some (.int k)) (hs : ∀ w, (sizeOf e).run P w = .ok 1 w) (w : World) (l m : List Int) (hl : l.length = n) (hm : m.length = n) :
    (binOp .eql t (.agg (l.map (Value.int k)).toArray) (.agg (m.map (Value.int k)).toArray)).run P w = .ok (.bool (decide (l = m))) w := by
  rw [run_eql_struct, run_equalIn_arr ht he hs w 9998 l m hl hm]; rfl

/-- An element of an array of ints. -/
theorem run_index_ints {P : Program} {k ki : IntKind} {t e : TypeId} {n : Nat} (ht : P.underlying t = some (.array n e)) (he : P.underlying e = some (.int k)) (hs : ∀ w, (sizeOf e).run P w = .ok 1 w) (l : List Int) (hl : l.length = n) (i : Nat) (hi : i < n) (r : Int) (hr : l[i]? = some r) (w : World) :
    (Instr.index t (.agg (l.map (Value.int k)).toArray) (.int ki i)).run P w = .ok (.int k r) w := by
  have e1 : ((l.map (Value.int k)).toArray)[i * 1]? = some (.int k r) := by simp [Nat.mul_one, hr]
  have h1 : (0 : Int) ≤ (i : Int) ∧ (i : Int) < (n : Int) := by omega
  simp only [Instr.index, asIntOf, Sem.run_bind, run_underlying ht, Result.andThen_ok, Sem.run_pure, Sem.run_ite, h1, if_true, Int.toNat_natCast, hs, and_self]
  exact run_part_int w he _ _ _ e1
end Go.Proofs.YtkdnbnkbnegckaaDoor
