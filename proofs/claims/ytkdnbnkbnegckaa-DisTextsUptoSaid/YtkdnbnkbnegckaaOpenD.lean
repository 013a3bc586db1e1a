/- How data that came in are opened, as the second machine's data: along their type. -/
import Derived.Test.YtkdnbnkbnegckaaOpenW
import Derived.Test.YtkdnbnkbnegckaaEvQ
import Derived.OpenShut
namespace Go.Proofs.Ytkdnbnkbnegckaa
open Go.RowKit Go.WideShapes

def okI : (k : IntKind) → DI k → Prop
  | .i64, n => I64 n
  | .u64, n => (0 : Int) ≤ n ∧ n < 18446744073709551616
  | _, _ => True
/-- Numbers of a word, texts and rows that a machine can reach. -/
def OkD : (τ : Ty) → Data τ → Prop
  | .int k, x => okI k x
  | .bool, _ => True
  | .str, x => x.length ≤ 140737488351232
  | .sl _ e, x => x.length ≤ 140737488351232 ∧ ∀ y ∈ x, OkD e y
  | .nul, _ => True
  | .pr a b, x => OkD a x.1 ∧ OkD b x.2
def DatR (τ : Ty) : World → List Value → Data τ → Prop := fun w cs x => RepCs w W0 (enc τ x) cs ∧ OkD τ x
abbrev OpensD (P : Program) (t : TypeId) (τ : Ty) : Prop := OpensW P t (DatR τ)
theorem DatR.len {τ : Ty} {w : World} {cs : List Value} {x : Data τ} (h : DatR τ w cs x) : cs.length = width τ := by rw [← h.1.1, enc_len]
theorem repCs_one {w : World} {c : C} {v : Value} (h : RepC w W0 c v) : RepCs w W0 [c] [v] := ⟨rfl, fun i c' u h1 h2 => by
  cases i with
  | zero => cases h1; cases h2; exact h
  | succ i => simp at h1⟩
theorem repCs_nil {w : World} : RepCs w W0 [] [] := ⟨rfl, fun i c u h1 _ => by simp at h1⟩
section
variable {P : Program} {t : TypeId}
theorem opensD_i64 (ht : P.underlying t = some (.int .i64)) : OpensD P t (.int .i64) := (opensW_int ht).mono id fun w cs n ⟨h1, h2⟩ => by
  subst h1
  exact ⟨repCs_one (.v _ rfl), h2⟩
set_option maxRecDepth 20000 in
theorem wf_u64' {n : Int} (h : (Lit.int .u64 n).wf = true) : 0 ≤ n ∧ n < 18446744073709551616 := by
  simp [Lit.wf, IntKind.min, IntKind.max, IntKind.signed, IntKind.bits] at h
  omega
theorem opensD_bool (ht : P.underlying t = some .bool) : OpensD P t .bool := (opensW_bool ht).mono id fun w cs b h1 => by
  subst h1
  exact ⟨repCs_one (.v _ rfl), trivial⟩
theorem opensD_str (ht : P.underlying t = some .string) : OpensD P t .str := (opensW_str ht).mono (fun s => s.data.toList) fun w cs s ⟨h1, h2⟩ => by
  subst h1
  exact ⟨repCs_one (.v _ rfl), h2⟩
theorem allR_dat {τ : Ty} {sz : Nat} {w : World} : ∀ {ecs : List (List Value)} {xs : List (Data τ)}, AllR sz (DatR τ) w ecs xs → RepCs w W0 (encL τ xs).flatten ecs.flatten ∧ (∀ x ∈ xs, OkD τ x) ∧ ∀ e ∈ ecs, e.length = sz
  | [], [], _ => ⟨repCs_nil, fun _ h => by simp at h, fun _ h => by simp at h⟩
  | c :: cs, x :: xs, ⟨h1, h2, h3⟩ => by
    obtain ⟨k1, k2, k3⟩ := allR_dat h3
    exact ⟨h2.1.append k1, by simpa using ⟨h2.2, k2⟩, by simpa using ⟨h1, k3⟩⟩
theorem opensD_sl {e : TypeId} {sz by' : Nat} {τ : Ty} (ht : P.underlying t = some (.slice e)) (hc : P.cellsOf e = sz) (hby : P.bytesOf e = by') (hs : width τ = sz) (h0 : 0 < sz) (hb0 : 0 < by') (he : OpensD P e τ) : OpensD P t (.sl sz τ) :=
  (opensW_slice ht hc hby he).mono (fun x => x.1) fun w cs x ⟨ecs, h1, h2, h3, h4, h5⟩ => by
    obtain ⟨xs, ao, cap⟩ := x
    obtain ⟨k1, k2, k3⟩ := allR_dat h5
    simp only at h1 h2 h3 h4 k1 k2
    subst h1
    have hl : (encL τ xs).length = xs.length := List.length_map _
    have hr : RepC w W0 (.fz sz (encL τ xs)) (.slice ao xs.length cap) := by
      rw [← hl]
      exact repC_in h0 (fun c hc => by
        obtain ⟨y, _, rfl⟩ := List.mem_map.1 hc
        rw [enc_len, hs]) (by rw [hl]; exact h2) h4 k1
    refine ⟨repCs_one hr, ?_, k2⟩
    have : xs.length * 1 ≤ xs.length * by' := Nat.mul_le_mul_left _ hb0
    show xs.length ≤ _
    omega
/-- The fields of a struct, from one on. -/
def FldR (τ : Ty) : World → List Value → Data τ → Prop := fun w cs x => ∃ c d, cs = c ++ d ∧ DatR τ w c x
theorem opensFD_one {f : Field} {off : Nat} {τ : Ty} (ho : f.offset = off) (hn : P.cellsOf f.type = width τ) (h : OpensD P f.type τ) : OpensFW P [f] off (FldR τ) := fun H enc w base spare held fuel cs xs hl hx hw => by
  obtain ⟨⟨a, _⟩, c, d, e, _, hr, _⟩ := OpensFW.cons ho hn h (fun _ _ _ h => h.len) (OpensFW.nil (off := off + width τ)) H enc w base spare held fuel cs xs hl hx hw
  exact ⟨a, c, d, e, hr⟩
theorem opensFD_cons {f : Field} {fs : List Field} {off : Nat} {τ σ : Ty} (ho : f.offset = off) (hn : P.cellsOf f.type = width τ) (h : OpensD P f.type τ) (hs : OpensFW P fs (off + width τ) (FldR σ)) : OpensFW P (f :: fs) off (FldR (.pr τ σ)) := fun H enc w base spare held fuel cs xs hl hx hw => by
  obtain ⟨⟨a, b⟩, c, d, e, _, hr, c2, d2, e2, hr2⟩ := OpensFW.cons ho hn h (fun _ _ _ h => h.len) hs H enc w base spare held fuel cs xs hl hx hw
  simp only at hr hr2 e2
  exact ⟨(a, b), c ++ c2, d2, by rw [e, e2, List.append_assoc], hr.1.append hr2.1, hr.2, hr2.2⟩
theorem opensD_struct {fs : Array Field} {τ : Ty} (ht : P.underlying t = some (.struct fs)) (hc : P.cellsOf t = width τ) (h : OpensFW P fs.toList 0 (FldR τ)) : OpensD P t τ :=
  (opensW_struct ht h).mono id fun w cs x ⟨hl, c, d, e, hr⟩ => by
    have : d = [] := by
      have h1 := hr.len
      rw [e, List.length_append, h1, hc] at hl
      exact List.eq_nil_of_length_eq_zero (by omega)
    subst this
    rw [List.append_nil] at e
    subst e
    exact hr
theorem opensD_arr4 {e : TypeId} (ht : P.underlying t = some (.array 4 e)) (he : P.underlying e = some (.int .u64)) (hc : P.cellsOf e = 1) (hc4 : P.cellsOf t = 4) : OpensD P t (.pr (.int .u64) (.pr (.int .u64) (.pr (.int .u64) (.int .u64)))) :=
  fun H enc w base spare held fuel cs x hx _ => by
    obtain ⟨xs, m, _, _, hl, hlen, hf⟩ := DataW.trod_array ht hx
    have hl4 : cs.length = 4 := by rw [hl, hc4]
    obtain ⟨v0, v1, v2, v3, rfl⟩ : ∃ v0 v1 v2 v3, cs = [v0, v1, v2, v3] := by
      match cs, hl4 with
      | [v0, v1, v2, v3], _ => exact ⟨v0, v1, v2, v3, rfl⟩
    have f0 := hf 0 (by decide)
    have f1 := hf 1 (by decide)
    have f2 := hf 2 (by decide)
    have f3 := hf 3 (by decide)
    rw [hc] at f0 f1 f2 f3
    rw [List.getElem?_eq_getElem (by omega)] at f0 f1 f2 f3
    obtain ⟨n0, q0, _, w0⟩ := DataW.trod_int he f0
    obtain ⟨n1, q1, _, w1⟩ := DataW.trod_int he f1
    obtain ⟨n2, q2, _, w2⟩ := DataW.trod_int he f2
    obtain ⟨n3, q3, _, w3⟩ := DataW.trod_int he f3
    simp at q0 q1 q2 q3
    subst q0 q1 q2 q3
    exact ⟨(n0, (n1, (n2, n3))), (repCs_one (.v _ rfl)).append ((repCs_one (.v _ rfl)).append ((repCs_one (.v _ rfl)).append (repCs_one (.v _ rfl)))), wf_u64' w0, wf_u64' w1, wf_u64' w2, wf_u64' w3⟩
end
/-- An argument, opened with its weight. -/
theorem open_d {P : Program} {t : TypeId} {τ : Ty} (ho : OpensD P t τ) {H : Type} {enc : TypeId × Value → H} {W : World} {base : Nat} {spare : Nat → Bool} {held : Bool} {v : Value} {d : DataW H} {p : List MemPlace} {ts : List TypeId} {ds : List (DataW H)}
    (hsz : (DataW.weightsEach P ts ds).all (· ≤ reachBytes) = true) {j : Nat} (htj : ts[j]? = some t) (hdj : ds[j]? = some d) (h : DataW.Trod enc P W base spare held t v d p) : ∃ a, DatR τ W v.cells.toList a := by
  obtain ⟨fuel, hf⟩ := h
  exact ho H enc W base spare held fuel _ _ hf (fun n hn => by
    exact of_decide_eq_true (List.all_eq_true.1 hsz _ (DataW.weights_mem_each htj hdj n hn)))
theorem repCs_xs {w : World} {cs : List C} {us : List Value} (h : RepCs w W0 cs us) : RepXs w W0 L0 ⟨[], []⟩ (cs.map .c) us := ⟨by simpa using h.1, fun i x u h1 h2 => by
  rw [List.getElem?_map] at h1
  cases hc : cs[i]? with
  | none => rw [hc] at h1; cases h1
  | some c =>
    rw [hc] at h1
    cases h1
    exact ⟨h.2 i c u hc h2, h.one u (List.mem_of_getElem? h2)⟩⟩
end Go.Proofs.Ytkdnbnkbnegckaa
