/- How data that came in are opened, as the second machine's data: along their type. Small programs; how a program that came in is opened. -/
import Derived.Test.YtkdnbnkbnegckaaGreatDoorOpenW
import Derived.Test.YtkdnbnkbnegckaaGreatDoorSigW
import Derived.OpenShut
import Derived.Test.YtkdnbnkbnegckaaGreatDoorSpA
namespace Go.Proofs.YtkdnbnkbnegckaaGreatDoor
open Go.RowKit Go.WideShapes

def okI : (k : IntKind) → DI k → Prop
  | .i64, n => I64 n
  | .u64, n => (0 : Int) ≤ n ∧ n < 18446744073709551616
  | _, _ => True
/-- Numbers of a word, texts and rows that a machine can reach. -/
def OkD : (τ : Ty) → Data τ → Prop
  | .int k, x => okI k x
  | .bool, _ => True
  | .str, x => x.length ≤ 140737488351232
  | .sl _ e, x => x.length ≤ 140737488351232 ∧ ∀ y ∈ x, OkD e y
  | .nul, _ => True
  | .pr a b, x => OkD a x.1 ∧ OkD b x.2
def DatR (τ : Ty) : World → List Value → Data τ → Prop := fun w cs x => RepCs w W0 (enc τ x) cs ∧ OkD τ x
abbrev OpensD (P : Program) (t : TypeId) (τ : Ty) : Prop := OpensW P t (DatR τ)
theorem DatR.len {τ : Ty} {w : World} {cs : List Value} {x : Data τ} (h : DatR τ w cs x) : cs.length = width τ := by rw [← h.1.1, enc_len]
theorem repCs_one {w : World} {c : C} {v : Value} (h : RepC w W0 c v) : RepCs w W0 [c] [v] := ⟨rfl, fun i c' u h1 h2 => by
  cases i with
  | zero => cases h1; cases h2; exact h
  | succ i => simp at h1⟩
theorem repCs_nil {w : World} : RepCs w W0 [] [] := ⟨rfl, fun i c u h1 _ => by simp at h1⟩
section
variable {P : Program} {t : TypeId}
theorem opensD_i64 (ht : P.underlying t = some (.int .i64)) : OpensD P t (.int .i64) := (opensW_int ht).mono id fun w cs n ⟨h1, h2⟩ => by
  subst h1
  exact ⟨repCs_one (.v _ rfl), h2⟩
set_option maxRecDepth 20000 in
theorem wf_u64' {n : Int} (h : (Lit.int .u64 n).wf = true) : 0 ≤ n ∧ n < 18446744073709551616 := by
  simp [Lit.wf, IntKind.min, IntKind.max, IntKind.signed, IntKind.bits] at h
  omega
theorem opensD_bool (ht : P.underlying t = some .bool) : OpensD P t .bool := (opensW_bool ht).mono id fun w cs b h1 => by
  subst h1
  exact ⟨repCs_one (.v _ rfl), trivial⟩
theorem opensD_str (ht : P.underlying t = some .string) : OpensD P t .str := (opensW_str ht).mono (fun s => s.data.toList) fun w cs s ⟨h1, h2⟩ => by
  subst h1
  exact ⟨repCs_one (.v _ rfl), h2⟩
theorem allR_dat {τ : Ty} {sz : Nat} {w : World} : ∀ {ecs : List (List Value)} {xs : List (Data τ)}, AllR sz (DatR τ) w ecs xs → RepCs w W0 (encL τ xs).flatten ecs.flatten ∧ (∀ x ∈ xs, OkD τ x) ∧ ∀ e ∈ ecs, e.length = sz
  | [], [], _ => ⟨repCs_nil, fun _ h => by simp at h, fun _ h => by simp at h⟩
  | c :: cs, x :: xs, ⟨h1, h2, h3⟩ => by
    obtain ⟨k1, k2, k3⟩ := allR_dat h3
    exact ⟨h2.1.append k1, by simpa using ⟨h2.2, k2⟩, by simpa using ⟨h1, k3⟩⟩
theorem opensD_sl {e : TypeId} {sz by' : Nat} {τ : Ty} (ht : P.underlying t = some (.slice e)) (hc : P.cellsOf e = sz) (hby : P.bytesOf e = by') (hs : width τ = sz) (h0 : 0 < sz) (hb0 : 0 < by') (he : OpensD P e τ) : OpensD P t (.sl sz τ) :=
  (opensW_slice ht hc hby he).mono (fun x => x.1) fun w cs x ⟨ecs, h1, h2, h3, h4, h5⟩ => by
    obtain ⟨xs, ao, cap⟩ := x
    obtain ⟨k1, k2, k3⟩ := allR_dat h5
    simp only at h1 h2 h3 h4 k1 k2
    subst h1
    have hl : (encL τ xs).length = xs.length := List.length_map _
    have hr : RepC w W0 (.fz sz (encL τ xs)) (.slice ao xs.length cap) := by
      rw [← hl]
      exact repC_in h0 (fun c hc => by
        obtain ⟨y, _, rfl⟩ := List.mem_map.1 hc
        rw [enc_len, hs]) (by rw [hl]; exact h2) h4 k1
    refine ⟨repCs_one hr, ?_, k2⟩
    have : xs.length * 1 ≤ xs.length * by' := Nat.mul_le_mul_left _ hb0
    show xs.length ≤ _
    omega
/-- The fields of a struct, from one on. -/
def FldR (τ : Ty) : World → List Value → Data τ → Prop := fun w cs x => ∃ c d, cs = c ++ d ∧ DatR τ w c x
theorem opensFD_one {f : Field} {off : Nat} {τ : Ty} (ho : f.offset = off) (hn : P.cellsOf f.type = width τ) (h : OpensD P f.type τ) : OpensFW P [f] off (FldR τ) := fun H enc w base spare held fuel cs xs hl hx hw => by
  obtain ⟨⟨a, _⟩, c, d, e, _, hr, _⟩ := OpensFW.cons ho hn h (fun _ _ _ h => h.len) (OpensFW.nil (off := off + width τ)) H enc w base spare held fuel cs xs hl hx hw
  exact ⟨a, c, d, e, hr⟩
theorem opensFD_cons {f : Field} {fs : List Field} {off : Nat} {τ σ : Ty} (ho : f.offset = off) (hn : P.cellsOf f.type = width τ) (h : OpensD P f.type τ) (hs : OpensFW P fs (off + width τ) (FldR σ)) : OpensFW P (f :: fs) off (FldR (.pr τ σ)) := fun H enc w base spare held fuel cs xs hl hx hw => by
  obtain ⟨⟨a, b⟩, c, d, e, _, hr, c2, d2, e2, hr2⟩ := OpensFW.cons ho hn h (fun _ _ _ h => h.len) hs H enc w base spare held fuel cs xs hl hx hw
  simp only at hr hr2 e2
  exact ⟨(a, b), c ++ c2, d2, by rw [e, e2, List.append_assoc], hr.1.append hr2.1, hr.2, hr2.2⟩
theorem opensD_struct {fs : Array Field} {τ : Ty} (ht : P.underlying t = some (.struct fs)) (hc : P.cellsOf t = width τ) (h : OpensFW P fs.toList 0 (FldR τ)) : OpensD P t τ :=
  (opensW_struct ht h).mono id fun w cs x ⟨hl, c, d, e, hr⟩ => by
    have : d = [] := by
      have h1 := hr.len
      rw [e, List.length_append, h1, hc] at hl
      exact List.eq_nil_of_length_eq_zero (by omega)
    subst this
    rw [List.append_nil] at e
    subst e
    exact hr
theorem opensD_arr4 {e : TypeId} (ht : P.underlying t = some (.array 4 e)) (he : P.underlying e = some (.int .u64)) (hc : P.cellsOf e = 1) (hc4 : P.cellsOf t = 4) : OpensD P t (.pr (.int .u64) (.pr (.int .u64) (.pr (.int .u64) (.int .u64)))) :=
  fun H enc w base spare held fuel cs x hx _ => by
    obtain ⟨xs, m, _, _, hl, hlen, hf⟩ := DataW.trod_array ht hx
    have hl4 : cs.length = 4 := by rw [hl, hc4]
    obtain ⟨v0, v1, v2, v3, rfl⟩ : ∃ v0 v1 v2 v3, cs = [v0, v1, v2, v3] := by
      match cs, hl4 with
      | [v0, v1, v2, v3], _ => exact ⟨v0, v1, v2, v3, rfl⟩
    have f0 := hf 0 (by decide)
    have f1 := hf 1 (by decide)
    have f2 := hf 2 (by decide)
    have f3 := hf 3 (by decide)
    rw [hc] at f0 f1 f2 f3
    rw [List.getElem?_eq_getElem (by omega)] at f0 f1 f2 f3
    obtain ⟨n0, q0, _, w0⟩ := DataW.trod_int he f0
    obtain ⟨n1, q1, _, w1⟩ := DataW.trod_int he f1
    obtain ⟨n2, q2, _, w2⟩ := DataW.trod_int he f2
    obtain ⟨n3, q3, _, w3⟩ := DataW.trod_int he f3
    simp at q0 q1 q2 q3
    subst q0 q1 q2 q3
    exact ⟨(n0, (n1, (n2, n3))), (repCs_one (.v _ rfl)).append ((repCs_one (.v _ rfl)).append ((repCs_one (.v _ rfl)).append (repCs_one (.v _ rfl)))), wf_u64' w0, wf_u64' w1, wf_u64' w2, wf_u64' w3⟩
end
/-- An argument, opened with its weight. -/
theorem open_d {P : Program} {t : TypeId} {τ : Ty} (ho : OpensD P t τ) {H : Type} {enc : TypeId × Value → H} {W : World} {base : Nat} {spare : Nat → Bool} {held : Bool} {v : Value} {d : DataW H} {p : List MemPlace} {ts : List TypeId} {ds : List (DataW H)}
    (hsz : (DataW.weightsEach P ts ds).all (· ≤ reachBytes) = true) {j : Nat} (htj : ts[j]? = some t) (hdj : ds[j]? = some d) (h : DataW.Trod enc P W base spare held t v d p) : ∃ a, DatR τ W v.cells.toList a := by
  obtain ⟨fuel, hf⟩ := h
  exact ho H enc W base spare held fuel _ _ hf (fun n hn => by
    exact of_decide_eq_true (List.all_eq_true.1 hsz _ (DataW.weights_mem_each htj hdj n hn)))
theorem repCs_xs {w : World} {cs : List C} {us : List Value} (h : RepCs w W0 cs us) : RepXs w W0 L0 ⟨[], []⟩ (cs.map .c) us := ⟨by simpa using h.1, fun i x u h1 h2 => by
  rw [List.getElem?_map] at h1
  cases hc : cs[i]? with
  | none => rw [hc] at h1; cases h1
  | some c =>
    rw [hc] at h1
    cases h1
    exact ⟨h.2 i c u hc h2, h.one u (List.mem_of_getElem? h2)⟩⟩
end Go.Proofs.YtkdnbnkbnegckaaGreatDoor
namespace Go.Proofs.YtkdnbnkbnegckaaGreatDoor
open Go.RowKit Go.WideShapes
set_option maxRecDepth 20000
section
variable {name : List UInt8} {inner : Bool} {outer params results locals lines at' : List Int} {code : List (Int × Int)} {nodes : List Nd} {live : List St}
def smallB (outer params results locals lines at' : List Int) (code : List (Int × Int)) (nodes : List Nd) (live : List St) : Bool :=
  decide (code.length ≤ 150 ∧ lines.length ≤ 150 ∧ nodes.length ≤ 20 ∧ at'.length ≤ 150 ∧ live.length ≤ 150 ∧ params.length + results.length + locals.length + outer.length ≤ 300)
theorem sp_Small (h1 : outer.length ≤ 140737488351232) (h2 : params.length ≤ 140737488351232) (h3 : results.length ≤ 140737488351232) (h4 : locals.length ≤ 140737488351232) : S_law15_Small name inner outer params results locals code lines nodes at' live = some (smallB outer params results locals lines at' code nodes live, ()) := by
  refine u_law15_Small (N := 0) ?_
  have w1 : wrp .i64 ((params.length : Int) + results.length) = (params.length : Int) + results.length := wi64 (by omega) (by omega)
  have w2 : wrp .i64 ((params.length : Int) + results.length + locals.length) = (params.length : Int) + results.length + locals.length := wi64 (by omega) (by omega)
  have w3 : wrp .i64 ((params.length : Int) + results.length + locals.length + outer.length) = (params.length : Int) + results.length + locals.length + outer.length := wi64 (by omega) (by omega)
  have c1 : ((code.length : Int) ≤ 150) ↔ code.length ≤ 150 := by omega
  have c2 : ((lines.length : Int) ≤ 150) ↔ lines.length ≤ 150 := by omega
  have c3 : ((nodes.length : Int) ≤ 20) ↔ nodes.length ≤ 20 := by omega
  have c4 : ((at'.length : Int) ≤ 150) ↔ at'.length ≤ 150 := by omega
  have c5 : ((live.length : Int) ≤ 150) ↔ live.length ≤ 150 := by omega
  have c6 : ((params.length : Int) + results.length + locals.length + outer.length ≤ 300) ↔ params.length + results.length + locals.length + outer.length ≤ 300 := by omega
  simp [M_law15_Small, smallB, w1, w2, w3, c1, c2, c3, c4, c5, c6]
  by_cases d1 : code.length ≤ 150 <;> by_cases d2 : lines.length ≤ 150 <;> by_cases d3 : nodes.length ≤ 20 <;> by_cases d4 : at'.length ≤ 150 <;> by_cases d5 : live.length ≤ 150 <;> simp [d1, d2, d3, d4, d5]
theorem okD_dat (h : OkD tF (name, inner, outer, params, results, locals, code, lines, nodes, at', live)) : outer.length ≤ 140737488351232 ∧ params.length ≤ 140737488351232 ∧ results.length ≤ 140737488351232 ∧ locals.length ≤ 140737488351232 ∧ (∀ p ∈ code, I64s p.2) ∧ ∀ v ∈ lines, I64s v := by
  obtain ⟨h1, -, ⟨h2, -⟩, ⟨h3, -⟩, ⟨h4, -⟩, ⟨h5, -⟩, ⟨-, h6⟩, ⟨-, h7⟩, ⟨-, h8⟩, ⟨-, h9⟩, ⟨-, h10⟩⟩ := h
  exact ⟨h2, h3, h4, h5, fun p hp => (h6 p hp).2, h7⟩
end
def smallV (f : Fn) : Bool := smallB f.2.2.1 f.2.2.2.1 f.2.2.2.2.1 f.2.2.2.2.2.1 f.2.2.2.2.2.2.2.1 f.2.2.2.2.2.2.2.2.2.1 f.2.2.2.2.2.2.1 f.2.2.2.2.2.2.2.2.1 f.2.2.2.2.2.2.2.2.2.2
def smallsB (fs : List Fn) : Bool := decide (fs.length ≤ 50) && fs.all smallV
def BoundV (f : Fn) : Prop := f.2.2.1.length ≤ 140737488351232 ∧ f.2.2.2.1.length ≤ 140737488351232 ∧ f.2.2.2.2.1.length ≤ 140737488351232 ∧ f.2.2.2.2.2.1.length ≤ 140737488351232
theorem sp_Small16 {fs : List Fn} (hl : ∀ f ∈ fs, BoundV f) : S_law16_Small fs = some (smallsB fs, ()) := by
  refine u_law16_Small (N := 52) ?_
  simp [M_law16_Small]
  refine iter_join (fun d => fs.length + 51 - d.1.toNat - fs.length) (fun d => ∃ k : Nat, d = ((k : Int), ()) ∧ k ≤ fs.length ∧ k ≤ 50 ∧ (fs.take k).all smallV = true) ?_ _ _ ⟨0, rfl, Nat.zero_le _, by omega, by simp⟩ (by simp)
  rintro _ again ⟨k, rfl, hk, hk2, hr⟩ ih
  by_cases h : k < fs.length
  · by_cases h5 : k < 50
    · have hw : wrp .i64 ((k : Int) + 1) = (k : Int) + 1 := wi64 (by omega) (by omega)
      obtain ⟨p1, p2, p3, p4⟩ := hl fs[k] (List.getElem_mem h)
      have hS : S_law15_Small fs[k].1 fs[k].2.1 fs[k].2.2.1 fs[k].2.2.2.1 fs[k].2.2.2.2.1 fs[k].2.2.2.2.2.1 fs[k].2.2.2.2.2.2.1 fs[k].2.2.2.2.2.2.2.1 fs[k].2.2.2.2.2.2.2.2.1 fs[k].2.2.2.2.2.2.2.2.2.1 fs[k].2.2.2.2.2.2.2.2.2.2 = some (smallV fs[k], ()) := sp_Small p1 p2 p3 p4
      have h50 : (k : Int) < 50 := by omega
      simp [h, h50, bnd_get h, hw, hS]
      cases he : smallV fs[k] with
      | true => exact ih ((k : Int) + 1, ()) ⟨k + 1, rfl, h, h5, by rw [List.take_succ_eq_append_getElem h, List.all_append, hr]; simp [he]⟩ (by simp; omega)
      | false =>
        have : smallsB fs = false := by
          have : fs.all smallV = false := by
            cases hq : fs.all smallV with
            | false => rfl
            | true => rw [List.all_eq_true] at hq; rw [hq _ (List.getElem_mem h)] at he; cases he
          rw [smallsB, this]; simp
        simp [this]
    · have h50 : ¬(k : Int) < 50 := by omega
      have hb : ¬fs.length ≤ 50 := by omega
      have hb2 : ¬(fs.length : Int) ≤ 50 := by omega
      simp [h, h50, smallsB, hb, hb2]
  · have : k = fs.length := by omega
    subst this
    rw [List.take_length] at hr
    simp [smallsB, hr]
    omega
theorem opensD_types : OpensD Tryz.prog 29 (.sl 1 tI) := opensD_sl (by' := 8) Tryz.underlying29 (by kernel_rfl) (by kernel_rfl) rfl (by decide) (by decide) (opensD_i64 Tryz.underlying99)
theorem opensD_ints : OpensD Tryz.prog 31 (.sl 1 tI) := opensD_sl (by' := 8) Tryz.underlying31 (by kernel_rfl) (by kernel_rfl) rfl (by decide) (by decide) (opensD_i64 Tryz.underlying3)
theorem opensD_instr : OpensD Tryz.prog 25 tC := opensD_struct Tryz.underlying25 (by kernel_rfl) (opensFD_cons rfl (by kernel_rfl) (opensD_i64 Tryz.underlying23) (opensFD_one rfl (by kernel_rfl) (opensD_i64 Tryz.underlying3)))
theorem opensD_node : OpensD Tryz.prog 102 tN :=
  have hi : OpensD Tryz.prog 3 tI := opensD_i64 Tryz.underlying3
  opensD_struct Tryz.underlying102 (by kernel_rfl) (opensFD_cons rfl (by kernel_rfl) hi (opensFD_cons rfl (by kernel_rfl) hi (opensFD_cons rfl (by kernel_rfl) hi (opensFD_cons rfl (by kernel_rfl) hi (opensFD_cons rfl (by kernel_rfl) hi (opensFD_cons rfl (by kernel_rfl) hi (opensFD_one rfl (by kernel_rfl) hi)))))))
theorem opensD_set : OpensD Tryz.prog 105 tS := opensD_arr4 Tryz.underlying105 Tryz.underlying103 (by kernel_rfl) (by kernel_rfl)
theorem opensD_code : OpensD Tryz.prog 30 (.sl 2 tC) := opensD_sl (by' := 16) Tryz.underlying30 (by kernel_rfl) (by kernel_rfl) rfl (by decide) (by decide) opensD_instr
theorem opensD_nodes : OpensD Tryz.prog 32 (.sl 7 tN) := opensD_sl (by' := 56) Tryz.underlying32 (by kernel_rfl) (by kernel_rfl) rfl (by decide) (by decide) opensD_node
theorem opensD_sets : OpensD Tryz.prog 33 (.sl 4 tS) := opensD_sl (by' := 32) Tryz.underlying33 (by kernel_rfl) (by kernel_rfl) rfl (by decide) (by decide) opensD_set
theorem opensD_func : OpensD Tryz.prog 35 tF :=
  opensD_struct Tryz.underlying35 (by kernel_rfl) (opensFD_cons rfl (by kernel_rfl) (opensD_str Tryz.underlying9) (opensFD_cons rfl (by kernel_rfl) (opensD_bool Tryz.underlying4) (opensFD_cons rfl (by kernel_rfl) opensD_types (opensFD_cons rfl (by kernel_rfl) opensD_types (opensFD_cons rfl (by kernel_rfl) opensD_types (opensFD_cons rfl (by kernel_rfl) opensD_types
    (opensFD_cons rfl (by kernel_rfl) opensD_code (opensFD_cons rfl (by kernel_rfl) opensD_ints (opensFD_cons rfl (by kernel_rfl) opensD_nodes (opensFD_cons rfl (by kernel_rfl) opensD_ints (opensFD_one rfl (by kernel_rfl) opensD_sets)))))))))))
/-- Data of a program. -/
abbrev PrD : Ty := .sl 11 tF
theorem opensD_prog : OpensD Tryz.prog 42 PrD :=
  opensD_struct Tryz.underlying42 (by kernel_rfl) (opensFD_one rfl (by kernel_rfl) (opensD_sl (by' := 240) Tryz.underlying40 (by kernel_rfl) (by kernel_rfl) rfl (by decide) (by decide) opensD_func))
theorem okP_bound {p : List Fn} (h : OkD PrD p) : ∀ f ∈ p, BoundV f := fun f hf => by
  obtain ⟨name, inner, outer, params, results, locals, code, lines, nodes, at', live⟩ := f
  obtain ⟨h2, h3, h4, h5, _⟩ := okD_dat (h.2 _ hf)
  exact ⟨h2, h3, h4, h5⟩
end Go.Proofs.YtkdnbnkbnegckaaGreatDoor
