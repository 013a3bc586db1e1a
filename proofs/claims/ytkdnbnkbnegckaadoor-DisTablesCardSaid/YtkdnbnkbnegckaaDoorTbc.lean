/- How data that came in are opened, as the second machine's data: along their type. Small programs; how a program that came in is opened. Calls of what is lifted: a function among the arguments. -/
import Derived.Test.YtkdnbnkbnegckaaDoorOpenW
import Derived.Test.YtkdnbnkbnegckaaDoorSigP
import Derived.Test.YtkdnbnkbnegckaaDoorCurW
import Derived.OpenShut
import Derived.Test.YtkdnbnkbnegckaaDoorDaS
import Derived.Test.YtkdnbnkbnegckaaDoorWrt
import Derived.Test.YtkdnbnkbnegckaaDoorSqT
namespace Go.Proofs.YtkdnbnkbnegckaaDoor
open Go.RowKit Go.WideShapes

def okI : (k : IntKind) → DI k → Prop
  | .i64, n => I64 n
  | .u64, n => (0 : Int) ≤ n ∧ n < 18446744073709551616
  | _, _ => True
/-- Numbers of a word, texts and rows that a machine can reach. -/
def OkD : (τ : Ty) → Data τ → Prop
  | .int k, x => okI k x
  | .bool, _ => True
  | .str, x => x.length ≤ 140737488351232
  | .sl _ e, x => x.length ≤ 140737488351232 ∧ ∀ y ∈ x, OkD e y
  | .nul, _ => True
  | .pr a b, x => OkD a x.1 ∧ OkD b x.2
def DatR (τ : Ty) : World → List Value → Data τ → Prop := fun w cs x => RepCs w W0 (enc τ x) cs ∧ OkD τ x
abbrev OpensD (P : Program) (t : TypeId) (τ : Ty) : Prop := OpensW P t (DatR τ)
theorem DatR.len {τ : Ty} {w : World} {cs : List Value} {x : Data τ} (h : DatR τ w cs x) : cs.length = width τ := by rw [← h.1.1, enc_len]
theorem repCs_one {w : World} {c : C} {v : Value} (h : RepC w W0 c v) : RepCs w W0 [c] [v] := ⟨rfl, fun i c' u h1 h2 => by
  cases i with
  | zero => cases h1; cases h2; exact h
  | succ i => simp at h1⟩
theorem repCs_nil {w : World} : RepCs w W0 [] [] := ⟨rfl, fun i c u h1 _ => by simp at h1⟩
section
variable {P : Program} {t : TypeId}
theorem opensD_i64 (ht : P.underlying t = some (.int .i64)) : OpensD P t (.int .i64) := (opensW_int ht).mono id fun w cs n ⟨h1, h2⟩ => by
  subst h1
  exact ⟨repCs_one (.v _ rfl), h2⟩
set_option maxRecDepth 20000 in
theorem wf_u64' {n : Int} (h : (Lit.int .u64 n).wf = true) : 0 ≤ n ∧ n < 18446744073709551616 := by
  simp [Lit.wf, IntKind.min, IntKind.max, IntKind.signed, IntKind.bits] at h
  omega
theorem opensD_bool (ht : P.underlying t = some .bool) : OpensD P t .bool := (opensW_bool ht).mono id fun w cs b h1 => by
  subst h1
  exact ⟨repCs_one (.v _ rfl), trivial⟩
theorem opensD_str (ht : P.underlying t = some .string) : OpensD P t .str := (opensW_str ht).mono (fun s => s.data.toList) fun w cs s ⟨h1, h2⟩ => by
  subst h1
  exact ⟨repCs_one (.v _ rfl), h2⟩
theorem allR_dat {τ : Ty} {sz : Nat} {w : World} : ∀ {ecs : List (List Value)} {xs : List (Data τ)}, AllR sz (DatR τ) w ecs xs → RepCs w W0 (encL τ xs).flatten ecs.flatten ∧ (∀ x ∈ xs, OkD τ x) ∧ ∀ e ∈ ecs, e.length = sz
  | [], [], _ => ⟨repCs_nil, fun _ h => by simp at h, fun _ h => by simp at h⟩
  | c :: cs, x :: xs, ⟨h1, h2, h3⟩ => by
    obtain ⟨k1, k2, k3⟩ := allR_dat h3
    exact ⟨h2.1.append k1, by simpa using ⟨h2.2, k2⟩, by simpa using ⟨h1, k3⟩⟩
theorem opensD_sl {e : TypeId} {sz by' : Nat} {τ : Ty} (ht : P.underlying t = some (.slice e)) (hc : P.cellsOf e = sz) (hby : P.bytesOf e = by') (hs : width τ = sz) (h0 : 0 < sz) (hb0 : 0 < by') (he : OpensD P e τ) : OpensD P t (.sl sz τ) :=
  (opensW_slice ht hc hby he).mono (fun x => x.1) fun w cs x ⟨ecs, h1, h2, h3, h4, h5⟩ => by
    obtain ⟨xs, ao, cap⟩ := x
    obtain ⟨k1, k2, k3⟩ := allR_dat h5
    simp only at h1 h2 h3 h4 k1 k2
    subst h1
    have hl : (encL τ xs).length = xs.length := List.length_map _
    have hr : RepC w W0 (.fz sz (encL τ xs)) (.slice ao xs.length cap) := by
      rw [← hl]
      exact repC_in h0 (fun c hc => by
        obtain ⟨y, _, rfl⟩ := List.mem_map.1 hc
        rw [enc_len, hs]) (by rw [hl]; exact h2) h4 k1
    refine ⟨repCs_one hr, ?_, k2⟩
    have : xs.length * 1 ≤ xs.length * by' := Nat.mul_le_mul_left _ hb0
    show xs.length ≤ _
    omega
/-- The fields of a struct, from one on. -/
def FldR (τ : Ty) : World → List Value → Data τ → Prop := fun w cs x => ∃ c d, cs = c ++ d ∧ DatR τ w c x
theorem opensFD_one {f : Field} {off : Nat} {τ : Ty} (ho : f.offset = off) (hn : P.cellsOf f.type = width τ) (h : OpensD P f.type τ) : OpensFW P [f] off (FldR τ) := fun H enc w base spare held fuel cs xs hl hx hw => by
  obtain ⟨⟨a, _⟩, c, d, e, _, hr, _⟩ := OpensFW.cons ho hn h (fun _ _ _ h => h.len) (OpensFW.nil (off := off + width τ)) H enc w base spare held fuel cs xs hl hx hw
  exact ⟨a, c, d, e, hr⟩
theorem opensFD_cons {f : Field} {fs : List Field} {off : Nat} {τ σ : Ty} (ho : f.offset = off) (hn : P.cellsOf f.type = width τ) (h : OpensD P f.type τ) (hs : OpensFW P fs (off + width τ) (FldR σ)) : OpensFW P (f :: fs) off (FldR (.pr τ σ)) := fun H enc w base spare held fuel cs xs hl hx hw => by
  obtain ⟨⟨a, b⟩, c, d, e, _, hr, c2, d2, e2, hr2⟩ := OpensFW.cons ho hn h (fun _ _ _ h => h.len) hs H enc w base spare held fuel cs xs hl hx hw
  simp only at hr hr2 e2
  exact ⟨(a, b), c ++ c2, d2, by rw [e, e2, List.append_assoc], hr.1.append hr2.1, hr.2, hr2.2⟩
theorem opensD_struct {fs : Array Field} {τ : Ty} (ht : P.underlying t = some (.struct fs)) (hc : P.cellsOf t = width τ) (h : OpensFW P fs.toList 0 (FldR τ)) : OpensD P t τ :=
  (opensW_struct ht h).mono id fun w cs x ⟨hl, c, d, e, hr⟩ => by
    have : d = [] := by
      have h1 := hr.len
      rw [e, List.length_append, h1, hc] at hl
      exact List.eq_nil_of_length_eq_zero (by omega)
    subst this
    rw [List.append_nil] at e
    subst e
    exact hr
theorem opensD_arr4 {e : TypeId} (ht : P.underlying t = some (.array 4 e)) (he : P.underlying e = some (.int .u64)) (hc : P.cellsOf e = 1) (hc4 : P.cellsOf t = 4) : OpensD P t (.pr (.int .u64) (.pr (.int .u64) (.pr (.int .u64) (.int .u64)))) :=
  fun H enc w base spare held fuel cs x hx _ => by
    obtain ⟨xs, m, _, _, hl, hlen, hf⟩ := DataW.trod_array ht hx
    have hl4 : cs.length = 4 := by rw [hl, hc4]
    obtain ⟨v0, v1, v2, v3, rfl⟩ : ∃ v0 v1 v2 v3, cs = [v0, v1, v2, v3] := by
      match cs, hl4 with
      | [v0, v1, v2, v3], _ => exact ⟨v0, v1, v2, v3, rfl⟩
    have f0 := hf 0 (by decide)
    have f1 := hf 1 (by decide)
    have f2 := hf 2 (by decide)
    have f3 := hf 3 (by decide)
    rw [hc] at f0 f1 f2 f3
    rw [List.getElem?_eq_getElem (by omega)] at f0 f1 f2 f3
    obtain ⟨n0, q0, _, w0⟩ := DataW.trod_int he f0
    obtain ⟨n1, q1, _, w1⟩ := DataW.trod_int he f1
    obtain ⟨n2, q2, _, w2⟩ := DataW.trod_int he f2
    obtain ⟨n3, q3, _, w3⟩ := DataW.trod_int he f3
    simp at q0 q1 q2 q3
    subst q0 q1 q2 q3
    exact ⟨(n0, (n1, (n2, n3))), (repCs_one (.v _ rfl)).append ((repCs_one (.v _ rfl)).append ((repCs_one (.v _ rfl)).append (repCs_one (.v _ rfl)))), wf_u64' w0, wf_u64' w1, wf_u64' w2, wf_u64' w3⟩
end
/-- An argument, opened with its weight. -/
theorem open_d {P : Program} {t : TypeId} {τ : Ty} (ho : OpensD P t τ) {H : Type} {enc : TypeId × Value → H} {W : World} {base : Nat} {spare : Nat → Bool} {held : Bool} {v : Value} {d : DataW H} {p : List MemPlace} {ts : List TypeId} {ds : List (DataW H)}
    (hsz : (DataW.weightsEach P ts ds).all (· ≤ reachBytes) = true) {j : Nat} (htj : ts[j]? = some t) (hdj : ds[j]? = some d) (h : DataW.Trod enc P W base spare held t v d p) : ∃ a, DatR τ W v.cells.toList a := by
  obtain ⟨fuel, hf⟩ := h
  exact ho H enc W base spare held fuel _ _ hf (fun n hn => by
    exact of_decide_eq_true (List.all_eq_true.1 hsz _ (DataW.weights_mem_each htj hdj n hn)))
end Go.Proofs.YtkdnbnkbnegckaaDoor
namespace Go.Proofs.YtkdnbnkbnegckaaDoor
open Go.RowKit Go.WideShapes
set_option maxRecDepth 20000
section
variable {name : List UInt8} {inner : Bool} {outer params results locals lines at' : List Int} {code : List (Int × Int)} {nodes : List Nd} {live : List St}
def smallB (outer params results locals lines at' : List Int) (code : List (Int × Int)) (nodes : List Nd) (live : List St) : Bool :=
  decide (code.length ≤ 150 ∧ lines.length ≤ 150 ∧ nodes.length ≤ 20 ∧ at'.length ≤ 150 ∧ live.length ≤ 150 ∧ params.length + results.length + locals.length + outer.length ≤ 300)
theorem sp_Small (h1 : outer.length ≤ 140737488351232) (h2 : params.length ≤ 140737488351232) (h3 : results.length ≤ 140737488351232) (h4 : locals.length ≤ 140737488351232) : S_law15_Small name inner outer params results locals code lines nodes at' live = some (smallB outer params results locals lines at' code nodes live, ()) := by
  refine u_law15_Small (N := 0) ?_
  have w1 : wrp .i64 ((params.length : Int) + results.length) = (params.length : Int) + results.length := wi64 (by omega) (by omega)
  have w2 : wrp .i64 ((params.length : Int) + results.length + locals.length) = (params.length : Int) + results.length + locals.length := wi64 (by omega) (by omega)
  have w3 : wrp .i64 ((params.length : Int) + results.length + locals.length + outer.length) = (params.length : Int) + results.length + locals.length + outer.length := wi64 (by omega) (by omega)
  have c1 : ((code.length : Int) ≤ 150) ↔ code.length ≤ 150 := by omega
  have c2 : ((lines.length : Int) ≤ 150) ↔ lines.length ≤ 150 := by omega
  have c3 : ((nodes.length : Int) ≤ 20) ↔ nodes.length ≤ 20 := by omega
  have c4 : ((at'.length : Int) ≤ 150) ↔ at'.length ≤ 150 := by omega
  have c5 : ((live.length : Int) ≤ 150) ↔ live.length ≤ 150 := by omega
  have c6 : ((params.length : Int) + results.length + locals.length + outer.length ≤ 300) ↔ params.length + results.length + locals.length + outer.length ≤ 300 := by omega
  simp [M_law15_Small, smallB, w1, w2, w3, c1, c2, c3, c4, c5, c6]
  by_cases d1 : code.length ≤ 150 <;> by_cases d2 : lines.length ≤ 150 <;> by_cases d3 : nodes.length ≤ 20 <;> by_cases d4 : at'.length ≤ 150 <;> by_cases d5 : live.length ≤ 150 <;> simp [d1, d2, d3, d4, d5]
theorem okD_dat (h : OkD tF (name, inner, outer, params, results, locals, code, lines, nodes, at', live)) : outer.length ≤ 140737488351232 ∧ params.length ≤ 140737488351232 ∧ results.length ≤ 140737488351232 ∧ locals.length ≤ 140737488351232 ∧ (∀ p ∈ code, I64s p.2) ∧ ∀ v ∈ lines, I64s v := by
  obtain ⟨h1, -, ⟨h2, -⟩, ⟨h3, -⟩, ⟨h4, -⟩, ⟨h5, -⟩, ⟨-, h6⟩, ⟨-, h7⟩, ⟨-, h8⟩, ⟨-, h9⟩, ⟨-, h10⟩⟩ := h
  exact ⟨h2, h3, h4, h5, fun p hp => (h6 p hp).2, h7⟩
end
theorem opensD_types : OpensD Tryd.prog 22 (.sl 1 tI) := opensD_sl (by' := 8) Tryd.underlying22 (by kernel_rfl) (by kernel_rfl) rfl (by decide) (by decide) (opensD_i64 Tryd.underlying73)
theorem opensD_ints : OpensD Tryd.prog 24 (.sl 1 tI) := opensD_sl (by' := 8) Tryd.underlying24 (by kernel_rfl) (by kernel_rfl) rfl (by decide) (by decide) (opensD_i64 Tryd.underlying3)
theorem opensD_instr : OpensD Tryd.prog 39 tC := opensD_struct Tryd.underlying39 (by kernel_rfl) (opensFD_cons rfl (by kernel_rfl) (opensD_i64 Tryd.underlying37) (opensFD_one rfl (by kernel_rfl) (opensD_i64 Tryd.underlying3)))
theorem opensD_node : OpensD Tryd.prog 86 tN :=
  have hi : OpensD Tryd.prog 3 tI := opensD_i64 Tryd.underlying3
  opensD_struct Tryd.underlying86 (by kernel_rfl) (opensFD_cons rfl (by kernel_rfl) hi (opensFD_cons rfl (by kernel_rfl) hi (opensFD_cons rfl (by kernel_rfl) hi (opensFD_cons rfl (by kernel_rfl) hi (opensFD_cons rfl (by kernel_rfl) hi (opensFD_cons rfl (by kernel_rfl) hi (opensFD_one rfl (by kernel_rfl) hi)))))))
theorem opensD_set : OpensD Tryd.prog 62 tS := opensD_arr4 Tryd.underlying62 Tryd.underlying60 (by kernel_rfl) (by kernel_rfl)
theorem opensD_code : OpensD Tryd.prog 23 (.sl 2 tC) := opensD_sl (by' := 16) Tryd.underlying23 (by kernel_rfl) (by kernel_rfl) rfl (by decide) (by decide) opensD_instr
theorem opensD_nodes : OpensD Tryd.prog 25 (.sl 7 tN) := opensD_sl (by' := 56) Tryd.underlying25 (by kernel_rfl) (by kernel_rfl) rfl (by decide) (by decide) opensD_node
theorem opensD_sets : OpensD Tryd.prog 26 (.sl 4 tS) := opensD_sl (by' := 32) Tryd.underlying26 (by kernel_rfl) (by kernel_rfl) rfl (by decide) (by decide) opensD_set
theorem opensD_func : OpensD Tryd.prog 28 tF :=
  opensD_struct Tryd.underlying28 (by kernel_rfl) (opensFD_cons rfl (by kernel_rfl) (opensD_str Tryd.underlying9) (opensFD_cons rfl (by kernel_rfl) (opensD_bool Tryd.underlying4) (opensFD_cons rfl (by kernel_rfl) opensD_types (opensFD_cons rfl (by kernel_rfl) opensD_types (opensFD_cons rfl (by kernel_rfl) opensD_types (opensFD_cons rfl (by kernel_rfl) opensD_types
    (opensFD_cons rfl (by kernel_rfl) opensD_code (opensFD_cons rfl (by kernel_rfl) opensD_ints (opensFD_cons rfl (by kernel_rfl) opensD_nodes (opensFD_cons rfl (by kernel_rfl) opensD_ints (opensFD_one rfl (by kernel_rfl) opensD_sets)))))))))))
end Go.Proofs.YtkdnbnkbnegckaaDoor
namespace Go.Proofs.YtkdnbnkbnegckaaDoor
open Go.RowKit
set_option maxRecDepth 20000
set_option linter.unusedVariables false
def BoundV (f : Fn) : Prop := f.2.2.1.length ≤ 140737488351232 ∧ f.2.2.2.1.length ≤ 140737488351232 ∧ f.2.2.2.2.1.length ≤ 140737488351232 ∧ f.2.2.2.2.2.1.length ≤ 140737488351232
theorem arg_fn {W : World} {f : Fn} {cs : List Value} (hcs : RepCs W W0 (enc tF f) cs) : ∀ (i : Nat) t v, [(⟨.agg, fnX f⟩ : T)][i]? = some t → [Value.agg cs.toArray][i]? = some v → RepT W W0 L0 ⟨[], []⟩ t v := fun i t u h1 h2 => by
  match i with
  | 0 =>
    cases h1
    cases h2
    refine ⟨cs, rfl, by simpa [fnX] using hcs.1, fun i x u h3 h4 => ?_⟩
    rw [fnX, List.getElem?_map] at h3
    cases hq : (enc tF f)[i]? with
    | none => rw [hq] at h3; cases h3
    | some c =>
      rw [hq] at h3
      cases h3
      have := hcs.2 i c u hq h4
      exact ⟨this, this.one⟩
  | i + 1 => simp at h1
theorem pure_agg {f : FuncId} {args : List T} {xs : List X} {h' : Hp} (hc : callW Tryd.prog annX plansX f args ⟨[], []⟩ = some (⟨.agg, xs⟩, h')) {W : World} {vs : List Value} (hl : args.length = vs.length) (hr : ∀ (i : Nat) t v, args[i]? = some t → vs[i]? = some v → RepT W W0 L0 ⟨[], []⟩ t v) :
    Calls Tryd.prog f vs.toArray W fun e W' => ∃ v W1 L1, e = .returned v ∧ RepT W' W1 L1 h' ⟨.agg, xs⟩ v ∧ Ext W W' := by
  refine ((callW_ok (A := annX) base_ok prog_ok f args ⟨[], []⟩ _ h' hc).2 W W0 L0 vs ⟨fun k xs h => by simp at h, fun r ty sz es h => by simp at h, fun r sz es h => by simp at h⟩ hl hr).mono fun e W' ⟨v, who', L', he, hv, _, hs⟩ => ?_
  exact ⟨v, who', L', he, hv, hs.os, hs.tape, hs.output, hs.size, fun k hk => (hs.fro k rfl hk).1⟩
theorem c_mapsAt {W : World} {l : List St} {v : Value} {k : Nat} (hr : RepC W W0 (.fz 4 (encL tS l)) v) (hl : ∀ x ∈ l, U64S x) : Calls Tryd.prog 24 #[v, .int .i64 (k : Int)] W fun e W' => e = .returned (.agg (setC (setOf (setAt l k))).toArray) ∧ Ext W W' := by
  have hw : callW Tryd.prog annX plansX 24 [⟨.one, [.c (.fz 4 (encL tS l))]⟩, ⟨.one, [.c (.v (.int .i64 (k : Int)))]⟩] ⟨[], []⟩ = some (⟨.agg, [.c (.v (.int .u64 (setAt l k).1)), .c (.v (.int .u64 (setAt l k).2.1)), .c (.v (.int .u64 (setAt l k).2.2.1)), .c (.v (.int .u64 (setAt l k).2.2.2))]⟩, ⟨[], []⟩) := k_maps_At (l, ((k : Int), ())) _ sp_mapsAt _ (by kernel_rfl)
  refine (pure_agg hw (vs := [v, .int .i64 (k : Int)]) rfl fun i t u h1 h2 => ?_).mono fun e W' ⟨u, W1, L1, he, hu, hx⟩ => ⟨?_, hx⟩
  · match i with
    | 0 =>
      cases h1
      cases h2
      exact ⟨_, rfl, hr⟩
    | 1 =>
      cases h1
      cases h2
      exact ⟨_, rfl, .v _ rfl⟩
    | i + 2 => simp at h1
  · obtain ⟨us, rfl, hx1, hx2⟩ := hu
    obtain ⟨u1, u2, u3, u4, rfl⟩ : ∃ u1 u2 u3 u4, us = [u1, u2, u3, u4] := by
      match us, hx1 with
      | [u1, u2, u3, u4], _ => exact ⟨u1, u2, u3, u4, rfl⟩
    have a1 := (hx2 0 _ u1 rfl rfl).1
    have a2 := (hx2 1 _ u2 rfl rfl).1
    have a3 := (hx2 2 _ u3 rfl rfl).1
    have a4 := (hx2 3 _ u4 rfl rfl).1
    cases a1
    cases a2
    cases a3
    cases a4
    have hs := setOf_ints (setAt_ok hl k)
    rw [he]
    show Ending.returned (.agg #[.int .u64 (setAt l k).1, .int .u64 (setAt l k).2.1, .int .u64 (setAt l k).2.2.1, .int .u64 (setAt l k).2.2.2]) = .returned (.agg #[.int .u64 ((setOf (setAt l k)).a : Nat), .int .u64 ((setOf (setAt l k)).b : Nat), .int .u64 ((setOf (setAt l k)).c : Nat), .int .u64 ((setOf (setAt l k)).d : Nat)])
    rw [show (((setOf (setAt l k)).a : Nat) : Int) = (setAt l k).1 from congrArg (·.1) hs, show (((setOf (setAt l k)).b : Nat) : Int) = (setAt l k).2.1 from congrArg (·.2.1) hs, show (((setOf (setAt l k)).c : Nat) : Int) = (setAt l k).2.2.1 from congrArg (·.2.2.1) hs, show (((setOf (setAt l k)).d : Nat) : Int) = (setAt l k).2.2.2 from congrArg (·.2.2.2) hs]
theorem c_Small {W : World} {f : Fn} {cs : List Value} (hcs : RepCs W W0 (enc tF f) cs) (hb : BoundV f) : Calls Tryd.prog 4 #[.agg cs.toArray] W fun e W' => e = .returned (.bool (smallB f.2.2.1 f.2.2.2.1 f.2.2.2.2.1 f.2.2.2.2.2.1 f.2.2.2.2.2.2.2.1 f.2.2.2.2.2.2.2.2.2.1 f.2.2.2.2.2.2.1 f.2.2.2.2.2.2.2.2.1 f.2.2.2.2.2.2.2.2.2.2)) ∧ Ext W W' := by
  have hS : S_law15_Small f.1 f.2.1 f.2.2.1 f.2.2.2.1 f.2.2.2.2.1 f.2.2.2.2.2.1 f.2.2.2.2.2.2.1 f.2.2.2.2.2.2.2.1 f.2.2.2.2.2.2.2.2.1 f.2.2.2.2.2.2.2.2.2.1 f.2.2.2.2.2.2.2.2.2.2 = some (smallB f.2.2.1 f.2.2.2.1 f.2.2.2.2.1 f.2.2.2.2.2.1 f.2.2.2.2.2.2.2.1 f.2.2.2.2.2.2.2.2.2.1 f.2.2.2.2.2.2.1 f.2.2.2.2.2.2.2.2.1 f.2.2.2.2.2.2.2.2.2.2, ()) := sp_Small hb.1 hb.2.1 hb.2.2.1 hb.2.2.2
  have hw : callW Tryd.prog annX plansX 4 [⟨.agg, fnX f⟩] ⟨[], []⟩ = some (⟨.one, [.c (.v (.bool (smallB f.2.2.1 f.2.2.2.1 f.2.2.2.2.1 f.2.2.2.2.2.1 f.2.2.2.2.2.2.2.1 f.2.2.2.2.2.2.2.2.2.1 f.2.2.2.2.2.2.1 f.2.2.2.2.2.2.2.2.1 f.2.2.2.2.2.2.2.2.2.2)))]⟩, ⟨[], []⟩) := k_law15_Small (f.1, (f.2.1, (f.2.2.1, (f.2.2.2.1, (f.2.2.2.2.1, (f.2.2.2.2.2.1, (f.2.2.2.2.2.2.1, (f.2.2.2.2.2.2.2.1, (f.2.2.2.2.2.2.2.2.1, (f.2.2.2.2.2.2.2.2.2.1, (f.2.2.2.2.2.2.2.2.2.2, ()))))))))))) _ hS _ (by kernel_rfl)
  refine (pure_one hw (vs := [.agg cs.toArray]) rfl (arg_fn hcs)).mono fun e W' ⟨u, he, hu, hx⟩ => ?_
  cases hu
  exact ⟨he, hx⟩
theorem c_bare {W : World} {f : Fn} {cs : List Value} (hcs : RepCs W W0 (enc tF f) cs)  : Calls Tryd.prog 20 #[.agg cs.toArray] W fun e W' => e = .returned (.bool (bareQ f.2.2.2.2.2.2.2.2.1 f.2.2.2.2.2.2.2.2.2.1 f.2.2.2.2.2.2.2.2.2.2)) ∧ Ext W W' := by
  have hS : S_fnc_Bare f.1 f.2.1 f.2.2.1 f.2.2.2.1 f.2.2.2.2.1 f.2.2.2.2.2.1 f.2.2.2.2.2.2.1 f.2.2.2.2.2.2.2.1 f.2.2.2.2.2.2.2.2.1 f.2.2.2.2.2.2.2.2.2.1 f.2.2.2.2.2.2.2.2.2.2 = some (bareQ f.2.2.2.2.2.2.2.2.1 f.2.2.2.2.2.2.2.2.2.1 f.2.2.2.2.2.2.2.2.2.2, ()) := sp_Bare
  have hw : callW Tryd.prog annX plansX 20 [⟨.agg, fnX f⟩] ⟨[], []⟩ = some (⟨.one, [.c (.v (.bool (bareQ f.2.2.2.2.2.2.2.2.1 f.2.2.2.2.2.2.2.2.2.1 f.2.2.2.2.2.2.2.2.2.2)))]⟩, ⟨[], []⟩) := k_fnc_Bare (f.1, (f.2.1, (f.2.2.1, (f.2.2.2.1, (f.2.2.2.2.1, (f.2.2.2.2.2.1, (f.2.2.2.2.2.2.1, (f.2.2.2.2.2.2.2.1, (f.2.2.2.2.2.2.2.2.1, (f.2.2.2.2.2.2.2.2.2.1, (f.2.2.2.2.2.2.2.2.2.2, ()))))))))))) _ hS _ (by kernel_rfl)
  refine (pure_one hw (vs := [.agg cs.toArray]) rfl (arg_fn hcs)).mono fun e W' ⟨u, he, hu, hx⟩ => ?_
  cases hu
  exact ⟨he, hx⟩
theorem c_rCan {W : World} {f : Fn} {cs : List Value} (hcs : RepCs W W0 (enc tF f) cs) (hn : Len f.1) (hl : LenF f.2.2.1 f.2.2.2.1 f.2.2.2.2.1 f.2.2.2.2.2.1 f.2.2.2.2.2.2.1 f.2.2.2.2.2.2.2.1 f.2.2.2.2.2.2.2.2.1 f.2.2.2.2.2.2.2.2.2.1 f.2.2.2.2.2.2.2.2.2.2) : Calls Tryd.prog 5 #[.agg cs.toArray] W fun e W' => e = .returned (.int .i64 (canE f.1 f.2.1 f.2.2.1 f.2.2.2.1 f.2.2.2.2.1 f.2.2.2.2.2.1 f.2.2.2.2.2.2.1 f.2.2.2.2.2.2.2.1 f.2.2.2.2.2.2.2.2.1 f.2.2.2.2.2.2.2.2.2.1 f.2.2.2.2.2.2.2.2.2.2)) ∧ Ext W W' := by
  have hS : S_ref15_Can f.1 f.2.1 f.2.2.1 f.2.2.2.1 f.2.2.2.2.1 f.2.2.2.2.2.1 f.2.2.2.2.2.2.1 f.2.2.2.2.2.2.2.1 f.2.2.2.2.2.2.2.2.1 f.2.2.2.2.2.2.2.2.2.1 f.2.2.2.2.2.2.2.2.2.2 = some (canE f.1 f.2.1 f.2.2.1 f.2.2.2.1 f.2.2.2.2.1 f.2.2.2.2.2.1 f.2.2.2.2.2.2.1 f.2.2.2.2.2.2.2.1 f.2.2.2.2.2.2.2.2.1 f.2.2.2.2.2.2.2.2.2.1 f.2.2.2.2.2.2.2.2.2.2, ()) := sp_rCan hn hl
  have hw : callW Tryd.prog annX plansX 5 [⟨.agg, fnX f⟩] ⟨[], []⟩ = some (⟨.one, [.c (.v (.int .i64 (canE f.1 f.2.1 f.2.2.1 f.2.2.2.1 f.2.2.2.2.1 f.2.2.2.2.2.1 f.2.2.2.2.2.2.1 f.2.2.2.2.2.2.2.1 f.2.2.2.2.2.2.2.2.1 f.2.2.2.2.2.2.2.2.2.1 f.2.2.2.2.2.2.2.2.2.2)))]⟩, ⟨[], []⟩) := k_ref15_Can (f.1, (f.2.1, (f.2.2.1, (f.2.2.2.1, (f.2.2.2.2.1, (f.2.2.2.2.2.1, (f.2.2.2.2.2.2.1, (f.2.2.2.2.2.2.2.1, (f.2.2.2.2.2.2.2.2.1, (f.2.2.2.2.2.2.2.2.2.1, (f.2.2.2.2.2.2.2.2.2.2, ()))))))))))) _ hS _ (by kernel_rfl)
  refine (pure_one hw (vs := [.agg cs.toArray]) rfl (arg_fn hcs)).mono fun e W' ⟨u, he, hu, hx⟩ => ?_
  cases hu
  exact ⟨he, hx⟩
theorem c_rHead {W : World} {f : Fn} {cs : List Value} (hcs : RepCs W W0 (enc tF f) cs) (h : OkT f) : Calls Tryd.prog 10 #[.agg cs.toArray] W fun e W' => e = .returned (.string ⟨⟨headT f.1 f.2.1 f.2.2.1 f.2.2.2.1 f.2.2.2.2.1 f.2.2.2.2.2.1⟩⟩) ∧ Ext W W' := by
  have hS : S_ref18_Head f.1 f.2.1 f.2.2.1 f.2.2.2.1 f.2.2.2.2.1 f.2.2.2.2.2.1 f.2.2.2.2.2.2.1 f.2.2.2.2.2.2.2.1 f.2.2.2.2.2.2.2.2.1 f.2.2.2.2.2.2.2.2.2.1 f.2.2.2.2.2.2.2.2.2.2 = some (headT f.1 f.2.1 f.2.2.1 f.2.2.2.1 f.2.2.2.2.1 f.2.2.2.2.2.1, ()) := sp_rHead h.1
  have hw : callW Tryd.prog annX plansX 10 [⟨.agg, fnX f⟩] ⟨[], []⟩ = some (⟨.one, [.c (.v (.string ⟨⟨headT f.1 f.2.1 f.2.2.1 f.2.2.2.1 f.2.2.2.2.1 f.2.2.2.2.2.1⟩⟩))]⟩, ⟨[], []⟩) := k_ref18_Head (f.1, (f.2.1, (f.2.2.1, (f.2.2.2.1, (f.2.2.2.2.1, (f.2.2.2.2.2.1, (f.2.2.2.2.2.2.1, (f.2.2.2.2.2.2.2.1, (f.2.2.2.2.2.2.2.2.1, (f.2.2.2.2.2.2.2.2.2.1, (f.2.2.2.2.2.2.2.2.2.2, ()))))))))))) _ hS _ (by kernel_rfl)
  refine (pure_one hw (vs := [.agg cs.toArray]) rfl (arg_fn hcs)).mono fun e W' ⟨u, he, hu, hx⟩ => ?_
  cases hu
  exact ⟨he, hx⟩
theorem c_rFunc {W : World} {f : Fn} {cs : List Value} (hcs : RepCs W W0 (enc tF f) cs) (h : OkT f) : Calls Tryd.prog 12 #[.agg cs.toArray] W fun e W' => e = .returned (.string ⟨⟨funcT f⟩⟩) ∧ Ext W W' := by
  have hS : S_ref18_Func f.1 f.2.1 f.2.2.1 f.2.2.2.1 f.2.2.2.2.1 f.2.2.2.2.2.1 f.2.2.2.2.2.2.1 f.2.2.2.2.2.2.2.1 f.2.2.2.2.2.2.2.2.1 f.2.2.2.2.2.2.2.2.2.1 f.2.2.2.2.2.2.2.2.2.2 = some (funcT f, ()) := sp_rFunc (inner := f.2.1) h.1 (Nat.le_trans h.2.1 (by decide)) h.2.2.1 h.2.2.2
  have hw : callW Tryd.prog annX plansX 12 [⟨.agg, fnX f⟩] ⟨[], []⟩ = some (⟨.one, [.c (.v (.string ⟨⟨funcT f⟩⟩))]⟩, ⟨[], []⟩) := k_ref18_Func (f.1, (f.2.1, (f.2.2.1, (f.2.2.2.1, (f.2.2.2.2.1, (f.2.2.2.2.2.1, (f.2.2.2.2.2.2.1, (f.2.2.2.2.2.2.2.1, (f.2.2.2.2.2.2.2.2.1, (f.2.2.2.2.2.2.2.2.2.1, (f.2.2.2.2.2.2.2.2.2.2, ()))))))))))) _ hS _ (by kernel_rfl)
  refine (pure_one hw (vs := [.agg cs.toArray]) rfl (arg_fn hcs)).mono fun e W' ⟨u, he, hu, hx⟩ => ?_
  cases hu
  exact ⟨he, hx⟩
/-- A function whose tables' text is made. -/
def OkB (f : Fn) : Prop := f.2.2.2.2.2.2.1.length ≤ 100000 ∧ f.2.2.2.2.2.2.2.2.1.length ≤ 100000 ∧ f.2.2.2.2.2.2.2.2.2.1.length ≤ 1000000 ∧ f.2.2.2.2.2.2.2.2.2.2.length ≤ 1000000 ∧ (∀ v ∈ f.2.2.2.2.2.2.2.2.2.1, I64s v) ∧ (∀ x ∈ f.2.2.2.2.2.2.2.2.2.2, U64S x) ∧ (∀ n ∈ f.2.2.2.2.2.2.2.2.1.map nodeOf, Node64 n) ∧ (bareQ f.2.2.2.2.2.2.2.2.1 f.2.2.2.2.2.2.2.2.2.1 f.2.2.2.2.2.2.2.2.2.2 = true ∨ rightTree (f.2.2.2.2.2.2.2.2.1.map nodeOf) = true)
theorem c_rTables {W : World} {f : Fn} {cs : List Value} (hcs : RepCs W W0 (enc tF f) cs) (h : OkB f) : Calls Tryd.prog 8 #[.agg cs.toArray] W fun e W' => e = .returned (.string ⟨⟨tabT f.2.2.2.2.2.2.1.length f.2.2.2.2.2.2.2.2.1 f.2.2.2.2.2.2.2.2.2.1 f.2.2.2.2.2.2.2.2.2.2⟩⟩) ∧ Ext W W' := by
  have hS : S_ref18_Tables f.1 f.2.1 f.2.2.1 f.2.2.2.1 f.2.2.2.2.1 f.2.2.2.2.2.1 f.2.2.2.2.2.2.1 f.2.2.2.2.2.2.2.1 f.2.2.2.2.2.2.2.2.1 f.2.2.2.2.2.2.2.2.2.1 f.2.2.2.2.2.2.2.2.2.2 = some (tabT f.2.2.2.2.2.2.1.length f.2.2.2.2.2.2.2.2.1 f.2.2.2.2.2.2.2.2.2.1 f.2.2.2.2.2.2.2.2.2.2, ()) := sp_rTables h.2.1 h.2.2.1 h.2.2.2.1 (Nat.le_trans h.1 (by decide)) h.2.2.2.2.1 h.2.2.2.2.2.1 h.2.2.2.2.2.2.1 h.2.2.2.2.2.2.2
  have hw : callW Tryd.prog annX plansX 8 [⟨.agg, fnX f⟩] ⟨[], []⟩ = some (⟨.one, [.c (.v (.string ⟨⟨tabT f.2.2.2.2.2.2.1.length f.2.2.2.2.2.2.2.2.1 f.2.2.2.2.2.2.2.2.2.1 f.2.2.2.2.2.2.2.2.2.2⟩⟩))]⟩, ⟨[], []⟩) := k_ref18_Tables (f.1, (f.2.1, (f.2.2.1, (f.2.2.2.1, (f.2.2.2.2.1, (f.2.2.2.2.2.1, (f.2.2.2.2.2.2.1, (f.2.2.2.2.2.2.2.1, (f.2.2.2.2.2.2.2.2.1, (f.2.2.2.2.2.2.2.2.2.1, (f.2.2.2.2.2.2.2.2.2.2, ()))))))))))) _ hS _ (by kernel_rfl)
  refine (pure_one hw (vs := [.agg cs.toArray]) rfl (arg_fn hcs)).mono fun e W' ⟨u, he, hu, hx⟩ => ?_
  cases hu
  exact ⟨he, hx⟩
end Go.Proofs.YtkdnbnkbnegckaaDoor
