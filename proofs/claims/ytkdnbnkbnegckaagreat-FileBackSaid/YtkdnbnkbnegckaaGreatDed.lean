/- How data that came in are opened, as the second machine's data: along their type. file.Decode: what gives up, and the calls that it makes. file.Decode: worlds in which a cursor lies beside cells of one's own. -/
import Derived.Test.YtkdnbnkbnegckaaGreatOpenW
import Derived.Test.YtkdnbnkbnegckaaGreatEvQ
import Derived.OpenShut
import Derived.Test.YtkdnbnkbnegckaaGreatSpB
import Derived.Recover
import Derived.Tactics2
namespace Go.Proofs.YtkdnbnkbnegckaaGreat
open Go.RowKit Go.WideShapes

def okI : (k : IntKind) → DI k → Prop
  | .i64, n => I64 n
  | .u64, n => (0 : Int) ≤ n ∧ n < 18446744073709551616
  | _, _ => True
/-- Numbers of a word, texts and rows that a machine can reach. -/
def OkD : (τ : Ty) → Data τ → Prop
  | .int k, x => okI k x
  | .bool, _ => True
  | .str, x => x.length ≤ 140737488351232
  | .sl _ e, x => x.length ≤ 140737488351232 ∧ ∀ y ∈ x, OkD e y
  | .nul, _ => True
  | .pr a b, x => OkD a x.1 ∧ OkD b x.2
def DatR (τ : Ty) : World → List Value → Data τ → Prop := fun w cs x => RepCs w W0 (enc τ x) cs ∧ OkD τ x
abbrev OpensD (P : Program) (t : TypeId) (τ : Ty) : Prop := OpensW P t (DatR τ)
theorem DatR.len {τ : Ty} {w : World} {cs : List Value} {x : Data τ} (h : DatR τ w cs x) : cs.length = width τ := by rw [← h.1.1, enc_len]
theorem repCs_one {w : World} {c : C} {v : Value} (h : RepC w W0 c v) : RepCs w W0 [c] [v] := ⟨rfl, fun i c' u h1 h2 => by
  cases i with
  | zero => cases h1; cases h2; exact h
  | succ i => simp at h1⟩
theorem repCs_nil {w : World} : RepCs w W0 [] [] := ⟨rfl, fun i c u h1 _ => by simp at h1⟩
section
variable {P : Program} {t : TypeId}
theorem opensD_i64 (ht : P.underlying t = some (.int .i64)) : OpensD P t (.int .i64) := (opensW_int ht).mono id fun w cs n ⟨h1, h2⟩ => by
  subst h1
  exact ⟨repCs_one (.v _ rfl), h2⟩
set_option maxRecDepth 20000 in
theorem wf_u64' {n : Int} (h : (Lit.int .u64 n).wf = true) : 0 ≤ n ∧ n < 18446744073709551616 := by
  simp [Lit.wf, IntKind.min, IntKind.max, IntKind.signed, IntKind.bits] at h
  omega
theorem opensD_bool (ht : P.underlying t = some .bool) : OpensD P t .bool := (opensW_bool ht).mono id fun w cs b h1 => by
  subst h1
  exact ⟨repCs_one (.v _ rfl), trivial⟩
theorem opensD_str (ht : P.underlying t = some .string) : OpensD P t .str := (opensW_str ht).mono (fun s => s.data.toList) fun w cs s ⟨h1, h2⟩ => by
  subst h1
  exact ⟨repCs_one (.v _ rfl), h2⟩
theorem allR_dat {τ : Ty} {sz : Nat} {w : World} : ∀ {ecs : List (List Value)} {xs : List (Data τ)}, AllR sz (DatR τ) w ecs xs → RepCs w W0 (encL τ xs).flatten ecs.flatten ∧ (∀ x ∈ xs, OkD τ x) ∧ ∀ e ∈ ecs, e.length = sz
  | [], [], _ => ⟨repCs_nil, fun _ h => by simp at h, fun _ h => by simp at h⟩
  | c :: cs, x :: xs, ⟨h1, h2, h3⟩ => by
    obtain ⟨k1, k2, k3⟩ := allR_dat h3
    exact ⟨h2.1.append k1, by simpa using ⟨h2.2, k2⟩, by simpa using ⟨h1, k3⟩⟩
theorem opensD_sl {e : TypeId} {sz by' : Nat} {τ : Ty} (ht : P.underlying t = some (.slice e)) (hc : P.cellsOf e = sz) (hby : P.bytesOf e = by') (hs : width τ = sz) (h0 : 0 < sz) (hb0 : 0 < by') (he : OpensD P e τ) : OpensD P t (.sl sz τ) :=
  (opensW_slice ht hc hby he).mono (fun x => x.1) fun w cs x ⟨ecs, h1, h2, h3, h4, h5⟩ => by
    obtain ⟨xs, ao, cap⟩ := x
    obtain ⟨k1, k2, k3⟩ := allR_dat h5
    simp only at h1 h2 h3 h4 k1 k2
    subst h1
    have hl : (encL τ xs).length = xs.length := List.length_map _
    have hr : RepC w W0 (.fz sz (encL τ xs)) (.slice ao xs.length cap) := by
      rw [← hl]
      exact repC_in h0 (fun c hc => by
        obtain ⟨y, _, rfl⟩ := List.mem_map.1 hc
        rw [enc_len, hs]) (by rw [hl]; exact h2) h4 k1
    refine ⟨repCs_one hr, ?_, k2⟩
    have : xs.length * 1 ≤ xs.length * by' := Nat.mul_le_mul_left _ hb0
    show xs.length ≤ _
    omega
/-- The fields of a struct, from one on. -/
def FldR (τ : Ty) : World → List Value → Data τ → Prop := fun w cs x => ∃ c d, cs = c ++ d ∧ DatR τ w c x
theorem opensFD_one {f : Field} {off : Nat} {τ : Ty} (ho : f.offset = off) (hn : P.cellsOf f.type = width τ) (h : OpensD P f.type τ) : OpensFW P [f] off (FldR τ) := fun H enc w base spare held fuel cs xs hl hx hw => by
  obtain ⟨⟨a, _⟩, c, d, e, _, hr, _⟩ := OpensFW.cons ho hn h (fun _ _ _ h => h.len) (OpensFW.nil (off := off + width τ)) H enc w base spare held fuel cs xs hl hx hw
  exact ⟨a, c, d, e, hr⟩
theorem opensFD_cons {f : Field} {fs : List Field} {off : Nat} {τ σ : Ty} (ho : f.offset = off) (hn : P.cellsOf f.type = width τ) (h : OpensD P f.type τ) (hs : OpensFW P fs (off + width τ) (FldR σ)) : OpensFW P (f :: fs) off (FldR (.pr τ σ)) := fun H enc w base spare held fuel cs xs hl hx hw => by
  obtain ⟨⟨a, b⟩, c, d, e, _, hr, c2, d2, e2, hr2⟩ := OpensFW.cons ho hn h (fun _ _ _ h => h.len) hs H enc w base spare held fuel cs xs hl hx hw
  simp only at hr hr2 e2
  exact ⟨(a, b), c ++ c2, d2, by rw [e, e2, List.append_assoc], hr.1.append hr2.1, hr.2, hr2.2⟩
theorem opensD_struct {fs : Array Field} {τ : Ty} (ht : P.underlying t = some (.struct fs)) (hc : P.cellsOf t = width τ) (h : OpensFW P fs.toList 0 (FldR τ)) : OpensD P t τ :=
  (opensW_struct ht h).mono id fun w cs x ⟨hl, c, d, e, hr⟩ => by
    have : d = [] := by
      have h1 := hr.len
      rw [e, List.length_append, h1, hc] at hl
      exact List.eq_nil_of_length_eq_zero (by omega)
    subst this
    rw [List.append_nil] at e
    subst e
    exact hr
theorem opensD_arr4 {e : TypeId} (ht : P.underlying t = some (.array 4 e)) (he : P.underlying e = some (.int .u64)) (hc : P.cellsOf e = 1) (hc4 : P.cellsOf t = 4) : OpensD P t (.pr (.int .u64) (.pr (.int .u64) (.pr (.int .u64) (.int .u64)))) :=
  fun H enc w base spare held fuel cs x hx _ => by
    obtain ⟨xs, m, _, _, hl, hlen, hf⟩ := DataW.trod_array ht hx
    have hl4 : cs.length = 4 := by rw [hl, hc4]
    obtain ⟨v0, v1, v2, v3, rfl⟩ : ∃ v0 v1 v2 v3, cs = [v0, v1, v2, v3] := by
      match cs, hl4 with
      | [v0, v1, v2, v3], _ => exact ⟨v0, v1, v2, v3, rfl⟩
    have f0 := hf 0 (by decide)
    have f1 := hf 1 (by decide)
    have f2 := hf 2 (by decide)
    have f3 := hf 3 (by decide)
    rw [hc] at f0 f1 f2 f3
    rw [List.getElem?_eq_getElem (by omega)] at f0 f1 f2 f3
    obtain ⟨n0, q0, _, w0⟩ := DataW.trod_int he f0
    obtain ⟨n1, q1, _, w1⟩ := DataW.trod_int he f1
    obtain ⟨n2, q2, _, w2⟩ := DataW.trod_int he f2
    obtain ⟨n3, q3, _, w3⟩ := DataW.trod_int he f3
    simp at q0 q1 q2 q3
    subst q0 q1 q2 q3
    exact ⟨(n0, (n1, (n2, n3))), (repCs_one (.v _ rfl)).append ((repCs_one (.v _ rfl)).append ((repCs_one (.v _ rfl)).append (repCs_one (.v _ rfl)))), wf_u64' w0, wf_u64' w1, wf_u64' w2, wf_u64' w3⟩
end
/-- An argument, opened with its weight. -/
theorem open_d {P : Program} {t : TypeId} {τ : Ty} (ho : OpensD P t τ) {H : Type} {enc : TypeId × Value → H} {W : World} {base : Nat} {spare : Nat → Bool} {held : Bool} {v : Value} {d : DataW H} {p : List MemPlace} {ts : List TypeId} {ds : List (DataW H)}
    (hsz : (DataW.weightsEach P ts ds).all (· ≤ reachBytes) = true) {j : Nat} (htj : ts[j]? = some t) (hdj : ds[j]? = some d) (h : DataW.Trod enc P W base spare held t v d p) : ∃ a, DatR τ W v.cells.toList a := by
  obtain ⟨fuel, hf⟩ := h
  exact ho H enc W base spare held fuel _ _ hf (fun n hn => by
    exact of_decide_eq_true (List.all_eq_true.1 hsz _ (DataW.weights_mem_each htj hdj n hn)))
/-- An argument as the second machine sees it. -/
def argA (τ : Ty) (x : Data τ) : T := ⟨.agg, (enc τ x).map .c⟩
theorem repCs_xs {w : World} {cs : List C} {us : List Value} (h : RepCs w W0 cs us) : RepXs w W0 L0 ⟨[], []⟩ (cs.map .c) us := ⟨by simpa using h.1, fun i x u h1 h2 => by
  rw [List.getElem?_map] at h1
  cases hc : cs[i]? with
  | none => rw [hc] at h1; cases h1
  | some c =>
    rw [hc] at h1
    cases h1
    exact ⟨h.2 i c u hc h2, h.one u (List.mem_of_getElem? h2)⟩⟩
theorem rep_argA {w : World} {τ : Ty} {x : Data τ} {cs : List Value} (h : DatR τ w cs x) : RepT w W0 L0 ⟨[], []⟩ (argA τ x) (.agg cs.toArray) := ⟨cs, rfl, repCs_xs h.1⟩
end Go.Proofs.YtkdnbnkbnegckaaGreat
namespace Go.Proofs.YtkdnbnkbnegckaaGreat
open Go.RowKit
set_option maxRecDepth 20000

def errP (e : Int) : PanicEntry := { v := .iface 32 (.int .i64 e), recovered := false }
theorem so_true (e : Int) (w : World) : Calls Tryz.prog 128 #[.bool true, .int .i64 e] w fun x w' => x = .returned (.tuple #[]) ∧ w' = w := by
  go_enter Tryz.func128, Tryz.ntmps128
  go_wp2_with fail
  go_end0
  exact ⟨rfl, rfl⟩
theorem so_false (e : Int) (w : World) : Calls Tryz.prog 128 #[.bool false, .int .i64 e] w fun x w' => x = .panicked [errP e] ∧ w' = w := by
  go_enter Tryz.func128, Tryz.ntmps128
  go_wp2_with fail
  exact ⟨rfl, rfl, rfl⟩
theorem must_ok (w : World) : Calls Tryz.prog 129 #[.int .i64 0] w fun x w' => x = .returned (.tuple #[]) ∧ w' = w := by
  go_enter Tryz.func129, Tryz.ntmps129
  go_wp2_with fail
  go_end0
  exact ⟨rfl, rfl⟩
theorem must_bad (e : Int) (he : e ≠ 0) (w : World) : Calls Tryz.prog 129 #[.int .i64 e] w fun x w' => x = .panicked [errP e] ∧ w' = w := by
  have hb : (e != 0) = true := by simp [he]
  have hb2 : (e == 0) = false := by simp [he]
  go_enter Tryz.func129, Tryz.ntmps129
  go_wp2_with fail
  exact ⟨rfl, rfl, rfl⟩
/-! Calls of what the second machine knows -/
/-- Values that do not turn: a call that hands back one cell. -/
theorem repT_one {W : World} {who : Nat → Who} {L : Lay} {h : Hp} {c : C} {v : Value} (H : RepT W who L h ⟨.one, [.c c]⟩ v) : RepC W who c v := by
  obtain ⟨x, hx, hr⟩ := H
  cases hx
  exact hr
theorem pure_one {f : FuncId} {args : List T} {c : C} {h' : Hp} (hc : callW Tryz.prog annX plansX f args ⟨[], []⟩ = some (⟨.one, [.c c]⟩, h')) {W : World} {vs : List Value} (hl : args.length = vs.length) (hr : ∀ (i : Nat) t v, args[i]? = some t → vs[i]? = some v → RepT W W0 L0 ⟨[], []⟩ t v) :
    Calls Tryz.prog f vs.toArray W fun e W' => ∃ v, e = .returned v ∧ RepC W' W0 c v ∧ Ext W W' := by
  refine ((callW_ok (A := annX) base_ok prog_ok f args ⟨[], []⟩ _ h' hc).2 W W0 L0 vs ⟨fun k xs h => by simp at h, fun r ty sz es h => by simp at h, fun r sz es h => by simp at h⟩ hl hr).mono fun e W' ⟨v, who', L', he, hv, _, hs⟩ => ?_
  exact ⟨v, he, (repT_one hv).mono fun _ _ => rfl, hs.os, hs.tape, hs.output, hs.size, fun k hk => (hs.fro k rfl hk).1⟩
/-- The heap that holds a cursor. -/
def hpC (bs : List UInt8) (er : Int) : Hp := ⟨[[.c (.fz 1 (encL tY bs)), .c (.v (.bool true)), .c (.v (.int .i64 er))]], []⟩
theorem cur_m {f : FuncId} {args : List T} {res : T} {bs bs' : List UInt8} {er er' : Int} (hc : callW Tryz.prog annX plansX f (⟨.one, [.ptr 0 0]⟩ :: args) (hpC bs er) = some (res, hpC bs' er')) {W : World} {who : Nat → Who} {L : Lay} (H : HSim W who L (hpC bs er)) {vs : List Value} (hl : args.length = vs.length)
    (hr : ∀ (i : Nat) t v, args[i]? = some t → vs[i]? = some v → RepT W who L (hpC bs er) t v) :
    Calls Tryz.prog f (.pointer (some ⟨L.box 0, 0, none⟩) :: vs).toArray W fun e W' => ∃ v who' L', e = .returned v ∧ RepT W' who' L' (hpC bs' er') res v ∧ HSim W' who' L' (hpC bs' er') ∧ Step .all W who L (hpC bs er) W' who' L' (hpC bs' er') := by
  refine (callW_ok (A := annX) base_ok prog_ok f _ _ _ _ hc).2 W who L _ H (by simp [hl]) fun i t v h1 h2 => ?_
  cases i with
  | zero =>
    cases h1
    cases h2
    exact ⟨_, rfl, Nat.zero_lt_one, rfl⟩
  | succ i => exact hr i t v (by simpa using h1) (by simpa using h2)
theorem rep_i64 {W : World} {who : Nat → Who} {L : Lay} {h : Hp} {n : Int} : RepT W who L h ⟨.one, [.c (.v (.int .i64 n))]⟩ (.int .i64 n) := ⟨_, rfl, .v _ rfl⟩
theorem rep_i64_inv {W : World} {who : Nat → Who} {L : Lay} {h : Hp} {n : Int} {v : Value} (H : RepT W who L h ⟨.one, [.c (.v (.int .i64 n))]⟩ v) : v = .int .i64 n := by
  have := repT_one H
  cases this
  rfl
theorem no_args {P : Nat → T → Value → Prop} : ∀ (i : Nat) t v, ([] : List T)[i]? = some t → ([] : List Value)[i]? = some v → P i t v := fun i t v h => by simp at h
/-- What the cursor's functions come to, as calls of the second machine. -/
theorem w_Num {bs bs' : List UInt8} {er er' m n : Int} (h : S_cursor_Cursor_Num bs true er m = some (bs', (true, (er', (n, ()))))) : callW Tryz.prog annX plansX 96 [⟨.one, [.ptr 0 0]⟩, ⟨.one, [.c (.v (.int .i64 m))]⟩] (hpC bs er) = some (⟨.one, [.c (.v (.int .i64 n))]⟩, hpC bs' er') :=
  k_cursor_Cursor_Num (bs, (true, (er, (m, ())))) _ h _ (by kernel_rfl)
theorem w_Err {bs : List UInt8} {er : Int} : callW Tryz.prog annX plansX 14 [⟨.one, [.ptr 0 0]⟩] (hpC bs er) = some (⟨.one, [.c (.v (.int .i64 er))]⟩, hpC bs er) :=
  k_cursor_Cursor_Err (bs, (true, (er, ()))) _ sp_Err _ (by kernel_rfl)
theorem w_New {bs : List UInt8} (h : bs.length ≤ 140737488351232) : callW Tryz.prog annX plansX 10 [⟨.one, [.c (.fz 1 (encL tY bs))]⟩] ⟨[], []⟩ = some (⟨.one, [.ptr 0 0]⟩, hpC bs 0) :=
  k_cursor_New (bs, ()) _ (sp_New h) _ (by kernel_rfl)
/-- A function's cells. -/
def fnX (x : Fn) : List X := (enc tF x).map .c
theorem w_Take {bs bs' : List UInt8} {er er' : Int} {x : Fn} (h : S_fnc_Take bs true er = some (bs', true, er', x.1, x.2.1, x.2.2.1, x.2.2.2.1, x.2.2.2.2.1, x.2.2.2.2.2.1, x.2.2.2.2.2.2.1, x.2.2.2.2.2.2.2.1, x.2.2.2.2.2.2.2.2.1, x.2.2.2.2.2.2.2.2.2.1, x.2.2.2.2.2.2.2.2.2.2, ())) :
    callW Tryz.prog annX plansX 13 [⟨.one, [.ptr 0 0]⟩] (hpC bs er) = some (⟨.agg, fnX x⟩, hpC bs' er') :=
  k_fnc_Take (bs, (true, (er, ()))) _ h _ (by kernel_rfl)
end Go.Proofs.YtkdnbnkbnegckaaGreat
namespace Go.Proofs.YtkdnbnkbnegckaaGreat
open Go.RowKit
set_option maxRecDepth 20000

theorem run_bytes_str {P : Program} {w : World} {src dst e : TypeId} {ao : Option Addr} {cap : Nat} {bs : List UInt8} (n : Nat) (hn : n = bs.length)
    (hs : P.underlying src = some (.slice e)) (he : P.underlying e = some (.int .u8)) (hd : P.underlying dst = some .string)
    (hc : Cells w ao (bs.map byteC)) : (convert src dst (.slice ao n cap)).run P w = .ok (.string ⟨bs.toArray⟩) w := by
  subst hn
  cases ao with
  | none =>
    have := hc.none_nil
    obtain rfl : bs = [] := by simpa using this
    rw [run_convert_bytes_string w src dst e none _ cap hs he hd]
    rfl
  | some ad =>
    refine run_convert_bytes_back w src dst e ad cap bs hs he hd (fun j hj => ?_)
    rw [hc.addAt (by simpa using hj)]
    simp [byteC]
theorem Cells.taken {w : World} {ao : Option Addr} {cs : List Value} (h : Cells w ao cs) (n : Nat) : Cells w ao (cs.take n) :=
  ⟨fun hne => h.addr (by rintro rfl; simp at hne), fun b off e j u hu => h.cell b off e j u (by
    rw [List.getElem?_take] at hu; split at hu
    · exact hu
    · cases hu)⟩
theorem addr_addD (b off n : Nat) : (⟨b, off, none⟩ : Addr).add n = ⟨b, off + n, none⟩ := by
  unfold Addr.add; split <;> simp_all
theorem Cells.dropped {w : World} {ao : Option Addr} {cs : List Value} (h : Cells w ao cs) (n : Nat) : Cells w (ao.map fun x => x.add n) (cs.drop n) := by
  refine ⟨fun hne => ?_, fun b off e j u hu => ?_⟩
  · obtain ⟨b, off, rfl⟩ := h.addr (by rintro rfl; simp at hne)
    exact ⟨b, off + n, by simp [addr_addD]⟩
  · cases ao with
    | none => simp at e
    | some ad =>
      rw [List.getElem?_drop] at hu
      by_cases hne : cs = []
      · subst hne; simp at hu
      obtain ⟨b', off', e'⟩ := h.addr hne
      simp only [Option.some.injEq] at e'
      subst e'
      simp only [Option.map_some, Option.some.injEq, addr_addD, Addr.mk.injEq] at e
      obtain ⟨rfl, rfl, -⟩ := e
      have := h.cell _ _ rfl (n + j) u hu
      rw [Nat.add_assoc]
      exact this

set_option maxRecDepth 20000 in
theorem set_blkD {W : World} {g : Nat} {cs : Array Value} {t : TypeId} {fz : Nat × Nat} (h : W.heap[g]? = some (.cells cs t fz)) (j : Nat) (v : Value) : (W.setCell ⟨g, j, none⟩ v).heap[g]? = some (.cells (cs.setIfInBounds j v) t fz) := by
  obtain ⟨hlt, hk⟩ := Array.getElem?_eq_some_iff.1 h
  show (W.heap.modify g _)[g]? = _
  rw [Array.getElem?_eq_getElem (by rw [Array.size_modify]; exact hlt), Array.getElem_modify_self, hk]
  rfl
theorem grown_setD (w : World) (g j : Nat) (v : Value) : w.grownBy (w.setCell ⟨g, j, none⟩ v) (some g) :=
  ⟨rfl, rfl, rfl, by simp [World.setCell], fun k _ hk => Below.heap_setCell _ _ _ k (fun e => hk (by rw [e]))⟩
theorem cell_of_block {W W' : World} {b j : Nat} (h : W'.heap[b]? = W.heap[b]?) : W'.cell? ⟨b, j, none⟩ = W.cell? ⟨b, j, none⟩ := by simp [World.cell?, h]
theorem frozen_of_block {W W' : World} {b j : Nat} (h : W'.heap[b]? = W.heap[b]?) : W'.frozen? ⟨b, j, none⟩ = W.frozen? ⟨b, j, none⟩ := by simp [World.frozen?, h]
def whoO (W : World) (who : Nat → Who) : Nat → Who := fun b => if b < W.heap.size then who b else .other
theorem hand_rep {W W' : World} {who : Nat → Who} (hs : W.heap.size ≤ W'.heap.size) (hk : ∀ b, b < W.heap.size → who b = .frozen → W'.heap[b]? = W.heap[b]?) {c : C} {u : Value} (H : RepC W who c u) : RepC W' (whoO W who) c u := by
  induction H with
  | v u hu => exact .v u hu
  | fz sz cap es ao us hu hc ha hw hr hl hrep ih =>
    refine .fz sz cap es ao us hu hc ha (fun b off hne e => ⟨(if_pos (hw b off hne e).2).trans (hw b off hne e).1, Nat.lt_of_lt_of_le (hw b off hne e).2 hs⟩) (fun b off e => ?_) hl ih
    by_cases hne : es = []
    · subst hne
      obtain rfl : us = [] := List.eq_nil_of_length_eq_zero (by simpa using hl.symm)
      intro j v hj
      simp at hj
    · exact range_same (hr b off e) fun _ => hk b (hw b off hne e).2 (hw b off hne e).1
theorem hand_reps {W W' : World} {who : Nat → Who} (hs : W.heap.size ≤ W'.heap.size) (hk : ∀ b, b < W.heap.size → who b = .frozen → W'.heap[b]? = W.heap[b]?) {cs : List C} {us : List Value} (H : RepCs W who cs us) : RepCs W' (whoO W who) cs us :=
  ⟨H.1, fun i c u h1 h2 => hand_rep hs hk (H.2 i c u h1 h2)⟩
theorem hand_sim {W W' : World} {who : Nat → Who} {L : Lay} {bs : List UInt8} {er : Int} (H : HSim W who L (hpC bs er)) (hs : W.heap.size ≤ W'.heap.size) (hk : ∀ b, b < W.heap.size → who b ≠ .other → W'.heap[b]? = W.heap[b]?) : HSim W' (whoO W who) L (hpC bs er) := by
  refine ⟨fun k xs hx => ?_, fun r ty sz es h => by simp [hpC] at h, fun r sz es h => by simp [hpC] at h⟩
  match k with
  | 0 =>
    obtain ⟨us, ty, h1, h2, h3⟩ := H.box 0 xs hx
    cases hx
    have hlt : L.box 0 < W.heap.size := (Array.getElem?_eq_some_iff.1 h1).1
    refine ⟨us, ty, (hk _ hlt (by rw [h2]; exact fun h => by cases h)).trans h1, (if_pos hlt).trans h2, h3.1, fun i x u e1 e2 => ?_⟩
    obtain ⟨h4, h5⟩ := h3.2 i x u e1 e2
    refine ⟨?_, h5⟩
    have hd : ∃ d, x = .c d := by
      match i with
      | 0 => cases e1; exact ⟨_, rfl⟩
      | 1 => cases e1; exact ⟨_, rfl⟩
      | 2 => cases e1; exact ⟨_, rfl⟩
      | i + 3 => simp at e1
    obtain ⟨d, rfl⟩ := hd
    exact hand_rep hs (fun b hb hf => hk b hb (by rw [hf]; exact fun h => by cases h)) h4
  | k + 1 => simp [hpC] at hx
/-- The old blocks: those of B are known, the others are not looked at. -/
def Old (B : Nat → Bool) (Ws : World) (who : Nat → Who) : Prop := ∀ b, b < Ws.heap.size → who b = if B b = true then .frozen else .other
theorem Old.step {B : Nat → Bool} {Ws W W' : World} {who who' : Nat → Who} {L L' : Lay} {h h' : Hp} (hf : Old B Ws who) (hx : Ws.heap.size ≤ W.heap.size) (S : Step .all W who L h W' who' L' h') : Old B Ws who' ∧ ∀ b, b < Ws.heap.size → W'.heap[b]? = W.heap[b]? := by
  have : ∀ b, b < Ws.heap.size → (who' b = if B b = true then .frozen else .other) ∧ W'.heap[b]? = W.heap[b]? := fun b hb => by
    have h1 := hf b hb
    by_cases hB : B b = true
    · rw [if_pos hB] at h1 ⊢
      exact ⟨(S.fro b h1 (by omega)).2, (S.fro b h1 (by omega)).1⟩
    · rw [if_neg hB] at h1 ⊢
      exact ⟨(S.oth b h1 (by omega)).2, (S.oth b h1 (by omega)).1⟩
  exact ⟨fun b hb => (this b hb).1, fun b hb => (this b hb).2⟩
def whoB (B : Nat → Bool) : Nat → Who := fun b => if B b = true then .frozen else .other
/-- A cursor at g; blocks of one's own; values that do not turn; all that was there stands. -/
structure RdS (B : Nat → Bool) (Ws W : World) (g : Nat) (bs : List UInt8) (er : Int) (hb : Nat → Prop) (xs : List C) (us : List Value) : Prop where
  ex : ∃ who L, HSim W who L (hpC bs er) ∧ L.box 0 = g ∧ Old B Ws who ∧ (∀ b, hb b → who b = .other ∧ b < W.heap.size) ∧ RepCs W who xs us
  ext : Ext Ws W
  fresh : ∀ b, hb b → Ws.heap.size ≤ b
theorem RdS.hand {B : Nat → Bool} {Ws W W' : World} {g : Nat} {bs : List UInt8} {er : Int} {hb hb' : Nat → Prop} {xs : List C} {us : List Value} (R : RdS B Ws W g bs er hb xs us) (hs : W.heap.size ≤ W'.heap.size) (ho : W'.os = W.os ∧ W'.tape = W.tape ∧ W'.output = W.output)
    (hk : ∀ b, b < W.heap.size → ¬hb b → W'.heap[b]? = W.heap[b]?) (h' : ∀ b, hb' b → (hb b ∨ W.heap.size ≤ b) ∧ b < W'.heap.size) : RdS B Ws W' g bs er hb' xs us := by
  obtain ⟨⟨who, L, H, hg, hf, hh, hr⟩, hx, hnw⟩ := R
  have hle : ∀ b, b < Ws.heap.size → b < W.heap.size := fun b h => Nat.lt_of_lt_of_le h hx.size
  refine ⟨⟨whoO W who, L, hand_sim H hs fun b h1 h2 => hk b h1 fun h => h2 (hh b h).1, hg, fun b h => (if_pos (hle b h)).trans (hf b h), fun b h => ?_, hand_reps hs (fun b h1 h2 => hk b h1 fun h => by have := (hh b h).1; rw [h2] at this; cases this) hr⟩,
    ⟨ho.1.trans hx.b.os, ho.2.1.trans hx.b.tape, ho.2.2.trans hx.b.output, Nat.le_trans hx.size hs, fun b h => ?_⟩, fun b h => (h' b h).1.elim (hnw b) (Nat.le_trans hx.size)⟩
  · obtain ⟨h1, h2⟩ := h' b h
    refine ⟨?_, h2⟩
    by_cases hlt : b < W.heap.size
    · exact (if_pos hlt).trans (hh b (h1.resolve_right (by omega))).1
    · exact if_neg hlt
  · exact (hk b (hle b h) fun h2 => absurd (hnw b h2) (by omega)).trans (hx.block h)
theorem RdS.alloc {B : Nat → Bool} {Ws W : World} {g : Nat} {bs : List UInt8} {er : Int} {hb : Nat → Prop} {xs : List C} {us : List Value} (R : RdS B Ws W g bs er hb xs us) (o : Obj) : RdS B Ws (W.alloc o) g bs er (fun b => hb b ∨ b = W.heap.size) xs us := by
  have hlt : ∀ b, hb b → b < W.heap.size := fun b h => by
    obtain ⟨⟨who, L, -, -, -, hh, -⟩, -⟩ := R
    exact (hh b h).2
  refine R.hand (by simp) ⟨rfl, rfl, rfl⟩ (fun b h1 _ => by simp [World.alloc, -World.alloc_eq, Array.getElem?_push, Nat.ne_of_lt h1]) fun b hb2 => ?_
  rcases hb2 with h | rfl
  · exact ⟨.inl h, by have := hlt b h; simp; omega⟩
  · exact ⟨.inr (Nat.le_refl _), by simp⟩
theorem RdS.lt {B : Nat → Bool} {Ws W : World} {g : Nat} {bs : List UInt8} {er : Int} {hb : Nat → Prop} {xs : List C} {us : List Value} (R : RdS B Ws W g bs er hb xs us) {b : Nat} (h : hb b) : b < W.heap.size := by
  obtain ⟨⟨who, L, -, -, -, hh, -⟩, -⟩ := R
  exact (hh b h).2
theorem own_at {W W' : World} {base : Nat} {e : TypeId} {size n : Nat} {v : Value} {xs : List Value} (h : W.ownsRow base e size v n xs) (hb : ∀ b, v.ownBlock = some b → W'.heap[b]? = W.heap[b]?) : W'.ownsRow base e size v n xs := by
  refine ⟨h.1, ?_⟩
  rcases h.2 with h3 | ⟨g, cap, cur, rfl, h4, h5, h6⟩
  · exact .inl h3
  · exact .inr ⟨g, cap, cur, rfl, h4, by rw [hb g rfl]; exact h5, h6⟩
theorem alloc_oldD {W : World} {o : Obj} {b : Nat} (h : b < W.heap.size) : (W.alloc o).heap[b]? = W.heap[b]? := by simp [World.alloc, -World.alloc_eq, Array.getElem?_push, Nat.ne_of_lt h]
/-- The cells that a function's value has. -/
theorem fn_cells {W : World} {who : Nat → Who} {x : Fn} {us : List Value} (h : RepCs W who (enc tF x) us) : ∃ a1 c1 a2 c2 a3 c3 a4 c4 a5 c5 a6 c6 a7 c7 a8 c8 a9 c9, us = [.string ⟨⟨x.1⟩⟩, .bool x.2.1, .slice a1 x.2.2.1.length c1, .slice a2 x.2.2.2.1.length c2, .slice a3 x.2.2.2.2.1.length c3, .slice a4 x.2.2.2.2.2.1.length c4,
    .slice a5 x.2.2.2.2.2.2.1.length c5, .slice a6 x.2.2.2.2.2.2.2.1.length c6, .slice a7 x.2.2.2.2.2.2.2.2.1.length c7, .slice a8 x.2.2.2.2.2.2.2.2.2.1.length c8, .slice a9 x.2.2.2.2.2.2.2.2.2.2.length c9] := by
  obtain ⟨nm, inn, ou, pa, re, lo, co, li, no, at', lv⟩ := x
  have hl := h.1
  have hen : ∀ (σ : Ty) (l : List (Data σ)), (encL σ l).length = l.length := fun σ l => List.length_map _
  obtain ⟨v0, v1, v2, v3, v4, v5, v6, v7, v8, v9, v10, rfl⟩ : ∃ v0 v1 v2 v3 v4 v5 v6 v7 v8 v9 v10, us = [v0, v1, v2, v3, v4, v5, v6, v7, v8, v9, v10] := by
    match us, hl with
    | [v0, v1, v2, v3, v4, v5, v6, v7, v8, v9, v10], _ => exact ⟨v0, v1, v2, v3, v4, v5, v6, v7, v8, v9, v10, rfl⟩
  have sl : ∀ (sz : Nat) (σ : Ty) (l : List (Data σ)) (v : Value), RepC W who (.fz sz (encL σ l)) v → ∃ a c, v = .slice a l.length c := fun sz σ l v hr => by
    obtain ⟨n, hn⟩ : ∃ n, n = encL σ l := ⟨_, rfl⟩
    have h1 := hen σ l
    rw [← hn] at hr h1
    cases hr with
    | fz _ cap _ ao us => exact ⟨ao, cap, by rw [h1]⟩
  have k0 := h.2 0 _ v0 rfl rfl
  have k1 := h.2 1 _ v1 rfl rfl
  obtain ⟨a1, c1, rfl⟩ := sl 1 tI ou v2 (h.2 2 _ v2 rfl rfl)
  obtain ⟨a2, c2, rfl⟩ := sl 1 tI pa v3 (h.2 3 _ v3 rfl rfl)
  obtain ⟨a3, c3, rfl⟩ := sl 1 tI re v4 (h.2 4 _ v4 rfl rfl)
  obtain ⟨a4, c4, rfl⟩ := sl 1 tI lo v5 (h.2 5 _ v5 rfl rfl)
  obtain ⟨a5, c5, rfl⟩ := sl 2 tC co v6 (h.2 6 _ v6 rfl rfl)
  obtain ⟨a6, c6, rfl⟩ := sl 1 tI li v7 (h.2 7 _ v7 rfl rfl)
  obtain ⟨a7, c7, rfl⟩ := sl 7 tN no v8 (h.2 8 _ v8 rfl rfl)
  obtain ⟨a8, c8, rfl⟩ := sl 1 tI at' v9 (h.2 9 _ v9 rfl rfl)
  obtain ⟨a9, c9, rfl⟩ := sl 4 tS lv v10 (h.2 10 _ v10 rfl rfl)
  cases k0
  cases k1
  exact ⟨a1, c1, a2, c2, a3, c3, a4, c4, a5, c5, a6, c6, a7, c7, a8, c8, a9, c9, rfl⟩
/-- What a call on the cursor leaves. -/
theorem RdS.next {B : Nat → Bool} {Ws W : World} {g : Nat} {bs bs' : List UInt8} {er er' : Int} {hb : Nat → Prop} {xs : List C} {us : List Value} {f : FuncId} {args : List T} {res : T} (R : RdS B Ws W g bs er hb xs us)
    (hc : callW Tryz.prog annX plansX f (⟨.one, [.ptr 0 0]⟩ :: args) (hpC bs er) = some (res, hpC bs' er')) {vs : List Value} (hl : args.length = vs.length)
    (hr : ∀ (who : Nat → Who) (L : Lay) (i : Nat) t v, args[i]? = some t → vs[i]? = some v → RepT W who L (hpC bs er) t v) :
    Calls Tryz.prog f (.pointer (some ⟨g, 0, none⟩) :: vs).toArray W fun e W' => ∃ v, e = .returned v ∧
      (∃ who L, HSim W' who L (hpC bs' er') ∧ L.box 0 = g ∧ Old B Ws who ∧ (∀ b, hb b → who b = .other ∧ b < W'.heap.size) ∧ RepCs W' who xs us ∧ RepT W' who L (hpC bs' er') res v) ∧ Ext Ws W' ∧ (∀ b, hb b → W'.heap[b]? = W.heap[b]?) := by
  obtain ⟨⟨who, L, H, hg, hf, hh, hrep⟩, hx, hnw⟩ := R
  subst hg
  refine (cur_m hc H hl (hr who L)).mono fun e W' ⟨v, who', L', he, hv, H', S⟩ => ?_
  refine ⟨v, he, ⟨who', L', H', S.box 0 (by simp [hpC]), (hf.step hx.size S).1, fun b h => ⟨(S.oth b (hh b h).1 (hh b h).2).2, Nat.lt_of_lt_of_le (hh b h).2 S.size⟩, S.repCs hrep, hv⟩,
    ⟨S.os.trans hx.b.os, S.tape.trans hx.b.tape, S.output.trans hx.b.output, Nat.le_trans hx.size S.size, fun b h => ((hf.step hx.size S).2 b h).trans (hx.block h)⟩, fun b h => (S.oth b (hh b h).1 (hh b h).2).1⟩
theorem RdS.err {B : Nat → Bool} {Ws W : World} {g : Nat} {bs : List UInt8} {er : Int} {hb : Nat → Prop} {xs : List C} {us : List Value} (R : RdS B Ws W g bs er hb xs us) :
    Calls Tryz.prog 14 #[.pointer (some ⟨g, 0, none⟩)] W fun e W' => e = .returned (.int .i64 er) ∧ RdS B Ws W' g bs er hb xs us ∧ (∀ b, hb b → W'.heap[b]? = W.heap[b]?) := by
  refine (R.next w_Err (vs := []) rfl fun _ _ => no_args).mono fun e W' ⟨v, he, ⟨who, L, H, hg, hf, hh, hr, hv⟩, hx, hk⟩ => ?_
  rw [rep_i64_inv hv] at he
  exact ⟨he, ⟨⟨who, L, H, hg, hf, hh, hr⟩, hx, R.fresh⟩, hk⟩
theorem RdS.num {B : Nat → Bool} {Ws W : World} {g : Nat} {bs bs' : List UInt8} {er er' m n : Int} {hb : Nat → Prop} {xs : List C} {us : List Value} (R : RdS B Ws W g bs er hb xs us) (h : S_cursor_Cursor_Num bs true er m = some (bs', (true, (er', (n, ()))))) :
    Calls Tryz.prog 96 #[.pointer (some ⟨g, 0, none⟩), .int .i64 m] W fun e W' => e = .returned (.int .i64 n) ∧ RdS B Ws W' g bs' er' hb xs us ∧ (∀ b, hb b → W'.heap[b]? = W.heap[b]?) := by
  refine (R.next (w_Num h) (vs := [.int .i64 m]) rfl fun who L i t v h1 h2 => ?_).mono fun e W' ⟨v, he, ⟨who, L, H, hg, hf, hh, hr, hv⟩, hx, hk⟩ => ?_
  · cases i with
    | zero => cases h1; cases h2; exact rep_i64
    | succ i => simp at h1
  · rw [rep_i64_inv hv] at he
    exact ⟨he, ⟨⟨who, L, H, hg, hf, hh, hr⟩, hx, R.fresh⟩, hk⟩
theorem RdS.take {B : Nat → Bool} {Ws W : World} {g : Nat} {bs bs' : List UInt8} {er er' : Int} {x : Fn} {hb : Nat → Prop} {xs : List C} {us : List Value} (R : RdS B Ws W g bs er hb xs us) (h : S_fnc_Take bs true er = some (bs', true, er', x.1, x.2.1, x.2.2.1, x.2.2.2.1, x.2.2.2.2.1, x.2.2.2.2.2.1, x.2.2.2.2.2.2.1, x.2.2.2.2.2.2.2.1, x.2.2.2.2.2.2.2.2.1, x.2.2.2.2.2.2.2.2.2.1, x.2.2.2.2.2.2.2.2.2.2, ())) :
    Calls Tryz.prog 13 #[.pointer (some ⟨g, 0, none⟩)] W fun e W' => ∃ cs : List Value, e = .returned (.agg cs.toArray) ∧ RdS B Ws W' g bs' er' hb (xs ++ enc tF x) (us ++ cs) ∧ (∃ who, RepCs W' who (enc tF x) cs) ∧ (∀ b, hb b → W'.heap[b]? = W.heap[b]?) := by
  refine (R.next (w_Take h) (vs := []) rfl fun _ _ => no_args).mono fun e W' ⟨v, he, ⟨who, L, H, hg, hf, hh, hr, hv⟩, hx, hk⟩ => ?_
  obtain ⟨cs, rfl, h1, h2⟩ := hv
  have hrc : RepCs W' who (enc tF x) cs := ⟨by simpa [fnX] using h1, fun i c u h3 h4 => (h2 i (.c c) u (by simp [fnX, h3]) h4).1⟩
  exact ⟨cs, he, ⟨⟨who, L, H, hg, hf, hh, hr.append hrc⟩, hx, R.fresh⟩, ⟨who, hrc⟩, hk⟩
theorem RdS.drop {B : Nat → Bool} {Ws W : World} {g : Nat} {bs : List UInt8} {er : Int} {hb : Nat → Prop} {xs ys : List C} {us cs : List Value} (R : RdS B Ws W g bs er hb (xs ++ ys) (us ++ cs)) (hl : xs.length = us.length) : RdS B Ws W g bs er hb xs us := by
  obtain ⟨⟨who, L, H, hg, hf, hh, hr⟩, hx, hnw⟩ := R
  refine ⟨⟨who, L, H, hg, hf, hh, ?_⟩, hx, hnw⟩
  have := hr.take xs.length
  rwa [List.take_left, hl, List.take_left] at this
theorem RdS.new {B : Nat → Bool} {Ws Wa : World} {hb : Nat → Prop} {bs : List UInt8} {v : Value} (hx : Ext Ws Wa) (hbb : ∀ b, hb b → Ws.heap.size ≤ b ∧ b < Wa.heap.size) (hl : bs.length ≤ 140737488351232) (hr : RepC Ws (whoB B) (.fz 1 (encL tY bs)) v) :
    Calls Tryz.prog 10 #[v] Wa fun e W' => ∃ g, e = .returned (.pointer (some ⟨g, 0, none⟩)) ∧ RdS B Ws W' g bs 0 hb [] [] ∧ (∀ b, hb b → W'.heap[b]? = Wa.heap[b]?) := by
  have hr1 : RepC Wa (whoO Ws (whoB B)) (.fz 1 (encL tY bs)) v := hand_rep hx.size (fun b h1 _ => hx.block h1) hr
  refine ((callW_ok (A := annX) base_ok prog_ok _ _ _ _ _ (w_New hl)).2 Wa (whoO Ws (whoB B)) L0 [v] ⟨fun k xs h => by simp at h, fun r ty sz es h => by simp at h, fun r sz es h => by simp at h⟩ rfl fun i t u h1 h2 => ?_).mono fun e W' ⟨v', who', L', he, hv, H', S⟩ => ?_
  · cases i with
    | zero => cases h1; cases h2; exact ⟨_, rfl, hr1⟩
    | succ i => simp at h1
  · obtain ⟨x, hx1, hx2⟩ := hv
    cases hx1
    obtain ⟨_, rfl⟩ := hx2
    have hO : Old B Ws (whoO Ws (whoB B)) := fun b h => if_pos h
    refine ⟨L'.box 0, he, ⟨⟨who', L', H', rfl, (hO.step hx.size S).1, fun b h => ?_, ⟨rfl, fun i c u h1 _ => by simp at h1⟩⟩,
      ⟨S.os.trans hx.b.os, S.tape.trans hx.b.tape, S.output.trans hx.b.output, Nat.le_trans hx.size S.size, fun b h => ((hO.step hx.size S).2 b h).trans (hx.block h)⟩, fun b h => (hbb b h).1⟩, fun b h => ?_⟩
    · have := hbb b h
      exact ⟨(S.oth b (if_neg (by omega)) this.2).2, Nat.lt_of_lt_of_le this.2 S.size⟩
    · have := hbb b h
      exact (S.oth b (if_neg (by omega)) this.2).1
/-- A slice in a world of which not every block is known. -/
theorem repC_inW {W : World} {who : Nat → Who} {sz cap : Nat} {es : List (List C)} {ao : Option Addr} {us : List Value} (h0 : 0 < sz) (hu : ∀ e ∈ es, e.length = sz) (hc : es.length ≤ cap) (hC : Cells W ao us) (hw : ∀ b off, ao = some ⟨b, off, none⟩ → who b = .frozen) (hr : RepCs W who es.flatten us) : RepC W who (.fz sz es) (.slice ao es.length cap) := by
  have hne : es ≠ [] → us ≠ [] := fun he hn => by
    subst hn
    have h1 := hr.1
    rw [flatten_len es hu] at h1
    have : 0 < es.length := List.length_pos_iff.2 he
    have : 0 < es.length * sz := Nat.mul_pos this h0
    simp at h1
    omega
  exact .fz sz cap es ao us hu hc (fun he => hC.addr (hne he)) (fun b off he ha => ⟨hw b off ha, Cells.lt (ha ▸ hC) (hne he)⟩) (fun b off ha j v hj => hC.cell b off ha j v hj) hr.1 hr.2
/-- Functions, one behind the other. -/
def fncsP : Nat → List UInt8 → Pr (List Fn)
  | 0, l => .ok ([], l)
  | n + 1, l =>
    match fncP l with
    | .error e => .error e
    | .ok (p, l) =>
    match fncsP n l with
    | .ok (r, l) => .ok (p :: r, l)
    | .error e => .error e
/-- A program's bytes. -/
def decodeP (b : List UInt8) : Except Int (List Fn) :=
  if 4 ≤ b.length ∧ b.take 4 = [73, 78, 76, 49] then
    match numP 40 (b.drop 4) with
    | .error e => .error e
    | .ok (n, l) => if n = 0 then .error 6 else
    match fncsP n.toNat l with
    | .error e => .error e
    | .ok (fs, l) => if (fs.map (·.1)).Nodup then (if l = [] then .ok fs else .error 4) else .error 7
  else .error 5
end Go.Proofs.YtkdnbnkbnegckaaGreat
