/- file.Decode: worlds in which a cursor lies beside cells of one's own. What functions come to: templates, and contracts. Functions, lifted: what the program comes to by them. All lifted functions. -/
import Derived.Test.YtkdnbnkbnegckaaGreatDec
import Derived.Test.YtkdnbnkbnegckaaGreatLpA
namespace Go.Proofs.YtkdnbnkbnegckaaGreat
open Go.RowKit
set_option maxRecDepth 20000

theorem run_bytes_str {P : Program} {w : World} {src dst e : TypeId} {ao : Option Addr} {cap : Nat} {bs : List UInt8} (n : Nat) (hn : n = bs.length)
    (hs : P.underlying src = some (.slice e)) (he : P.underlying e = some (.int .u8)) (hd : P.underlying dst = some .string)
    (hc : Cells w ao (bs.map byteC)) : (convert src dst (.slice ao n cap)).run P w = .ok (.string ⟨bs.toArray⟩) w := by
  subst hn
  cases ao with
  | none =>
    have := hc.none_nil
    obtain rfl : bs = [] := by simpa using this
    rw [run_convert_bytes_string w src dst e none _ cap hs he hd]
    rfl
  | some ad =>
    refine run_convert_bytes_back w src dst e ad cap bs hs he hd (fun j hj => ?_)
    rw [hc.addAt (by simpa using hj)]
    simp [byteC]
theorem Cells.taken {w : World} {ao : Option Addr} {cs : List Value} (h : Cells w ao cs) (n : Nat) : Cells w ao (cs.take n) :=
  ⟨fun hne => h.addr (by rintro rfl; simp at hne), fun b off e j u hu => h.cell b off e j u (by
    rw [List.getElem?_take] at hu; split at hu
    · exact hu
    · cases hu)⟩
theorem addr_addD (b off n : Nat) : (⟨b, off, none⟩ : Addr).add n = ⟨b, off + n, none⟩ := by
  unfold Addr.add; split <;> simp_all
theorem Cells.dropped {w : World} {ao : Option Addr} {cs : List Value} (h : Cells w ao cs) (n : Nat) : Cells w (ao.map fun x => x.add n) (cs.drop n) := by
  refine ⟨fun hne => ?_, fun b off e j u hu => ?_⟩
  · obtain ⟨b, off, rfl⟩ := h.addr (by rintro rfl; simp at hne)
    exact ⟨b, off + n, by simp [addr_addD]⟩
  · cases ao with
    | none => simp at e
    | some ad =>
      rw [List.getElem?_drop] at hu
      by_cases hne : cs = []
      · subst hne; simp at hu
      obtain ⟨b', off', e'⟩ := h.addr hne
      simp only [Option.some.injEq] at e'
      subst e'
      simp only [Option.map_some, Option.some.injEq, addr_addD, Addr.mk.injEq] at e
      obtain ⟨rfl, rfl, -⟩ := e
      have := h.cell _ _ rfl (n + j) u hu
      rw [Nat.add_assoc]
      exact this

set_option maxRecDepth 20000 in
theorem set_blkD {W : World} {g : Nat} {cs : Array Value} {t : TypeId} {fz : Nat × Nat} (h : W.heap[g]? = some (.cells cs t fz)) (j : Nat) (v : Value) : (W.setCell ⟨g, j, none⟩ v).heap[g]? = some (.cells (cs.setIfInBounds j v) t fz) := by
  obtain ⟨hlt, hk⟩ := Array.getElem?_eq_some_iff.1 h
  show (W.heap.modify g _)[g]? = _
  rw [Array.getElem?_eq_getElem (by rw [Array.size_modify]; exact hlt), Array.getElem_modify_self, hk]
  rfl
theorem grown_setD (w : World) (g j : Nat) (v : Value) : w.grownBy (w.setCell ⟨g, j, none⟩ v) (some g) :=
  ⟨rfl, rfl, rfl, by simp [World.setCell], fun k _ hk => Below.heap_setCell _ _ _ k (fun e => hk (by rw [e]))⟩
theorem cell_of_block {W W' : World} {b j : Nat} (h : W'.heap[b]? = W.heap[b]?) : W'.cell? ⟨b, j, none⟩ = W.cell? ⟨b, j, none⟩ := by simp [World.cell?, h]
theorem frozen_of_block {W W' : World} {b j : Nat} (h : W'.heap[b]? = W.heap[b]?) : W'.frozen? ⟨b, j, none⟩ = W.frozen? ⟨b, j, none⟩ := by simp [World.frozen?, h]
def whoO (W : World) (who : Nat → Who) : Nat → Who := fun b => if b < W.heap.size then who b else .other
theorem hand_rep {W W' : World} {who : Nat → Who} (hs : W.heap.size ≤ W'.heap.size) (hk : ∀ b, b < W.heap.size → who b = .frozen → W'.heap[b]? = W.heap[b]?) {c : C} {u : Value} (H : RepC W who c u) : RepC W' (whoO W who) c u := by
  induction H with
  | v u hu => exact .v u hu
  | fz sz cap es ao us hu hc ha hw hr hl hrep ih =>
    refine .fz sz cap es ao us hu hc ha (fun b off hne e => ⟨(if_pos (hw b off hne e).2).trans (hw b off hne e).1, Nat.lt_of_lt_of_le (hw b off hne e).2 hs⟩) (fun b off e => ?_) hl ih
    by_cases hne : es = []
    · subst hne
      obtain rfl : us = [] := List.eq_nil_of_length_eq_zero (by simpa using hl.symm)
      intro j v hj
      simp at hj
    · exact range_same (hr b off e) fun _ => hk b (hw b off hne e).2 (hw b off hne e).1
theorem hand_reps {W W' : World} {who : Nat → Who} (hs : W.heap.size ≤ W'.heap.size) (hk : ∀ b, b < W.heap.size → who b = .frozen → W'.heap[b]? = W.heap[b]?) {cs : List C} {us : List Value} (H : RepCs W who cs us) : RepCs W' (whoO W who) cs us :=
  ⟨H.1, fun i c u h1 h2 => hand_rep hs hk (H.2 i c u h1 h2)⟩
theorem hand_sim {W W' : World} {who : Nat → Who} {L : Lay} {bs : List UInt8} {er : Int} (H : HSim W who L (hpC bs er)) (hs : W.heap.size ≤ W'.heap.size) (hk : ∀ b, b < W.heap.size → who b ≠ .other → W'.heap[b]? = W.heap[b]?) : HSim W' (whoO W who) L (hpC bs er) := by
  refine ⟨fun k xs hx => ?_, fun r ty sz es h => by simp [hpC] at h, fun r sz es h => by simp [hpC] at h⟩
  match k with
  | 0 =>
    obtain ⟨us, ty, h1, h2, h3⟩ := H.box 0 xs hx
    cases hx
    have hlt : L.box 0 < W.heap.size := (Array.getElem?_eq_some_iff.1 h1).1
    refine ⟨us, ty, (hk _ hlt (by rw [h2]; exact fun h => by cases h)).trans h1, (if_pos hlt).trans h2, h3.1, fun i x u e1 e2 => ?_⟩
    obtain ⟨h4, h5⟩ := h3.2 i x u e1 e2
    refine ⟨?_, h5⟩
    have hd : ∃ d, x = .c d := by
      match i with
      | 0 => cases e1; exact ⟨_, rfl⟩
      | 1 => cases e1; exact ⟨_, rfl⟩
      | 2 => cases e1; exact ⟨_, rfl⟩
      | i + 3 => simp at e1
    obtain ⟨d, rfl⟩ := hd
    exact hand_rep hs (fun b hb hf => hk b hb (by rw [hf]; exact fun h => by cases h)) h4
  | k + 1 => simp [hpC] at hx
/-- The old blocks: those of B are known, the others are not looked at. -/
def Old (B : Nat → Bool) (Ws : World) (who : Nat → Who) : Prop := ∀ b, b < Ws.heap.size → who b = if B b = true then .frozen else .other
theorem Old.step {B : Nat → Bool} {Ws W W' : World} {who who' : Nat → Who} {L L' : Lay} {h h' : Hp} (hf : Old B Ws who) (hx : Ws.heap.size ≤ W.heap.size) (S : Step .all W who L h W' who' L' h') : Old B Ws who' ∧ ∀ b, b < Ws.heap.size → W'.heap[b]? = W.heap[b]? := by
  have : ∀ b, b < Ws.heap.size → (who' b = if B b = true then .frozen else .other) ∧ W'.heap[b]? = W.heap[b]? := fun b hb => by
    have h1 := hf b hb
    by_cases hB : B b = true
    · rw [if_pos hB] at h1 ⊢
      exact ⟨(S.fro b h1 (by omega)).2, (S.fro b h1 (by omega)).1⟩
    · rw [if_neg hB] at h1 ⊢
      exact ⟨(S.oth b h1 (by omega)).2, (S.oth b h1 (by omega)).1⟩
  exact ⟨fun b hb => (this b hb).1, fun b hb => (this b hb).2⟩
def whoB (B : Nat → Bool) : Nat → Who := fun b => if B b = true then .frozen else .other
/-- A cursor at g; blocks of one's own; values that do not turn; all that was there stands. -/
structure RdS (B : Nat → Bool) (Ws W : World) (g : Nat) (bs : List UInt8) (er : Int) (hb : Nat → Prop) (xs : List C) (us : List Value) : Prop where
  ex : ∃ who L, HSim W who L (hpC bs er) ∧ L.box 0 = g ∧ Old B Ws who ∧ (∀ b, hb b → who b = .other ∧ b < W.heap.size) ∧ RepCs W who xs us
  ext : Ext Ws W
  fresh : ∀ b, hb b → Ws.heap.size ≤ b
theorem RdS.hand {B : Nat → Bool} {Ws W W' : World} {g : Nat} {bs : List UInt8} {er : Int} {hb hb' : Nat → Prop} {xs : List C} {us : List Value} (R : RdS B Ws W g bs er hb xs us) (hs : W.heap.size ≤ W'.heap.size) (ho : W'.os = W.os ∧ W'.tape = W.tape ∧ W'.output = W.output)
    (hk : ∀ b, b < W.heap.size → ¬hb b → W'.heap[b]? = W.heap[b]?) (h' : ∀ b, hb' b → (hb b ∨ W.heap.size ≤ b) ∧ b < W'.heap.size) : RdS B Ws W' g bs er hb' xs us := by
  obtain ⟨⟨who, L, H, hg, hf, hh, hr⟩, hx, hnw⟩ := R
  have hle : ∀ b, b < Ws.heap.size → b < W.heap.size := fun b h => Nat.lt_of_lt_of_le h hx.size
  refine ⟨⟨whoO W who, L, hand_sim H hs fun b h1 h2 => hk b h1 fun h => h2 (hh b h).1, hg, fun b h => (if_pos (hle b h)).trans (hf b h), fun b h => ?_, hand_reps hs (fun b h1 h2 => hk b h1 fun h => by have := (hh b h).1; rw [h2] at this; cases this) hr⟩,
    ⟨ho.1.trans hx.b.os, ho.2.1.trans hx.b.tape, ho.2.2.trans hx.b.output, Nat.le_trans hx.size hs, fun b h => ?_⟩, fun b h => (h' b h).1.elim (hnw b) (Nat.le_trans hx.size)⟩
  · obtain ⟨h1, h2⟩ := h' b h
    refine ⟨?_, h2⟩
    by_cases hlt : b < W.heap.size
    · exact (if_pos hlt).trans (hh b (h1.resolve_right (by omega))).1
    · exact if_neg hlt
  · exact (hk b (hle b h) fun h2 => absurd (hnw b h2) (by omega)).trans (hx.block h)
theorem RdS.alloc {B : Nat → Bool} {Ws W : World} {g : Nat} {bs : List UInt8} {er : Int} {hb : Nat → Prop} {xs : List C} {us : List Value} (R : RdS B Ws W g bs er hb xs us) (o : Obj) : RdS B Ws (W.alloc o) g bs er (fun b => hb b ∨ b = W.heap.size) xs us := by
  have hlt : ∀ b, hb b → b < W.heap.size := fun b h => by
    obtain ⟨⟨who, L, -, -, -, hh, -⟩, -⟩ := R
    exact (hh b h).2
  refine R.hand (by simp) ⟨rfl, rfl, rfl⟩ (fun b h1 _ => by simp [World.alloc, -World.alloc_eq, Array.getElem?_push, Nat.ne_of_lt h1]) fun b hb2 => ?_
  rcases hb2 with h | rfl
  · exact ⟨.inl h, by have := hlt b h; simp; omega⟩
  · exact ⟨.inr (Nat.le_refl _), by simp⟩
theorem RdS.lt {B : Nat → Bool} {Ws W : World} {g : Nat} {bs : List UInt8} {er : Int} {hb : Nat → Prop} {xs : List C} {us : List Value} (R : RdS B Ws W g bs er hb xs us) {b : Nat} (h : hb b) : b < W.heap.size := by
  obtain ⟨⟨who, L, -, -, -, hh, -⟩, -⟩ := R
  exact (hh b h).2
theorem own_at {W W' : World} {base : Nat} {e : TypeId} {size n : Nat} {v : Value} {xs : List Value} (h : W.ownsRow base e size v n xs) (hb : ∀ b, v.ownBlock = some b → W'.heap[b]? = W.heap[b]?) : W'.ownsRow base e size v n xs := by
  refine ⟨h.1, ?_⟩
  rcases h.2 with h3 | ⟨g, cap, cur, rfl, h4, h5, h6⟩
  · exact .inl h3
  · exact .inr ⟨g, cap, cur, rfl, h4, by rw [hb g rfl]; exact h5, h6⟩
theorem alloc_oldD {W : World} {o : Obj} {b : Nat} (h : b < W.heap.size) : (W.alloc o).heap[b]? = W.heap[b]? := by simp [World.alloc, -World.alloc_eq, Array.getElem?_push, Nat.ne_of_lt h]
/-- The cells that a function's value has. -/
theorem fn_cells {W : World} {who : Nat → Who} {x : Fn} {us : List Value} (h : RepCs W who (enc tF x) us) : ∃ a1 c1 a2 c2 a3 c3 a4 c4 a5 c5 a6 c6 a7 c7 a8 c8 a9 c9, us = [.string ⟨⟨x.1⟩⟩, .bool x.2.1, .slice a1 x.2.2.1.length c1, .slice a2 x.2.2.2.1.length c2, .slice a3 x.2.2.2.2.1.length c3, .slice a4 x.2.2.2.2.2.1.length c4,
    .slice a5 x.2.2.2.2.2.2.1.length c5, .slice a6 x.2.2.2.2.2.2.2.1.length c6, .slice a7 x.2.2.2.2.2.2.2.2.1.length c7, .slice a8 x.2.2.2.2.2.2.2.2.2.1.length c8, .slice a9 x.2.2.2.2.2.2.2.2.2.2.length c9] := by
  obtain ⟨nm, inn, ou, pa, re, lo, co, li, no, at', lv⟩ := x
  have hl := h.1
  have hen : ∀ (σ : Ty) (l : List (Data σ)), (encL σ l).length = l.length := fun σ l => List.length_map _
  obtain ⟨v0, v1, v2, v3, v4, v5, v6, v7, v8, v9, v10, rfl⟩ : ∃ v0 v1 v2 v3 v4 v5 v6 v7 v8 v9 v10, us = [v0, v1, v2, v3, v4, v5, v6, v7, v8, v9, v10] := by
    match us, hl with
    | [v0, v1, v2, v3, v4, v5, v6, v7, v8, v9, v10], _ => exact ⟨v0, v1, v2, v3, v4, v5, v6, v7, v8, v9, v10, rfl⟩
  have sl : ∀ (sz : Nat) (σ : Ty) (l : List (Data σ)) (v : Value), RepC W who (.fz sz (encL σ l)) v → ∃ a c, v = .slice a l.length c := fun sz σ l v hr => by
    obtain ⟨n, hn⟩ : ∃ n, n = encL σ l := ⟨_, rfl⟩
    have h1 := hen σ l
    rw [← hn] at hr h1
    cases hr with
    | fz _ cap _ ao us => exact ⟨ao, cap, by rw [h1]⟩
  have k0 := h.2 0 _ v0 rfl rfl
  have k1 := h.2 1 _ v1 rfl rfl
  obtain ⟨a1, c1, rfl⟩ := sl 1 tI ou v2 (h.2 2 _ v2 rfl rfl)
  obtain ⟨a2, c2, rfl⟩ := sl 1 tI pa v3 (h.2 3 _ v3 rfl rfl)
  obtain ⟨a3, c3, rfl⟩ := sl 1 tI re v4 (h.2 4 _ v4 rfl rfl)
  obtain ⟨a4, c4, rfl⟩ := sl 1 tI lo v5 (h.2 5 _ v5 rfl rfl)
  obtain ⟨a5, c5, rfl⟩ := sl 2 tC co v6 (h.2 6 _ v6 rfl rfl)
  obtain ⟨a6, c6, rfl⟩ := sl 1 tI li v7 (h.2 7 _ v7 rfl rfl)
  obtain ⟨a7, c7, rfl⟩ := sl 7 tN no v8 (h.2 8 _ v8 rfl rfl)
  obtain ⟨a8, c8, rfl⟩ := sl 1 tI at' v9 (h.2 9 _ v9 rfl rfl)
  obtain ⟨a9, c9, rfl⟩ := sl 4 tS lv v10 (h.2 10 _ v10 rfl rfl)
  cases k0
  cases k1
  exact ⟨a1, c1, a2, c2, a3, c3, a4, c4, a5, c5, a6, c6, a7, c7, a8, c8, a9, c9, rfl⟩
/-- What a call on the cursor leaves. -/
theorem RdS.next {B : Nat → Bool} {Ws W : World} {g : Nat} {bs bs' : List UInt8} {er er' : Int} {hb : Nat → Prop} {xs : List C} {us : List Value} {f : FuncId} {args : List T} {res : T} (R : RdS B Ws W g bs er hb xs us)
    (hc : callW Tryz.prog annX plansX f (⟨.one, [.ptr 0 0]⟩ :: args) (hpC bs er) = some (res, hpC bs' er')) {vs : List Value} (hl : args.length = vs.length)
    (hr : ∀ (who : Nat → Who) (L : Lay) (i : Nat) t v, args[i]? = some t → vs[i]? = some v → RepT W who L (hpC bs er) t v) :
    Calls Tryz.prog f (.pointer (some ⟨g, 0, none⟩) :: vs).toArray W fun e W' => ∃ v, e = .returned v ∧
      (∃ who L, HSim W' who L (hpC bs' er') ∧ L.box 0 = g ∧ Old B Ws who ∧ (∀ b, hb b → who b = .other ∧ b < W'.heap.size) ∧ RepCs W' who xs us ∧ RepT W' who L (hpC bs' er') res v) ∧ Ext Ws W' ∧ (∀ b, hb b → W'.heap[b]? = W.heap[b]?) := by
  obtain ⟨⟨who, L, H, hg, hf, hh, hrep⟩, hx, hnw⟩ := R
  subst hg
  refine (cur_m hc H hl (hr who L)).mono fun e W' ⟨v, who', L', he, hv, H', S⟩ => ?_
  refine ⟨v, he, ⟨who', L', H', S.box 0 (by simp [hpC]), (hf.step hx.size S).1, fun b h => ⟨(S.oth b (hh b h).1 (hh b h).2).2, Nat.lt_of_lt_of_le (hh b h).2 S.size⟩, S.repCs hrep, hv⟩,
    ⟨S.os.trans hx.b.os, S.tape.trans hx.b.tape, S.output.trans hx.b.output, Nat.le_trans hx.size S.size, fun b h => ((hf.step hx.size S).2 b h).trans (hx.block h)⟩, fun b h => (S.oth b (hh b h).1 (hh b h).2).1⟩
theorem RdS.err {B : Nat → Bool} {Ws W : World} {g : Nat} {bs : List UInt8} {er : Int} {hb : Nat → Prop} {xs : List C} {us : List Value} (R : RdS B Ws W g bs er hb xs us) :
    Calls Tryz.prog 14 #[.pointer (some ⟨g, 0, none⟩)] W fun e W' => e = .returned (.int .i64 er) ∧ RdS B Ws W' g bs er hb xs us ∧ (∀ b, hb b → W'.heap[b]? = W.heap[b]?) := by
  refine (R.next w_Err (vs := []) rfl fun _ _ => no_args).mono fun e W' ⟨v, he, ⟨who, L, H, hg, hf, hh, hr, hv⟩, hx, hk⟩ => ?_
  rw [rep_i64_inv hv] at he
  exact ⟨he, ⟨⟨who, L, H, hg, hf, hh, hr⟩, hx, R.fresh⟩, hk⟩
theorem RdS.num {B : Nat → Bool} {Ws W : World} {g : Nat} {bs bs' : List UInt8} {er er' m n : Int} {hb : Nat → Prop} {xs : List C} {us : List Value} (R : RdS B Ws W g bs er hb xs us) (h : S_cursor_Cursor_Num bs true er m = some (bs', (true, (er', (n, ()))))) :
    Calls Tryz.prog 96 #[.pointer (some ⟨g, 0, none⟩), .int .i64 m] W fun e W' => e = .returned (.int .i64 n) ∧ RdS B Ws W' g bs' er' hb xs us ∧ (∀ b, hb b → W'.heap[b]? = W.heap[b]?) := by
  refine (R.next (w_Num h) (vs := [.int .i64 m]) rfl fun who L i t v h1 h2 => ?_).mono fun e W' ⟨v, he, ⟨who, L, H, hg, hf, hh, hr, hv⟩, hx, hk⟩ => ?_
  · cases i with
    | zero => cases h1; cases h2; exact rep_i64
    | succ i => simp at h1
  · rw [rep_i64_inv hv] at he
    exact ⟨he, ⟨⟨who, L, H, hg, hf, hh, hr⟩, hx, R.fresh⟩, hk⟩
theorem RdS.take {B : Nat → Bool} {Ws W : World} {g : Nat} {bs bs' : List UInt8} {er er' : Int} {x : Fn} {hb : Nat → Prop} {xs : List C} {us : List Value} (R : RdS B Ws W g bs er hb xs us) (h : S_fnc_Take bs true er = some (bs', true, er', x.1, x.2.1, x.2.2.1, x.2.2.2.1, x.2.2.2.2.1, x.2.2.2.2.2.1, x.2.2.2.2.2.2.1, x.2.2.2.2.2.2.2.1, x.2.2.2.2.2.2.2.2.1, x.2.2.2.2.2.2.2.2.2.1, x.2.2.2.2.2.2.2.2.2.2, ())) :
    Calls Tryz.prog 13 #[.pointer (some ⟨g, 0, none⟩)] W fun e W' => ∃ cs : List Value, e = .returned (.agg cs.toArray) ∧ RdS B Ws W' g bs' er' hb (xs ++ enc tF x) (us ++ cs) ∧ (∃ who, RepCs W' who (enc tF x) cs) ∧ (∀ b, hb b → W'.heap[b]? = W.heap[b]?) := by
  refine (R.next (w_Take h) (vs := []) rfl fun _ _ => no_args).mono fun e W' ⟨v, he, ⟨who, L, H, hg, hf, hh, hr, hv⟩, hx, hk⟩ => ?_
  obtain ⟨cs, rfl, h1, h2⟩ := hv
  have hrc : RepCs W' who (enc tF x) cs := ⟨by simpa [fnX] using h1, fun i c u h3 h4 => (h2 i (.c c) u (by simp [fnX, h3]) h4).1⟩
  exact ⟨cs, he, ⟨⟨who, L, H, hg, hf, hh, hr.append hrc⟩, hx, R.fresh⟩, ⟨who, hrc⟩, hk⟩
theorem RdS.drop {B : Nat → Bool} {Ws W : World} {g : Nat} {bs : List UInt8} {er : Int} {hb : Nat → Prop} {xs ys : List C} {us cs : List Value} (R : RdS B Ws W g bs er hb (xs ++ ys) (us ++ cs)) (hl : xs.length = us.length) : RdS B Ws W g bs er hb xs us := by
  obtain ⟨⟨who, L, H, hg, hf, hh, hr⟩, hx, hnw⟩ := R
  refine ⟨⟨who, L, H, hg, hf, hh, ?_⟩, hx, hnw⟩
  have := hr.take xs.length
  rwa [List.take_left, hl, List.take_left] at this
theorem RdS.new {B : Nat → Bool} {Ws Wa : World} {hb : Nat → Prop} {bs : List UInt8} {v : Value} (hx : Ext Ws Wa) (hbb : ∀ b, hb b → Ws.heap.size ≤ b ∧ b < Wa.heap.size) (hl : bs.length ≤ 140737488351232) (hr : RepC Ws (whoB B) (.fz 1 (encL tY bs)) v) :
    Calls Tryz.prog 10 #[v] Wa fun e W' => ∃ g, e = .returned (.pointer (some ⟨g, 0, none⟩)) ∧ RdS B Ws W' g bs 0 hb [] [] ∧ (∀ b, hb b → W'.heap[b]? = Wa.heap[b]?) := by
  have hr1 : RepC Wa (whoO Ws (whoB B)) (.fz 1 (encL tY bs)) v := hand_rep hx.size (fun b h1 _ => hx.block h1) hr
  refine ((callW_ok (A := annX) base_ok prog_ok _ _ _ _ _ (w_New hl)).2 Wa (whoO Ws (whoB B)) L0 [v] ⟨fun k xs h => by simp at h, fun r ty sz es h => by simp at h, fun r sz es h => by simp at h⟩ rfl fun i t u h1 h2 => ?_).mono fun e W' ⟨v', who', L', he, hv, H', S⟩ => ?_
  · cases i with
    | zero => cases h1; cases h2; exact ⟨_, rfl, hr1⟩
    | succ i => simp at h1
  · obtain ⟨x, hx1, hx2⟩ := hv
    cases hx1
    obtain ⟨_, rfl⟩ := hx2
    have hO : Old B Ws (whoO Ws (whoB B)) := fun b h => if_pos h
    refine ⟨L'.box 0, he, ⟨⟨who', L', H', rfl, (hO.step hx.size S).1, fun b h => ?_, ⟨rfl, fun i c u h1 _ => by simp at h1⟩⟩,
      ⟨S.os.trans hx.b.os, S.tape.trans hx.b.tape, S.output.trans hx.b.output, Nat.le_trans hx.size S.size, fun b h => ((hO.step hx.size S).2 b h).trans (hx.block h)⟩, fun b h => (hbb b h).1⟩, fun b h => ?_⟩
    · have := hbb b h
      exact ⟨(S.oth b (if_neg (by omega)) this.2).2, Nat.lt_of_lt_of_le this.2 S.size⟩
    · have := hbb b h
      exact (S.oth b (if_neg (by omega)) this.2).1
/-- A slice in a world of which not every block is known. -/
theorem repC_inW {W : World} {who : Nat → Who} {sz cap : Nat} {es : List (List C)} {ao : Option Addr} {us : List Value} (h0 : 0 < sz) (hu : ∀ e ∈ es, e.length = sz) (hc : es.length ≤ cap) (hC : Cells W ao us) (hw : ∀ b off, ao = some ⟨b, off, none⟩ → who b = .frozen) (hr : RepCs W who es.flatten us) : RepC W who (.fz sz es) (.slice ao es.length cap) := by
  have hne : es ≠ [] → us ≠ [] := fun he hn => by
    subst hn
    have h1 := hr.1
    rw [flatten_len es hu] at h1
    have : 0 < es.length := List.length_pos_iff.2 he
    have : 0 < es.length * sz := Nat.mul_pos this h0
    simp at h1
    omega
  exact .fz sz cap es ao us hu hc (fun he => hC.addr (hne he)) (fun b off he ha => ⟨hw b off ha, Cells.lt (ha ▸ hC) (hne he)⟩) (fun b off ha j v hj => hC.cell b off ha j v hj) hr.1 hr.2
/-- Functions, one behind the other. -/
def fncsP : Nat → List UInt8 → Pr (List Fn)
  | 0, l => .ok ([], l)
  | n + 1, l =>
    match fncP l with
    | .error e => .error e
    | .ok (p, l) =>
    match fncsP n l with
    | .ok (r, l) => .ok (p :: r, l)
    | .error e => .error e
/-- A program's bytes. -/
def decodeP (b : List UInt8) : Except Int (List Fn) :=
  if 4 ≤ b.length ∧ b.take 4 = [73, 78, 76, 49] then
    match numP 40 (b.drop 4) with
    | .error e => .error e
    | .ok (n, l) => if n = 0 then .error 6 else
    match fncsP n.toNat l with
    | .error e => .error e
    | .ok (fs, l) => if (fs.map (·.1)).Nodup then (if l = [] then .ok fs else .error 4) else .error 7
  else .error 5
end Go.Proofs.YtkdnbnkbnegckaaGreat
namespace Go.Proofs.YtkdnbnkbnegckaaGreat
open Go.RowKit
set_option maxRecDepth 100000
def i_law16_Small : Tpl := ⟨[], [], [(.agg, [.hole (.sl 11 tF)])]⟩
def o_law16_Small : Tpl := ⟨[], [], [(.one, [.hole .bool])]⟩
noncomputable def S_law16_Small (a0 : LF) : Option (Bool × Unit) := Sof Tryz.prog annX plansX 22 i_law16_Small o_law16_Small (a0, ())
noncomputable def c_law16_Small : Ctr := ⟨22, i_law16_Small, o_law16_Small, fun d => S_law16_Small d.1⟩
theorem k_law16_Small : (c_law16_Small).ok Tryz.prog annX plansX := ctr_ok (tin := i_law16_Small) (tout := o_law16_Small)
def i_file_called : Tpl := ⟨[], [], [(.agg, [.hole (.sl 11 tF)])]⟩
def o_file_called : Tpl := ⟨[], [], [(.one, [.hole (.sl 1 .str)])]⟩
noncomputable def S_file_called (a0 : LF) : Option ((List LB) × Unit) := Sof Tryz.prog annX plansX 77 i_file_called o_file_called (a0, ())
noncomputable def c_file_called : Ctr := ⟨77, i_file_called, o_file_called, fun d => S_file_called d.1⟩
theorem k_file_called : (c_file_called).ok Tryz.prog annX plansX := ctr_ok (tin := i_file_called) (tout := o_file_called)
def i_names_Unlike : Tpl := ⟨[], [], [(.one, [.hole (.sl 1 .str)])]⟩
def o_names_Unlike : Tpl := ⟨[], [], [(.one, [.hole .bool])]⟩
theorem strsOf_enc : ∀ {l : List LB}, strsOf (encL .str l) = some l
 | [] => rfl
 | s :: l => by
  show (strsOf (encL .str l)).map (s :: ·) = _
  rw [strsOf_enc]
  rfl
theorem unlikeX_enc {l : List LB} {h : Hp} (h1 : l.length ≤ 1000000) (h2 : (l.all fun s => decide (s.length ≤ 1000000)) = true) : unlikeX [⟨.one, [.c (.fz 1 (encL .str l))]⟩] h = some (⟨.one, [.c (.v (.bool (decide l.Nodup)))]⟩, h) := by
 simp only [unlikeX, strsOf_enc]
 exact if_pos ⟨h1, h2⟩
noncomputable def S_names_Unlike (a0 : List LB) : Option (Bool × Unit) := chk (leN a0.length 1000000 && a0.all fun s => decide (s.length ≤ 1000000)) (some (decide a0.Nodup, ()))
noncomputable def c_names_Unlike : Ctr := ⟨76, i_names_Unlike, o_names_Unlike, fun d => S_names_Unlike d.1⟩
theorem k_names_Unlike : (c_names_Unlike).ok Tryz.prog annX plansX := fun d q h args0 hw => by
 obtain ⟨h1, h2⟩ := chk_ok h
 cases h2
 refine callW_base ?_
 rw [hw]
 rw [Bool.and_eq_true] at h1
 exact unlikeX_enc (leN_ok.1 h1.1) h1.2
def i_file_Can : Tpl := ⟨[], [], [(.agg, [.hole (.sl 11 tF)])]⟩
def o_file_Can : Tpl := ⟨[], [], [(.one, [.hole tI])]⟩
noncomputable def S_file_Can (a0 : LF) : Option (Int × Unit) := Sof Tryz.prog annX plansX 26 i_file_Can o_file_Can (a0, ())
noncomputable def c_file_Can : Ctr := ⟨26, i_file_Can, o_file_Can, fun d => S_file_Can d.1⟩
theorem k_file_Can : (c_file_Can).ok Tryz.prog annX plansX := ctr_ok (tin := i_file_Can) (tout := o_file_Can)
def i_cursor_Cursor_End : Tpl := ⟨[], [[.hole (.sl 1 tY), .hole .bool, .hole tI]], [(.one, [.stat (.ptr 0 0)])]⟩
def o_cursor_Cursor_End : Tpl := ⟨[], [[.hole (.sl 1 tY), .hole .bool, .hole tI]], [(.one, [.hole tI])]⟩
noncomputable def S_cursor_Cursor_End (a0 : LB) (a1 : Bool) (a2 : Int) : Option (LB × (Bool × (Int × (Int × Unit)))) := Sof Tryz.prog annX plansX 130 i_cursor_Cursor_End o_cursor_Cursor_End (a0, (a1, (a2, ())))
noncomputable def c_cursor_Cursor_End : Ctr := ⟨130, i_cursor_Cursor_End, o_cursor_Cursor_End, fun d => S_cursor_Cursor_End d.1 d.2.1 d.2.2.1⟩
theorem k_cursor_Cursor_End : (c_cursor_Cursor_End).ok Tryz.prog annX plansX := ctr_ok (tin := i_cursor_Cursor_End) (tout := o_cursor_Cursor_End)
end Go.Proofs.YtkdnbnkbnegckaaGreat
namespace Go.Proofs.YtkdnbnkbnegckaaGreat
open Go.RowKit
set_option maxRecDepth 100000
set_option linter.unusedVariables false
noncomputable def M_law16_Small (N : Nat) (l_0 : LF) : Option (Bool × Unit) :=
 joinK (δ := Unit) (qS (eF l_0) <|
  iter (fun (d1 : (Int × Unit)) again2 =>
   joinK (δ := Unit) (cnd (ltI d1.1 (vlen (eF l_0)))
     (cnd (ltI d1.1 50)
      (qS (eF l_0) <|
      qI d1.1 <|
      leftK ())
      (rightK <| qS (eF l_0) <|
      leftK ()))
     (rightK <| qS (eF l_0) <|
     leftK ()))
   <| fun x3 =>
   chk (leI 0 d1.1) <|
   getE tF (eF l_0) (natI d1.1) <| fun p4 =>
   dI p4.2.2.1 <| fun l5 =>
   dI p4.2.2.2.1 <| fun l6 =>
   dI p4.2.2.2.2.1 <| fun l7 =>
   dI p4.2.2.2.2.2.1 <| fun l8 =>
   dC p4.2.2.2.2.2.2.1 <| fun l9 =>
   dI p4.2.2.2.2.2.2.2.1 <| fun l10 =>
   dN p4.2.2.2.2.2.2.2.2.1 <| fun l11 =>
   dI p4.2.2.2.2.2.2.2.2.2.1 <| fun l12 =>
   dS p4.2.2.2.2.2.2.2.2.2.2 <| fun l13 =>
   bnd (S_law15_Small p4.1 p4.2.1 l5 l6 l7 l8 l9 l10 l11 l12 l13) <| fun p14 =>
   cnd (notB p14.1)
    (rightK <| some (false, ()))
    (qS (eF l_0) <|
    again2 ((wrp .i64 (addI d1.1 1)), ()))) N (0, ()))
 <| fun x15 =>
 some ((leI (vlen (eF l_0)) 50), ())
noncomputable def q_law16_Small : Lift := ⟨tyX, look2 .todo (α := LoopAs) (.n 22 [(2, (.as ⟨[], [[.fix]], (.one, [.junk]) :: (.one, [.stat (.ptr 0 0)]) :: (.one, [.junk]) :: (.one, [.hole tI]) :: rp 22 (.one, [.junk]) ([])⟩)), (1012293, (.as ⟨[], [[.fix]], (.one, [.junk]) :: (.one, [.stat (.ptr 0 0)]) :: (.one, [.junk]) :: (.one, [.fix]) :: rp 22 (.one, [.junk]) ([])⟩)), (1016391, (.as ⟨[], [[.fix]], (.one, [.junk]) :: (.one, [.stat (.ptr 0 0)]) :: rp 24 (.one, [.junk]) ([])⟩))] .o .o), [c_law15_Small], bsX⟩
theorem u_law16_Small {N : Nat} {a0 : LF} {q : (Bool × Unit)} (h : M_law16_Small N a0 = some q) : S_law16_Small a0 = some q :=
 Sof_of (Q := q_law16_Small) (N := N) (n := 3) (f := 22) (tin := i_law16_Small) (tout := o_law16_Small) (d := (a0, ())) (all1 k_law15_Small all0) bs_ok (by kernel_rfl) (by kernel_rfl) (by kernel_rfl) (Eq.trans (b := M_law16_Small N a0) (by kernel_rfl) h)

noncomputable def M_file_called (N : Nat) (l_0 : LF) : Option ((List LB) × Unit) :=
 decL .str [] <| fun l1 =>
 dF l_0 <| fun l2 =>
 qS (eF l_0) <|
 qI (vlen (eF l_0)) <|
 iter (fun (d3 : ((List LB) × (LF × (Int × Unit)))) again4 =>
  cnd (ltI d3.2.2.1 (vlen (eF l_0)))
   (chk (leI 0 d3.2.2.1) <|
   getE tF (eF l_0) (natI d3.2.2.1) <| fun p5 =>
   qN (vnum (encL .str d3.1)) <|
   chk (room (vnum (encL .str d3.1)) (vnum (vcut [[(C.v (Go.Value.string (ByteArray.mk (Array.mk p5.1))))]] 0 1)) 16) <|
   decL .str (vapp (encL .str d3.1) (vcut [[(C.v (Go.Value.string (ByteArray.mk (Array.mk p5.1))))]] 0 1)) <| fun l6 =>
   dF d3.2.1 <| fun l7 =>
   chk (eqN (addN (vnum (encL .str d3.1)) (vnum (vcut [[(C.v (Go.Value.string (ByteArray.mk (Array.mk p5.1))))]] 0 1))) (vnum (vapp (encL .str d3.1) (vcut [[(C.v (Go.Value.string (ByteArray.mk (Array.mk p5.1))))]] 0 1)))) <|
   qS (eF l_0) <|
   qI (vlen (eF l_0)) <|
   again4 (l6, (l7, ((wrp .i64 (addI d3.2.2.1 1)), ()))))
   (chk (leN (addN 0 (vnum (encL .str d3.1))) (vnum (encL .str d3.1))) <|
   decL .str (vcut (encL .str d3.1) 0 (vnum (encL .str d3.1))) <| fun l8 =>
   some (l8, ()))) N (l1, (l2, (0, ())))
noncomputable def q_file_called : Lift := ⟨tyX, look2 .todo (α := LoopAs) (.n 77 [(3, (.as ⟨[.mu 9 1 .str], [[.hole (.sl 11 tF)]], (.one, [.junk]) :: (.one, [.junk]) :: (.one, [.junk]) :: (.one, [.own 0]) :: (.one, [.junk]) :: (.one, [.junk]) :: (.one, [.junk]) :: (.one, [.fix]) :: (.one, [.fix]) :: (.one, [.hole tI]) :: rp 10 (.one, [.junk]) ([])⟩))] .o .o), [], bsX⟩
theorem u_file_called {N : Nat} {a0 : LF} {q : ((List LB) × Unit)} (h : M_file_called N a0 = some q) : S_file_called a0 = some q :=
 Sof_of (Q := q_file_called) (N := N) (n := 3) (f := 77) (tin := i_file_called) (tout := o_file_called) (d := (a0, ())) all0 bs_ok (by kernel_rfl) (by kernel_rfl) (by kernel_rfl) (Eq.trans (b := M_file_called N a0) (by kernel_rfl) h)

noncomputable def M_file_Can (N : Nat) (l_0 : LF) : Option (Int × Unit) :=
 joinK (δ := Unit) (cnd (ltI (vlen (eF l_0)) 1)
   (rightK <| some (6, ()))
   (cnd (ltI 40 (vlen (eF l_0)))
    (rightK <| some (6, ()))
    (qS (eF l_0) <|
    leftK ())))
 <| fun x1 =>
 dF l_0 <| fun l2 =>
 qS (eF l_0) <|
 qI (vlen (eF l_0)) <|
 iter (fun (d3 : (LF × (Int × Unit))) again4 =>
  cnd (ltI d3.2.1 (vlen (eF l_0)))
   (chk (leI 0 d3.2.1) <|
   getE tF (eF l_0) (natI d3.2.1) <| fun p5 =>
   dI p5.2.2.1 <| fun l6 =>
   dI p5.2.2.2.1 <| fun l7 =>
   dI p5.2.2.2.2.1 <| fun l8 =>
   dI p5.2.2.2.2.2.1 <| fun l9 =>
   dC p5.2.2.2.2.2.2.1 <| fun l10 =>
   dI p5.2.2.2.2.2.2.2.1 <| fun l11 =>
   dN p5.2.2.2.2.2.2.2.2.1 <| fun l12 =>
   dI p5.2.2.2.2.2.2.2.2.2.1 <| fun l13 =>
   dS p5.2.2.2.2.2.2.2.2.2.2 <| fun l14 =>
   bnd (S_fnc_Can p5.1 p5.2.1 l6 l7 l8 l9 l10 l11 l12 l13 l14) <| fun p15 =>
   cnd (notB (eqI p15.1 0))
    (some (p15.1, ()))
    (dF d3.1 <| fun l16 =>
    qS (eF l_0) <|
    qI (vlen (eF l_0)) <|
    again4 (l16, ((wrp .i64 (addI d3.2.1 1)), ()))))
   (dF d3.1 <| fun l17 =>
   bnd (S_file_called l17) <| fun p18 =>
   decL .str (encL .str p18.1) <| fun l19 =>
   bnd (S_names_Unlike l19) <| fun p20 =>
   cnd (notB p20.1)
    (some (7, ()))
    (some (0, ())))) N (l2, (0, ()))
noncomputable def q_file_Can : Lift := ⟨tyX, look2 .todo (α := LoopAs) (.n 26 [(5, (.as ⟨[], [[.hole (.sl 11 tF)]], (.one, [.junk]) :: (.one, [.stat (.ptr 0 0)]) :: rp 15 (.one, [.junk]) ((.one, [.fix]) :: (.one, [.fix]) :: (.one, [.hole tI]) :: rp 13 (.one, [.junk]) ([]))⟩)), (1016389, (.as ⟨[], [[.fix]], (.one, [.junk]) :: (.one, [.stat (.ptr 0 0)]) :: rp 31 (.one, [.junk]) ([])⟩))] .o .o), [c_fnc_Can, c_file_called, c_names_Unlike], bsX⟩
theorem u_file_Can {N : Nat} {a0 : LF} {q : (Int × Unit)} (h : M_file_Can N a0 = some q) : S_file_Can a0 = some q :=
 Sof_of (Q := q_file_Can) (N := N) (n := 3) (f := 26) (tin := i_file_Can) (tout := o_file_Can) (d := (a0, ())) (all1 k_fnc_Can (all1 k_file_called (all1 k_names_Unlike all0))) bs_ok (by kernel_rfl) (by kernel_rfl) (by kernel_rfl) (Eq.trans (b := M_file_Can N a0) (by kernel_rfl) h)

noncomputable def M_cursor_Cursor_End (N : Nat) (l_0 : LB) (b_1 : Bool) (n_2 : Int) : Option (LB × (Bool × (Int × (Int × Unit)))) :=
 dY l_0 <| fun l1 =>
 bnd (S_cursor_Cursor_Left l1 b_1 n_2) <| fun p2 =>
 cnd (ltI 0 p2.2.2.2.1)
  (dY p2.1 <| fun l3 =>
  some (l3, (p2.2.1, (p2.2.2.1, (4, ())))))
  (dY p2.1 <| fun l4 =>
  bnd (S_cursor_Cursor_Err l4 p2.2.1 p2.2.2.1) <| fun p5 =>
  dY p5.1 <| fun l6 =>
  some (l6, (p5.2.1, (p5.2.2.1, (p5.2.2.2.1, ())))))
noncomputable def q_cursor_Cursor_End : Lift := ⟨tyX, look2 .todo (α := LoopAs) (.o), [c_cursor_Cursor_Err, c_cursor_Cursor_Left], bsX⟩
theorem u_cursor_Cursor_End {N : Nat} {a0 : LB} {a1 : Bool} {a2 : Int} {q : (LB × (Bool × (Int × (Int × Unit))))} (h : M_cursor_Cursor_End N a0 a1 a2 = some q) : S_cursor_Cursor_End a0 a1 a2 = some q :=
 Sof_of (Q := q_cursor_Cursor_End) (N := N) (n := 3) (f := 130) (tin := i_cursor_Cursor_End) (tout := o_cursor_Cursor_End) (d := (a0, (a1, (a2, ())))) (all1 k_cursor_Cursor_Err (all1 k_cursor_Cursor_Left all0)) bs_ok (by kernel_rfl) (by kernel_rfl) (by kernel_rfl) (Eq.trans (b := M_cursor_Cursor_End N a0 a1 a2) (by kernel_rfl) h)

end Go.Proofs.YtkdnbnkbnegckaaGreat

