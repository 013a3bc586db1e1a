/- The second machine's operations that leave the heap as it is: they yield what the first machine's yield, in every world in which what they read is as it was. -/
import Derived.Test.YtkdnbnkbnegckaaGreatDoorEvB
import Derived.Laws.BytesString
namespace Go.Proofs.YtkdnbnkbnegckaaGreatDoor
open Go.RowKit

def depsX : X → List Nat × List Nat
  | .ptr k _ => ([k], [])
  | .ep r _ _ | .own r _ _ => ([], [r])
  | _ => ([], [])
def deps (s : S) (o : Oper) : List Nat × List Nat :=
  match o.op with
  | .load _ a | .convert _ _ a => (s.x1 a).elim ([], []) depsX
  | _ => ([], [])

structure Same (W : World) (who : Nat → Who) (L : Lay) (D : List Nat × List Nat) (W' : World) : Prop where
  fro : ∀ b, who b = .frozen → b < W.heap.size → W'.heap[b]? = W.heap[b]?
  box : ∀ k ∈ D.1, W'.heap[L.box k]? = W.heap[L.box k]?
  row : ∀ r ∈ D.2, ∀ g, (L.row r).ownBlock = some g → W'.heap[g]? = W.heap[g]?
theorem Same.rf (W : World) (who : Nat → Who) (L : Lay) (D : List Nat × List Nat) : Same W who L D W := ⟨fun _ _ _ => rfl, fun _ _ => rfl, fun _ _ _ _ => rfl⟩

section
variable {P : Program} {W : World} {who : Nat → Who} {L : Lay}

theorem part_rep {h : Hp} {t : TypeId} {xs : List X} {us : List Value} {off : Nat} {x : T} (hx : RepXs W who L h xs us) (hp : partT P t xs off = some x) :
    ∃ u, RepT W who L h x u ∧ (part t us.toArray off).run P = (fun W' => .ok u W') ∧ ∀ W' b o, W'.rangeAt b o us → (loadVar t ⟨b, o + off, none⟩).run P W' = .ok u W' := by
  unfold partT at hp
  cases ha : aggT P t with
  | none => simp [ha] at hp
  | some ag =>
    cases hn : szT P t with
    | none => simp [ha, hn] at hp
    | some n =>
      simp only [ha, hn, Option.bind_some] at hp
      split at hp
      · rename_i hle
        have hk := (hx.drop off).take n
        have hlen : ((us.drop off).take n).length = n := by have := hx.1; simp; omega
        unfold szT at hn
        cases hq : P.info? t with
        | none => simp [hq] at hn
        | some i =>
          have hsz : i.size = n := by simpa [hq] using hn
          cases ag with
          | true =>
            simp only [mkT, if_true, Option.some.injEq] at hp
            subst hp
            obtain ⟨d, hd, hrow⟩ : ∃ d, P.underlying t = some d ∧ d.isRow = true := by
              unfold aggT at ha
              split at ha
              · rename_i fs h1; exact ⟨_, h1, rfl⟩
              · rename_i n e h1; exact ⟨_, h1, rfl⟩
              · simp at ha
              · cases ha
            refine ⟨.agg ((us.drop off).take n).toArray, ⟨_, rfl, hk⟩, funext fun W' => ?_, fun W' b o hr => ?_⟩
            · have hagg : (isAgg t).run P W' = .ok true W' := by
                unfold isAgg
                rw [Sem.run_bind, run_underlying hd W']
                cases d <;> simp_all [TypeDesc.isRow]
              simp only [part, Sem.run_bind, hagg, Result.andThen_ok, if_true, sizeOf, typeInfo, run_program, hq, Sem.run_pure, hsz]
              congr 2
              apply Array.ext'
              simp [List.take_drop, Nat.add_comm]
            · exact run_loadVar_mid W' b (o + off) t _ d (range_take (range_drop hr off) n) hd hrow (by rw [hq, hlen]; simpa using hsz)
          | false =>
            simp only [mkT, if_false, Bool.false_eq_true] at hp
            obtain ⟨d, hd, hrow⟩ : ∃ d, P.underlying t = some d ∧ d.isRow = false := by
              unfold aggT at ha
              split at ha
              · simp at ha
              · simp at ha
              · rename_i d h1 h2 h3; refine ⟨d, h3, ?_⟩; cases d <;> simp_all [TypeDesc.isRow]
              · cases ha
            split at hp
            · rename_i y hy
              simp only [Option.some.injEq] at hp
              subst hp
              have hn1 : n = 1 := by
                have := congrArg List.length hy
                simp at this
                omega
              subst hn1
              obtain ⟨u, hu⟩ : ∃ u, (us.drop off).take 1 = [u] := by
                cases hq2 : (us.drop off).take 1 with
                | nil => rw [hq2] at hlen; simp at hlen
                | cons u l => rw [hq2] at hlen; exact ⟨u, by simp at hlen; rw [hlen]⟩
              rw [hy, hu] at hk
              have hu0 : us[off]? = some u := by
                have : ((us.drop off).take 1)[0]? = some u := by rw [hu]; rfl
                have := (take_some this).1
                simpa [List.getElem?_drop] using this
              refine ⟨u, ⟨y, rfl, (hk.2 0 y u rfl rfl).1⟩, funext fun W' => ?_, fun W' b o hr => ?_⟩
              · have hagg : (isAgg t).run P W' = .ok false W' := by
                  unfold isAgg
                  rw [Sem.run_bind, run_underlying hd W']
                  cases d <;> simp_all [TypeDesc.isRow]
                simp [part, Sem.run_bind, hagg, hu0]
              · have hagg : (isAgg t).run P W' = .ok false W' := by
                  unfold isAgg
                  rw [Sem.run_bind, run_underlying hd W']
                  cases d <;> simp_all [TypeDesc.isRow]
                have hc := hr off u hu0
                simp [loadVar, Sem.run_bind, hagg, hc]
            · cases hp
      · cases hp

theorem load_sound {h : Hp} (H : HSim W who L h) {t : TypeId} {x : X} {v : Value} {y : T} (hx : RepX W who L h x v) (hl : loadX P h t x = some y) :
    ∃ u, RepT W who L h y u ∧ ∀ W', Same W who L (depsX x) W' → (Instr.loadAt t v).run P W' = .ok u W' := by
  have conv : ∀ (W' : World) (b o : Nat) (u : Value), (loadVar t ⟨b, o, none⟩).run P W' = .ok u W' → (Instr.loadAt t (ptrV b o)).run P W' = .ok u W' := fun W' b o u hu => by
    simp [Instr.loadAt, Instr.sureAddr, ptrV, hu]
  cases x with
  | ptr k off =>
    obtain ⟨_, rfl⟩ := hx
    simp only [loadX] at hl
    cases hb : h.bx[k]? with
    | none => simp [hb] at hl
    | some xs =>
      simp only [hb, Option.bind_some] at hl
      obtain ⟨us, ty, hh, _, hxs⟩ := H.box k xs hb
      obtain ⟨u, hu, _, hrun⟩ := part_rep hxs hl
      refine ⟨u, hu, fun W' hs => conv _ _ _ _ ?_⟩
      have := hrun W' (L.box k) 0 (fun j v hj => by
        rw [Nat.zero_add, cell_of_row W' (L.box k) j us ty (0, 0) (by rw [hs.box k (by simp [depsX]), hh])]
        simpa using hj)
      rwa [Nat.zero_add] at this
  | ep r i off =>
    obtain ⟨_, b, o, rfl, hx⟩ := hx
    simp only [loadX] at hl
    cases hr : h.row r with
    | none => simp [hr] at hl
    | some p =>
      simp only [hr, Option.bind_some] at hl
      cases he : p.2[i]? with
      | none => simp [he] at hl
      | some e =>
        simp only [he, Option.bind_some] at hl
        obtain ⟨_, o', len, cap, hL, rfl⟩ := hx p.1 p.2 hr
        obtain ⟨b2, o2, cap2, us, hL2, hrg, hrep⟩ := (H.rd (sz := p.1) (es := p.2) hr).elem he
        rw [hL2] at hL
        cases hL
        obtain ⟨u, hu, _, hrun⟩ := part_rep (hrep.xs (L := L) (h := h)) hl
        exact ⟨u, hu, fun W' hs => conv _ _ _ _ (hrun W' _ _ (range_same hrg fun _ => hs.row r (by simp [depsX]) _ (by rw [hL2]; rfl)))⟩
  | fp e off =>
    obtain ⟨b, o, us, rfl, hf, hrg, hrep⟩ := hx
    simp only [loadX] at hl
    obtain ⟨u, hu, _, hrun⟩ := part_rep (hrep.xs (L := L) (h := h)) hl
    exact ⟨u, hu, fun W' hs => conv _ _ _ _ (hrun W' _ _ (range_same hrg (hs.fro b hf.1)))⟩
  | c d => simp [loadX] at hl
  | own r off n => simp [loadX] at hl
  | clo bd f ks => simp [loadX] at hl
  | junk => simp [loadX] at hl

/-- The elements of a slice, as a header. -/
theorem view_rep {h : Hp} (H : HSim W who L h) {x : X} {v : Value} {z : Option Nat} {es : List (List C)} (hx : RepX W who L h x v) (hv : h.view x = some (z, es)) :
    ∃ sz, (z = some sz ∨ z = none ∧ es = [] ∧ v = .slice none 0 0) ∧ Rd W who sz es v ∧
      ∀ b o n c, v = .slice (some ⟨b, o, none⟩) n c → es ≠ [] → who b = .frozen ∨ ∃ r ∈ (depsX x).2, (L.row r).ownBlock = some b := by
  unfold Hp.view at hv
  split at hv
  · cases hx
    simp only [Option.some.injEq, Prod.mk.injEq] at hv
    obtain ⟨rfl, rfl⟩ := hv
    exact ⟨0, .inr ⟨rfl, rfl, rfl⟩, ⟨fun e he => by simp at he, none, 0, [], rfl, Nat.le_refl _, fun e => absurd rfl e, (fun b o e => by cases e), by simp, fun i c u h1 => by simp at h1⟩, fun b o n c e => by cases e⟩
  · rename_i sz es'
    simp only [Option.some.injEq, Prod.mk.injEq] at hv
    obtain ⟨rfl, rfl⟩ := hv
    have hx' : RepC W who (.fz sz es') v := hx
    refine ⟨sz, .inl rfl, hx'.rd, fun b o n c e hne => ?_⟩
    cases hx' with
    | fz _ cap _ ao us hu hc ha hw hr hl hrep =>
      cases e
      exact .inl (hw b o hne rfl).1
  · rename_i r off n
    cases hr : h.row r with
    | none => simp [hr] at hv
    | some p =>
      simp only [hr, Option.bind_some] at hv
      split at hv
      · simp only [Option.some.injEq, Prod.mk.injEq] at hv
        obtain ⟨rfl, rfl⟩ := hv
        have hs := hx.2.2 p.1 p.2 hr
        have hrd := H.rd (sz := p.1) (es := p.2) hr
        refine ⟨p.1, .inl rfl, hrd.sub hs, fun b o n' c e hne => .inr ⟨r, by simp [depsX], ?_⟩⟩
        obtain ⟨hle, ao, hc, ao', c', hL, hv', _, hao, _⟩ := hs
        obtain ⟨ao2, cap, us, hL2, _, hne2, _⟩ := hrd.ex
        rw [hL] at hL2 ⊢
        cases hL2
        have hn : 0 < n := by
          rcases Nat.eq_zero_or_pos n with h0 | h0
          · subst h0; simp at hne
          · exact h0
        obtain ⟨b1, o1, e1⟩ := hne2 (fun e => by rw [e] at hle; simp at hle; omega)
        subst e1
        rw [hv'] at e
        cases e
        have := hao hn b1 o1 rfl
        simp only [Option.some.injEq, Addr.mk.injEq, and_true] at this
        rw [this.1]; rfl
      · cases hv
  · cases hv

theorem addOff_rep {h : Hp} {x y : X} {v : Value} {n : Nat} (hx : RepX W who L h x v) (ha : addOff x n = some y) : ∃ b o, v = ptrV b o ∧ RepX W who L h y (ptrV b (o + n)) := by
  unfold addOff at ha
  split at ha
  · rename_i k off
    cases ha
    obtain ⟨h1, rfl⟩ := hx
    exact ⟨_, _, rfl, h1, rfl⟩
  · cases ha
    obtain ⟨h0, b, o, rfl, h1⟩ := hx
    exact ⟨_, _, rfl, h0, b, o, by rw [Nat.add_assoc], h1⟩
  · cases ha
    obtain ⟨b, o, us, rfl, h1⟩ := hx
    exact ⟨_, _, rfl, b, o, us, by rw [Nat.add_assoc], h1⟩
  · cases ha

theorem add_mid (b o n : Nat) : (⟨b, o, none⟩ : Addr).add n = ⟨b, o + n, none⟩ := Addr.add_mid b o n

theorem indexAddr_sound {h : Hp} (H : HSim W who L h) {t : TypeId} {x y : X} {v : Value} {k : IntKind} {i : Int} (hx : RepX W who L h x v) (hi : indexAddrX P h t x i = some y) :
    ∃ u, RepX W who L h y u ∧ ∀ W', (Instr.indexAt t v (.int k i)).run P W' = .ok u W' := by
  unfold indexAddrX at hi
  split at hi
  · rename_i e ht
    cases hz : szT P e with
    | none => simp [hz] at hi
    | some sz =>
      simp only [hz, Option.bind_some] at hi
      have hsz : ∀ W', (sizeOf e).run P W' = .ok sz W' := fun W' => by
        unfold szT at hz
        cases hq : P.info? e with
        | none => simp [hq] at hz
        | some q => simp [hq] at hz; simp [sizeOf, typeInfo, hq, hz]
      split at hi
      · rename_i sz' es
        split at hi
        · rename_i hc
          obtain ⟨rfl, h0⟩ := hc
          cases he : es[i.toNat]? with
          | none => simp [he] at hi
          | some el =>
            simp only [he, Option.map_some, Option.some.injEq] at hi
            subst hi
            have hx' : RepC W who (.fz sz' es) v := hx
            have hne : es ≠ [] := fun e2 => by subst e2; simp at he
            obtain ⟨b, o, cap, us, hv, hrg, hrep⟩ := hx'.rd.elem he
            have hf : who b = .frozen ∧ b < W.heap.size := by
              cases hx' with
              | fz _ cap _ ao us hu hc ha hw hr hl hrep => cases hv; exact hw b o hne rfl
            refine ⟨ptrV b (o + i.toNat * sz'), ⟨b, o + i.toNat * sz', us, rfl, hf, hrg, hrep⟩, fun W' => ?_⟩
            have hlt : i < es.length := by have := (List.getElem?_eq_some_iff.1 he).1; omega
            subst hv
            simp [Instr.indexAt, asIntOf, run_underlying ht, h0, hlt, hsz, ptrV, add_mid]
        · cases hi
      · rename_i r off n
        cases hr : h.row r with
        | none => simp [hr] at hi
        | some p =>
          simp only [hr, Option.bind_some] at hi
          split at hi
          · rename_i hc
            simp only [Option.some.injEq] at hi
            subst hi
            obtain ⟨rfl, h0, hin, hle⟩ := hc
            obtain ⟨_, ao, hc, ao', c', hL, hv', _, hao, _⟩ := hx.2.2 p.1 p.2 hr
            obtain ⟨ao2, cap, us, hL2, _, hne2, _⟩ := (H.rd (sz := p.1) (es := p.2) hr).ex
            rw [hL] at hL2
            cases hL2
            obtain ⟨b1, o1, rfl⟩ := hne2 (fun e => by rw [e] at hle; simp at hle; omega)
            obtain rfl := hao (by omega) b1 o1 rfl
            refine ⟨ptrV b1 (o1 + (off + i.toNat) * p.1), ⟨hx.1, b1, o1 + (off + i.toNat) * p.1, rfl, fun sz es h2 => ?_⟩, fun W' => ?_⟩
            · rw [hr] at h2
              cases h2
              have hle' : off + n ≤ es.length := hle
              exact ⟨by omega, o1, _, _, hL, rfl⟩
            · subst hv'
              simp [Instr.indexAt, asIntOf, run_underlying ht, h0, hin, hsz, ptrV, add_mid, Nat.add_mul, Nat.add_assoc]
          · cases hi
      · cases hi
  · rename_i len e ht
    cases hz : szT P e with
    | none => simp [hz] at hi
    | some sz =>
      simp only [hz, Option.bind_some] at hi
      have hsz : ∀ W', (sizeOf e).run P W' = .ok sz W' := fun W' => by
        unfold szT at hz
        cases hq : P.info? e with
        | none => simp [hq] at hz
        | some q => simp [hq] at hz; simp [sizeOf, typeInfo, hq, hz]
      split at hi
      · rename_i hc
        obtain ⟨b, o, rfl, hy⟩ := addOff_rep hx hi
        refine ⟨_, hy, fun W' => ?_⟩
        simp [Instr.indexAt, asIntOf, run_underlying ht, hc.1, hc.2, hsz, ptrV, add_mid, Instr.sureAddr]
      · cases hi
  · cases hi

theorem bytesOf_map : ∀ {es : List (List C)} {bs : List UInt8}, bytesOf es = some bs → ∃ ns : List Int, es = ns.map (fun n => [.v (.int .u8 n)]) ∧ bs = ns.map (fun n => UInt8.ofNat n.toNat)
  | [], bs, h => by simp [bytesOf] at h; subst h; exact ⟨[], rfl, rfl⟩
  | e :: es, bs, h => by
    unfold bytesOf at h
    split at h
    · rename_i h2; cases h2
    · rename_i n es' h2
      cases h2
      cases hb : bytesOf es with
      | none => simp [hb] at h
      | some bs' =>
        simp [hb] at h
        subst h
        obtain ⟨ns, rfl, rfl⟩ := bytesOf_map hb
        exact ⟨n :: ns, rfl, rfl⟩
    · cases h
theorem rep_ints {ns : List Int} {us : List Value} (h : RepCs W who (ns.map fun n => C.v (.int .u8 n)) us) : us = ns.map (Value.int .u8) := by
  apply List.ext_getElem?
  intro i
  by_cases hi : i < ns.length
  · have h1 := h.1
    simp at h1
    rw [List.getElem?_map, List.getElem?_eq_getElem hi, List.getElem?_eq_getElem (by omega)]
    have := h.2 i (.v (.int .u8 ns[i])) us[i] (by simp [hi]) (List.getElem?_eq_getElem (by omega))
    cases hu : us[i]'(by omega) <;> rw [hu] at this <;> cases this
    rfl
  · have h1 := h.1
    simp at h1
    rw [List.getElem?_eq_none (by omega), List.getElem?_eq_none (by simp; omega)]

theorem flat_one : ∀ (ns : List Int), (ns.map fun n => [C.v (Value.int .u8 n)]).flatten = ns.map fun n => C.v (Value.int .u8 n)
  | [] => rfl
  | n :: ns => by rw [List.map_cons, List.flatten_cons, flat_one ns]; rfl
theorem bytes_sound {h : Hp} (H : HSim W who L h) {src dst e : TypeId} {x : X} {v : Value} {z : Option Nat} {es : List (List C)} {bs : List UInt8} (hx : RepX W who L h x v) (hv : h.view x = some (z, es)) (hb : bytesOf es = some bs)
    (hs : P.underlying src = some (.slice e)) (he : P.underlying e = some (.int .u8)) (hd : P.underlying dst = some .string) :
    ∀ W', Same W who L (depsX x) W' → (convert src dst v).run P W' = .ok (.string ⟨bs.toArray⟩) W' := by
  intro W' hsame
  obtain ⟨sz, _, hrd, hblk⟩ := view_rep H hx hv
  obtain ⟨ns, rfl, rfl⟩ := bytesOf_map hb
  obtain ⟨ao, cap, us, rfl, _, hne, hr, hrep⟩ := hrd.ex
  have hfl := flat_one ns
  rw [hfl] at hrep
  obtain rfl := rep_ints hrep
  have hfold : ∀ (l : List Int) (s : ByteArray), (l.foldl (fun r n => r.push (UInt8.ofNat n.toNat)) s) = ⟨s.data ++ (l.map fun n => UInt8.ofNat n.toNat).toArray⟩ := by
    intro l
    induction l with
    | nil => intro s; simp
    | cons n l ih => intro s; rw [List.foldl_cons, ih]; simp [ByteArray.push]
  rcases ns with _ | ⟨n, ns⟩
  · cases ao with
    | none => rw [run_convert_bytes_string W' src dst e none _ cap hs he hd]; rfl
    | some ad =>
      rw [run_convert_bytes_string W' src dst e _ _ cap hs he hd, run_bytesToString W' ad _ cap [] ?_]
      · rfl
      · exact run_loadCells_list (P := P) W' ad [] (fun j v h => by simp at h)
  · obtain ⟨b, o, rfl⟩ := hne (by simp)
    rw [run_convert_bytes_string W' src dst e _ _ cap hs he hd, run_bytesToString W' _ _ cap (n :: ns) ?_, hfold]
    · simp
    · have hrg := range_same (W' := W') (hr b o rfl) fun hlt => by
        rcases hblk b o _ cap rfl (by simp) with hf | ⟨r, hr1, hr2⟩
        · exact hsame.fro b hf hlt
        · exact hsame.row r hr1 b hr2
      have := run_loadCells_list (P := P) W' ⟨b, o, none⟩ ((n :: ns).map (Value.int .u8)) (fun j v hj => by rw [add_mid]; exact hrg j v hj)
      simpa using this

theorem slice_sound {h : Hp} (H : HSim W who L h) {t e : TypeId} {x y : X} {v : Value} {l u : Option Int} {kl ku : IntKind} {sz : Nat} {z : Option Nat} {es : List (List C)} (ht : P.underlying t = some (.slice e)) (hz : szT P e = some sz) (hx : RepX W who L h x v)
    (hw : h.view x = some (z, es)) (hok : szOk sz z = true) (hs : sliceX h x l u = some y) :
    ∃ v', RepX W who L h y v' ∧ ∀ W', (Instr.sliceAt t v (l.map (Value.int kl)) (u.map (Value.int ku)) none).run P W' = .ok v' W' := by
  obtain ⟨sz', hz', hrd, -⟩ := view_rep H hx hw
  simp only [sliceX, hw, Option.bind_some] at hs
  obtain ⟨ao, cap, us, hv, hcap, hne, hr, hrep⟩ := hrd.ex
  generalize hl : l.getD 0 = lo at hs
  generalize hu : u.getD (es.length : Int) = up at hs
  by_cases hc : 0 ≤ lo ∧ lo ≤ up ∧ up ≤ es.length
  case neg => rw [if_neg hc] at hs; cases hs
  rw [if_pos hc] at hs
  obtain ⟨h0, hle, hup⟩ := hc
  have hsz : ∀ W', (sizeOf e).run P W' = .ok sz W' := fun W' => by
    unfold szT at hz
    cases hq : P.info? e with
    | none => simp [hq] at hz
    | some q => simp [hq] at hz; simp [sizeOf, typeInfo, hq, hz]
  have hrun : ∀ W', (Instr.sliceAt t v (l.map (Value.int kl)) (u.map (Value.int ku)) none).run P W' = .ok (.slice (if cap = lo.toNat then ao else ao.map (·.add (lo.toNat * sz))) (up - lo).toNat (cap - lo.toNat)) W' := by
    intro W'
    subst hv
    have b1 : ∀ {k : IntKind} {i : Int} {m : Nat} {c : BoundsCode}, 0 ≤ i → i ≤ m → (Instr.sliceBound (.int k i) m c).run P W' = .ok i.toNat W' := by
      intro k i m c h1 h2
      simp [Instr.sliceBound, asIntOf, h1, h2]
    have hb : (Instr.sliceBounds true es.length cap (l.map (Value.int kl)) (u.map (Value.int ku)) none).run P W' = .ok (lo.toNat, up.toNat, cap) W' := by
      unfold Instr.sliceBounds
      cases l with
      | none =>
        simp at hl
        subst hl
        cases u with
        | none => simp at hu; subst hu; simp
        | some q =>
          simp at hu
          subst hu
          simp [b1 (show 0 ≤ q by omega) (show q ≤ (cap : Nat) by omega)]
      | some p =>
        simp at hl
        subst hl
        cases u with
        | none =>
          simp at hu
          subst hu
          simp [b1 h0 (show p ≤ (es.length : Nat) by omega)]
        | some q =>
          simp at hu
          subst hu
          simp [b1 (show 0 ≤ q by omega) (show q ≤ (cap : Nat) by omega), b1 h0 (show p ≤ (q.toNat : Nat) by omega)]
    simp only [Instr.sliceAt, Instr.slice, Sem.run_bind, run_underlying ht, Result.andThen_ok, hb, hsz, Sem.run_pure]
    congr 2
    omega
  rcases hz' with rfl | ⟨rfl, rfl, rfl⟩
  · have hsz' : sz' = sz := by simpa [szOk] using hok
    subst hsz'
    have hlen : ((es.drop lo.toNat).take (up - lo).toNat).length = (up - lo).toNat := by simp; omega
    have hsub : Sub v sz' es.length lo.toNat (up - lo).toNat (.slice (if cap = lo.toNat then ao else ao.map (·.add (lo.toNat * sz'))) (up - lo).toNat (cap - lo.toNat)) := by
      refine ⟨by omega, ao, cap, _, _, hv, rfl, by omega, fun hn b o e => ?_, fun h1 h2 => ?_⟩
      · subst e
        rw [if_neg (by omega)]
        simp [add_mid]
      · subst hv
        have e1 : lo = 0 := by omega
        subst e1
        have e2 : up = es.length := by omega
        subst e2
        simp
        intro hne0
        cases ao with
        | none => rfl
        | some a => simp [Addr.add]
    refine ⟨_, ?_, hrun⟩
    unfold Hp.view at hw
    split at hw
    · simp at hw
    · rename_i sz2 es2
      simp only [Option.some.injEq, Prod.mk.injEq] at hw
      obtain ⟨rfl, rfl⟩ := hw
      simp only [Option.some.injEq] at hs
      subst hs
      have hx' : RepC W who (.fz sz2 es2) v := hx
      obtain ⟨ao2, cap2, us2, hv2, hcap2, hne2, hr2, hrep2⟩ := (hrd.sub hsub).ex
      have hrd2 := hrd.sub hsub
      rw [hlen] at hv2
      have key : RepC W who (.fz sz2 ((es2.drop lo.toNat).take (up - lo).toNat)) (.slice ao2 ((es2.drop lo.toNat).take (up - lo).toNat).length cap2) := by
        refine .fz sz2 cap2 _ ao2 us2 hrd2.size hcap2 hne2 (fun b off hn0 e => ?_) hr2 hrep2.1 hrep2.2
        have hn : 0 < (up - lo).toNat := by
          rcases Nat.eq_zero_or_pos (up - lo).toNat with h0 | h0
          · exact absurd (List.eq_nil_of_length_eq_zero (by rw [hlen, h0])) hn0
          · exact h0
        obtain ⟨b1, o1, e1⟩ := hne (fun e => by rw [e] at hup; simp at hup; omega)
        have := hsub.2
        obtain ⟨ao3, hc3, ao4, c4, q1, q2, _, q3, _⟩ := this
        rw [hv] at q1
        cases q1
        cases hv2
        cases q2
        have := q3 hn b1 o1 e1
        rw [e] at this
        simp only [Option.some.injEq, Addr.mk.injEq, and_true] at this
        rw [this.1]
        cases hx' with
        | fz _ cap _ ao us hu hc ha hw hr hl hrep =>
          cases hv
          exact hw b1 o1 (fun e => by rw [e] at hup; simp at hup; omega) e1
      rw [hlen] at key
      rw [hv2]
      exact key
    · rename_i r off n
      simp only [Option.some.injEq] at hs
      subst hs
      refine ⟨hx.1, ⟨_, _, rfl⟩, fun sz2 es2 h2 => ?_⟩
      have h3 := hx.2.2 sz2 es2 h2
      simp only [h2, Option.bind_some] at hw
      split at hw
      · rename_i hle2
        simp only [Option.some.injEq, Prod.mk.injEq] at hw
        obtain ⟨rfl, rfl⟩ := hw
        have hen : ((es2.drop off).take n).length = n := by simp; omega
        rw [hen] at hup hsub hu
        obtain ⟨hle3, ao3, hc3, ao4, c4, q1, q2, q5, q3, q4⟩ := h3
        obtain ⟨_, ao5, hc5, ao6, c6, q6, q7, q10, q8, q9⟩ := hsub
        rw [q2] at q6
        cases q6
        refine ⟨by omega, ao3, hc3, ao6, c6, q1, q7, q10, fun hn b o e => ?_, fun h5 h6 => ?_⟩
        · have := q8 hn b _ (q3 (by omega) b o e)
          rw [this, Nat.add_mul, Nat.add_assoc]
        · have e1 : off = 0 := by omega
          have e2 : n = es2.length := by omega
          rw [q9 (by omega) (by omega)]
          exact q4 e1 e2
      · cases hw
    · cases hw
  · have hy : y = .c (.v (.slice none 0 0)) := by
      simp at hup
      unfold Hp.view at hw
      split at hw
      · simpa using hs.symm
      · simp at hw
      · rename_i r off n
        cases hr : h.row r with
        | none => simp [hr] at hw
        | some p =>
          simp only [hr, Option.bind_some] at hw
          split at hw
          · simp at hw
          · cases hw
      · cases hw
    subst hy
    cases hv
    refine ⟨.slice none 0 0, .v _ rfl, fun W' => ?_⟩
    rw [hrun]
    simp at hup
    have e1 : lo = 0 := by omega
    have e2 : up = 0 := by omega
    subst e1
    subst e2
    rfl
end
end Go.Proofs.YtkdnbnkbnegckaaGreatDoor
