/- The document's answer's bytes of tables of sets and of functions: what the lifted functions come to. The document's answer's bytes of a function: what the lifted function comes to. The document's answer's Encode: what it comes to. -/
import Derived.Test.YtkdnbnkbnegckaaGreatSmP
import Derived.Test.YtkdnbnkbnegckaaGreatSpG
import Derived.Test.YtkdnbnkbnegckaaGreatEnd
namespace Go.Proofs.YtkdnbnkbnegckaaGreat
open Go.RowKit
set_option maxRecDepth 20000
theorem expandG_app {α : Type} {a b : List (Int × α)} : expandG (a ++ b) = expandG a ++ expandG b := List.flatMap_append
theorem expandG_cons {α : Type} {p : Int × α} {b : List (Int × α)} : expandG (p :: b) = List.replicate p.1.toNat p.2 ++ expandG b := List.flatMap_cons
theorem expandG_snoc {α : Type} {a : List (Int × α)} {n : Nat} {v : α} : (expandG (a ++ [((n : Int), v)])).length = (expandG a).length + n := by
  rw [expandG_app, List.length_append]
  simp [expandG]
theorem sp_rPut14 {l : List St} (hl : l.length ≤ 1000000) (hU : ∀ s ∈ l, U64S s) : S_ref14_Put l = some (mapsL l, ()) := by
  obtain ⟨h1, h2, h3, h4⟩ := groupsG_all l
  refine u_ref14_Put (N := l.length + 1) ?_
  simp [M_ref14_Put]
  refine iter_to (fun d => l.length - d.2.1.toNat) (fun d => ∃ R1 R2, groupsG l = R1 ++ R2 ∧ d = (R1.flatMap cntL, (((expandG R1).length : Nat) : Int), ())) ?_ _ _ ⟨[], groupsG l, rfl, rfl⟩ (by simp)
  rintro _ again ⟨R1, R2, hR, rfl⟩ ih
  have hlen := h1
  rw [hR, expandG_app] at hlen
  cases R2 with
  | nil =>
    have : (expandG R1).length = l.length := by rw [← hlen]; simp [expandG]
    simp [this, mapsL, hR]
  | cons p R2 =>
    obtain ⟨n, v⟩ := p
    have hq := h4 (n, v) (by rw [hR]; simp)
    obtain ⟨n, rfl⟩ := Int.eq_ofNat_of_zero_le (show 0 ≤ n by have := hq.1; simp only at this; omega)
    have hn1 : 1 ≤ n := by have := hq.1; simp only at this; omega
    rw [expandG_cons] at hlen
    simp only [Int.toNat_natCast] at hlen
    generalize hi : (expandG R1).length = i at *
    have hle : i + n ≤ l.length := by rw [← hlen]; simp; omega
    have hat : ∀ k, i ≤ k → k < i + n → ∀ h : k < l.length, l[k] = v := fun k h5 h6 h => by
      have : l[k]? = some v := by
        rw [← hlen, List.getElem?_append_right (by omega), List.getElem?_append_left (by simp; omega), hi, List.getElem?_replicate, if_pos (by omega)]
      rw [List.getElem?_eq_getElem h] at this
      exact Option.some.inj this
    have hnx : ∀ h : i + n < l.length, l[i + n] ≠ v := fun h e => by
      have hq2 : l[i + n]? = (expandG R2)[0]? := by
        rw [← hlen, List.getElem?_append_right (by omega), List.getElem?_append_right (by simp; omega)]
        congr 1
        simp
        omega
      rw [List.getElem?_eq_getElem h, e] at hq2
      rw [hR] at h2
      obtain ⟨-, h2⟩ := chainG_append.1 h2
      obtain ⟨-, -, h2⟩ := h2
      cases R2 with
      | nil => simp [expandG] at hq2
      | cons q R2 =>
        obtain ⟨c1, c2, -⟩ := h2
        obtain ⟨m, hm⟩ : ∃ m : Nat, q.1.toNat = m + 1 := ⟨q.1.toNat - 1, by omega⟩
        rw [expandG_cons, hm, List.replicate_succ] at hq2
        simp only [List.cons_append, List.getElem?_cons_zero, Option.some.injEq] at hq2
        exact c2 (by rw [hq2])
    have hil : i < l.length := by omega
    have hvi : l[i] = v := hat i (by omega) (by omega) hil
    obtain ⟨u1, u2, u3, u4⟩ := hU v hq.2.2
    have hacc : (R1.flatMap cntL).length ≤ l.length * 50 := by
      have e1 := flatMap_le (l := R1) (g := cntL) (c := 50) fun x _ => cntL_le x
      have : R1.length ≤ l.length := by
        rw [hR] at h3; simp at h3; omega
      exact Nat.le_trans e1 (Nat.mul_le_mul_right _ this)
    simp [hil, bnd_get hil, hvi]
    refine iter_join (fun d => l.length - d.1.toNat) (fun d => ∃ k : Nat, d = ((k : Int), ()) ∧ i ≤ k ∧ k ≤ i + n) ?_ _ _ ⟨i, rfl, by omega, by omega⟩ (by simp; omega)
    rintro _ again2 ⟨k, rfl, hk1, hk2⟩ ih2
    by_cases hk : k < i + n
    · have hkl : k < l.length := by omega
      have hw : wrp .i64 ((k : Int) + 1) = (k : Int) + 1 := wi64 (by omega) (by omega)
      have := ih2 ((k : Int) + 1, ()) ⟨k + 1, rfl, by omega, by omega⟩ (by simp; omega)
      simpa [hkl, bnd_get hkl, hat k hk1 hk hkl, hw, eqL] using this
    · obtain rfl : k = i + n := by omega
      obtain ⟨a, b, c, d⟩ := v
      obtain ⟨a, rfl⟩ := Int.eq_ofNat_of_zero_le u1.1
      obtain ⟨b, rfl⟩ := Int.eq_ofNat_of_zero_le u2.1
      obtain ⟨c, rfl⟩ := Int.eq_ofNat_of_zero_le u3.1
      obtain ⟨d, rfl⟩ := Int.eq_ofNat_of_zero_le u4.1
      have hfin := ih ((R1 ++ [((n : Int), ((a : Int), ((b : Int), ((c : Int), (d : Int)))))]).flatMap cntL, ((i + n : Nat) : Int), ()) ⟨R1 ++ [((n : Int), ((a : Int), ((b : Int), ((c : Int), (d : Int)))))], R2, by rw [hR]; simp, by rw [expandG_snoc, hi]⟩ (by simp; omega)
      rw [List.flatMap_append, List.flatMap_singleton] at hfin
      simp only [cntL, Int.toNat_natCast] at hfin
      clear ih
      generalize R1.flatMap cntL = acc at *
      have hd1 : wrp .i64 (((i + n : Nat) : Int) - (i : Int)) = (n : Int) := by
        rw [show ((i + n : Nat) : Int) - (i : Int) = (n : Int) by omega]
        exact wi64 (by omega) (by omega)
      have hd2 : wrp .u64 (n : Int) = (n : Int) := wu64 (by omega) (by omega)
      have b1 := putB_le n
      have b2 := putB_le a
      have b3 := putB_le b
      have b4 := putB_le c
      have b5 := putB_le d
      have r1 := room_b (a := acc.length) (b := (putB n).length) (by omega)
      have r2 := room_b (a := acc.length + (putB n).length) (b := (putB a).length) (by omega)
      have r3 := room_b (a := acc.length + ((putB n).length + (putB a).length)) (b := (putB b).length) (by omega)
      have r4 := room_b (a := acc.length + ((putB n).length + ((putB a).length + (putB b).length))) (b := (putB c).length) (by omega)
      have r5 := room_b (a := acc.length + ((putB n).length + ((putB a).length + ((putB b).length + (putB c).length)))) (b := (putB d).length) (by omega)
      have p1 := sp_rPut (n := n) (by omega)
      have p2 := sp_rPut (n := a) (by have := u1.2; simp only at this; omega)
      have p3 := sp_rPut (n := b) (by have := u2.2; simp only at this; omega)
      have p4 := sp_rPut (n := c) (by have := u3.2; simp only at this; omega)
      have p5 := sp_rPut (n := d) (by have := u4.2; simp only at this; omega)
      rw [show ((i + n : Nat) : Int) = (i : Int) + (n : Int) by omega] at hd1 hfin
      by_cases hk3 : i + n < l.length
      · have hne := hnx hk3
        simp only [ne_eq, Prod.ext_iff] at hne
        have hne2 : eqL [l[i + n].1, l[i + n].2.1, l[i + n].2.2.1, l[i + n].2.2.2] [(a : Int), (b : Int), (c : Int), (d : Int)] = false := by
          simp [eqL]
          exact fun e1 e2 e3 e4 => hne ⟨e1, e2, e3, e4⟩
        simpa [show (i : Int) + n < l.length by omega, show 0 ≤ (i : Int) + n by omega, show ((i : Int) + n).toNat = i + n by omega, bnd_get hk3, hne2, hil, bnd_get hil, hvi, hd1, hd2, p1, p2, p3, p4, p5, r1, r2, r3, r4, r5, Nat.add_assoc] using hfin
      · simpa [show ¬(i : Int) + n < l.length by omega, hil, bnd_get hil, hvi, hd1, hd2, p1, p2, p3, p4, p5, r1, r2, r3, r4, r5, Nat.add_assoc] using hfin
end Go.Proofs.YtkdnbnkbnegckaaGreat
namespace Go.Proofs.YtkdnbnkbnegckaaGreat
open Go.RowKit
set_option maxRecDepth 20000
section
variable {name : List UInt8} {inner : Bool} {outer params results locals lines at' : List Int} {code : List (Int × Int)} {nodes : List Nd} {live : List St}
theorem chk_room {β : Type} {a b : Nat} {r : Option β} (h : a + b ≤ 100000000000) : chk (room a b 1) r = r := by rw [room_b h]; rfl
set_option maxHeartbeats 2000000 in
theorem sp_rPut15 (hD : DatF code lines nodes at' live) (h : CanF name inner outer params results locals code lines nodes at' live) : S_ref15_Put name inner outer params results locals code lines nodes at' live = some (fncL name inner outer params results locals code lines nodes at' live, ()) := by
  obtain ⟨n1, n2, n3, n4, n5, n6, n7, n8⟩ := h.len
  have hC := sp_rCan (name := name) (inner := inner) (outer := outer) (params := params) (results := results) (locals := locals) (code := code) (lines := lines) (nodes := nodes) (at' := at') (live := live) (by unfold Len; omega) (by unfold LenF; omega)
  rw [canE_iff.2 h] at hC
  obtain ⟨h1, h2, h3, h4, h5, h6, h7, h8, h9⟩ := h
  obtain ⟨d1, d2, d3, d4, d5⟩ := hD
  simp only [typesB, sigB, Bool.and_eq_true] at h2
  obtain ⟨⟨⟨⟨⟨-, t1⟩, -, t2⟩, -, t3⟩, -, t4⟩, -⟩ := h2
  refine u_ref15_Put (N := code.length + 1) ?_
  have w1 : wrp .u64 (name.length : Int) = (name.length : Int) := wu64 (by omega) (by omega)
  have w2 : wrp .u64 (code.length : Int) = (code.length : Int) := wu64 (by omega) (by omega)
  have a1 := putB_le name.length
  have a2 := sigL_le outer
  have a3 := sigL_le params
  have a4 := sigL_le results
  have a5 := sigL_le locals
  have a6 := putB_le code.length
  have b1 := runsL_le lines
  have b2 := treeL_le nodes
  have b3 := runsL_le at'
  have b4 := mapsL_le live
  have p1 := sp_rPut (n := name.length) (by omega)
  have p2 := sp_rPut11 (l := outer) (by omega) t4
  have p3 := sp_rPut11 (l := params) (by omega) t1
  have p4 := sp_rPut11 (l := results) (by omega) t2
  have p5 := sp_rPut11 (l := locals) (by omega) t3
  have p6 := sp_rPut (n := code.length) (by omega)
  have p7 := sp_rPut04 (l := lines) (by omega) d2
  have p8 := sp_rPut13 (l := nodes) (by omega) d3
  have p9 := sp_rPut04 (l := at') (by omega) d4
  have p10 := sp_rPut14 (l := live) (by omega) d5
  have hB := sp_rBare (name := name) (inner := inner) (outer := outer) (params := params) (results := results) (locals := locals) (code := code) (lines := lines) (nodes := nodes) (at' := at') (live := live) (by omega) (by omega) (by omega)
  have u1 : inU8 (wrp .u8 (u8I 1 + 2)) = true := by decide +kernel
  have u2 : inU8 (wrp .u8 (u8I 0 + 2)) = true := by decide +kernel
  have v1 : toU8 (wrp .u8 (u8I 1 + 2)) = 3 := by decide +kernel
  have v2 : toU8 (wrp .u8 (u8I 0 + 2)) = 2 := by decide +kernel
  have v3 : toU8 1 = 1 := by decide +kernel
  have v4 : toU8 0 = 0 := by decide +kernel
  have hc : ∀ (k : Nat), k < code.length → (hk : k < code.length) → S_ref10_Put code[k].1 code[k].2 = some (instrL code[k].1 code[k].2, ()) := fun k _ hk => sp_rPut10 (List.all_eq_true.1 h6 _ (List.getElem_mem hk)) (d1 _ (List.getElem_mem hk))
  have hf := flatMap_le (l := code) (g := fun p => instrL p.1 p.2) (c := 11) fun p _ => instrL_le p.1 p.2
  have r0 := room_b (a := (putB name.length).length + name.length + 1) (b := (sigL outer).length) (by omega)
  have e0 : (putB name.length).length + name.length + 1 + (sigL outer).length = (putB name.length).length + name.length + ((sigL outer).length + 1) := by omega
  cases inner <;> cases hb : bareB nodes at' live <;> rw [hb] at hB
  all_goals
    simp [M_ref15_Put, hC, hB, w1, w2, p1, p2, p3, p4, p5, p6, u1, u2, v1, v2, v3, v4, r0, e0]
    repeat first | refine (chk_room (by omega)).trans ?_ | refine (if_pos (by omega)).trans ?_
    refine iter_lay (l := code) (g := fun p => instrL p.1 p.2) (c := 11) (by omega) (by omega) (fun x _ => instrL_le x.1 x.2) ?_ ?_
    · intro k acc again hk ha
      have hi := instrL_le code[k].1 code[k].2
      simp at ha
      simp [hk, bnd_get hk, hc k hk hk]
      refine (chk_room (by omega)).trans ?_
      rfl
    · intro again
      generalize hCB : code.flatMap (fun p => instrL p.1 p.2) = CB at *
      simp [p7, p8, p9, p10, hB]
      repeat first | refine (chk_room (by omega)).trans ?_ | refine (if_pos (by omega)).trans ?_
      simp [fncL, headL, tabL, hb, hCB, flagU]
      exact List.take_of_length_le (by simp; omega)
end
end Go.Proofs.YtkdnbnkbnegckaaGreat
namespace Go.Proofs.YtkdnbnkbnegckaaGreat
open Go.RowKit
set_option maxRecDepth 20000
theorem own_low {w : World} {base base' : Nat} {e : TypeId} {size : Nat} {v : Value} {n : Nat} {xs : List Value} (hb : base' ≤ base) (h : w.ownsRow base e size v n xs) : w.ownsRow base' e size v n xs := by
  refine ⟨h.1, ?_⟩
  rcases h.2 with h3 | ⟨g, cap, cur, rfl, h4, h5, h6⟩
  · exact .inl h3
  · exact .inr ⟨g, cap, cur, rfl, Nat.le_trans hb h4, h5, h6⟩
theorem rep_bytes {W : World} {who : Nat → Who} {b : List UInt8} {v : Value} (hr : RepC W who (.fz 1 (encL tY b)) v) : ∃ ao cap, v = .slice ao b.length cap ∧ b.length ≤ cap ∧ Cells W ao (b.map byteC) := by
  obtain ⟨es, he⟩ : ∃ es, es = encL tY b := ⟨_, rfl⟩
  have hel : es.length = b.length := by rw [he, encL_len]
  rw [← he] at hr
  cases hr with
  | fz _ cap _ ao us hu hcp ha hw hrg hl2 hrep =>
    have hub := reps_bytes (W := W) (who := who) (l := b) (us := us) (by rw [← he]; exact ⟨hl2, hrep⟩)
    subst hub
    exact ⟨ao, cap, by rw [hel], by rw [← hel]; exact hcp, fun hne => ha fun h0 => hne (by rw [h0] at hel; simp at hel; rw [List.eq_nil_of_length_eq_zero hel.symm]; rfl), fun k off e j u hj => hrg k off e j u hj⟩
theorem w_rPut {n : Nat} (h : n < 18446744073709551616) : callW Tryz.prog annX plansX 74 [⟨.one, [.c (.v (.int .u64 n))]⟩] ⟨[], []⟩ = some (⟨.one, [.own 0 0 (encL tY (putB n)).length]⟩, ⟨[], [.mu 5 1 (encL tY (putB n))]⟩) :=
  k_ref01_Put ((n : Int), ()) _ (sp_rPut h) _ (by kernel_rfl)
theorem c_rPut {n : Nat} (h : n < 18446744073709551616) (W : World) : Calls Tryz.prog 74 #[.int .u64 n] W fun e W' => ∃ ao cap, e = .returned (.slice ao (putB n).length cap) ∧ Cells W' ao ((putB n).map byteC) ∧ Ext W W' := by
  refine ((callW_ok (A := annX) base_ok prog_ok _ _ _ _ _ (w_rPut h)).2 W W0 L0 [.int .u64 n] ⟨fun k xs h => by simp at h, fun r ty sz es h => by simp at h, fun r sz es h => by simp at h⟩ rfl fun i t v h1 h2 => ?_).mono fun e W' ⟨v', who', L', he, hv', H', S⟩ => ?_
  · match i with
    | 0 =>
      cases h1
      cases h2
      exact ⟨_, rfl, .v _ rfl⟩
    | i + 1 => simp at h1
  · obtain ⟨x, hx1, hx2⟩ := hv'
    cases hx1
    obtain ⟨-, -, hsub⟩ := hx2
    obtain ⟨-, _, _, _, _, -, -, -, -, heq⟩ := hsub _ _ rfl
    have hvv := heq rfl rfl
    obtain ⟨-, ⟨us, ho, hr⟩, -⟩ := H'.mu 0 _ _ _ rfl
    rw [← hvv] at ho
    rw [encL_len, reps_bytes hr] at ho
    obtain ⟨ao, cap, hv, -, -, h4⟩ := Cells.own ho
    exact ⟨ao, cap, by rw [he, hv], h4, S.os, S.tape, S.output, S.size, fun k hk => (S.fro k rfl hk).1⟩
theorem c_rPut15 {W : World} {f : Fn} {cs : List Value} (hd : DatV f) (hc : CanV f) (hcs : RepCs W W0 (enc tF f) cs) : Calls Tryz.prog 75 #[.agg cs.toArray] W fun e W' => ∃ ao cap, e = .returned (.slice ao (fncV f).length cap) ∧ Cells W' ao ((fncV f).map byteC) ∧ Ext W W' := by
  have hS : S_ref15_Put f.1 f.2.1 f.2.2.1 f.2.2.2.1 f.2.2.2.2.1 f.2.2.2.2.2.1 f.2.2.2.2.2.2.1 f.2.2.2.2.2.2.2.1 f.2.2.2.2.2.2.2.2.1 f.2.2.2.2.2.2.2.2.2.1 f.2.2.2.2.2.2.2.2.2.2 = some (fncV f, ()) := sp_rPut15 hd hc
  have hw : callW Tryz.prog annX plansX 75 [⟨.agg, fnX f⟩] ⟨[], []⟩ = some (⟨.one, [.c (.fz 1 (encL tY (fncV f)))]⟩, ⟨[], []⟩) :=
    k_ref15_Put (f.1, (f.2.1, (f.2.2.1, (f.2.2.2.1, (f.2.2.2.2.1, (f.2.2.2.2.2.1, (f.2.2.2.2.2.2.1, (f.2.2.2.2.2.2.2.1, (f.2.2.2.2.2.2.2.2.1, (f.2.2.2.2.2.2.2.2.2.1, (f.2.2.2.2.2.2.2.2.2.2, ()))))))))))) _ hS _ (by kernel_rfl)
  refine (pure_one hw (vs := [.agg cs.toArray]) rfl fun i t u h1 h2 => ?_).mono fun e W' ⟨u, he, hu, hx⟩ => ?_
  · match i with
    | 0 =>
      cases h1
      cases h2
      refine ⟨cs, rfl, by simpa [fnX] using hcs.1, fun i x u h3 h4 => ?_⟩
      rw [fnX, List.getElem?_map] at h3
      cases hq : (enc tF f)[i]? with
      | none => rw [hq] at h3; cases h3
      | some c =>
        rw [hq] at h3
        cases h3
        have := hcs.2 i c u hq h4
        exact ⟨this, this.one⟩
    | i + 1 => simp at h1
  · obtain ⟨ao, cap, rfl, -, h4⟩ := rep_bytes hu
    exact ⟨ao, cap, he, h4, hx⟩
theorem c_rCan {W : World} {fs : List Fn} {v : Value} (hl : ∀ f ∈ fs, LenV f) (hn : fs.length ≤ 1000000) (hr : RepC W W0 (.fz 11 (encL tF fs)) v) :
    Calls Tryz.prog 30 #[.agg #[v]] W fun e W' => e = .returned (.int .i64 (canP fs)) ∧ Ext W W' := by
  have hc : callW Tryz.prog annX plansX 30 [⟨.agg, [.c (.fz 11 (encL tF fs))]⟩] ⟨[], []⟩ = some (⟨.one, [.c (.v (.int .i64 (canP fs)))]⟩, ⟨[], []⟩) := k_ref16_Can (fs, ()) _ (sp_rfileCan hl hn) _ (by kernel_rfl)
  refine (pure_one hc (vs := [.agg #[v]]) rfl fun i t u h1 h2 => ?_).mono fun e W' ⟨u, he, hu, hx⟩ => ?_
  · cases i with
    | zero =>
      cases h1
      cases h2
      refine ⟨[v], rfl, rfl, fun i x u h3 h4 => ?_⟩
      cases i with
      | zero => cases h3; cases h4; exact ⟨hr, hr.one⟩
      | succ i => simp at h3
    | succ i => simp at h1
  · cases hu
    exact ⟨he, hx⟩
/-- The bytes ahead of a function. -/
def accE (fs : List Fn) (k : Nat) : List UInt8 := [73, 78, 76, 49] ++ putB fs.length ++ ((fs.take k).map fncV).flatten
theorem accE_succ {fs : List Fn} {k : Nat} (h : k < fs.length) : accE fs (k + 1) = accE fs k ++ fncV fs[k] := by
  unfold accE
  rw [List.take_succ_eq_append_getElem h, List.map_append, List.flatten_append, ← List.append_assoc]
  show _ = _ ++ fncV fs[k]
  congr 1
  show fncV fs[k] ++ [] = _
  rw [List.append_nil]
theorem accE_le {fs : List Fn} {k : Nat} (h : ∀ f ∈ fs, CanV f) (h40 : fs.length ≤ 40) (h1 : 1 ≤ fs.length) : (accE fs k).length ≤ 20000000 := by
  have := puts_le (fs := fs.take k) fun f hf => h f (List.mem_of_mem_take hf)
  rw [List.length_take] at this
  have h2 : min k fs.length ≤ 40 := by omega
  have := Nat.mul_le_mul_right 250000 h2
  have := putB_le fs.length
  simp only [accE, List.length_append, List.length_cons, List.length_nil]
  omega
set_option maxHeartbeats 4000000 in
theorem rencode_walk (fs : List Fn) (v : Value) (w : World) (hr : RepC w W0 (.fz 11 (encL tF fs)) v) (hl : ∀ f ∈ fs, LenV f) (hd : ∀ f ∈ fs, DatV f) (hn : fs.length ≤ 1000000) :
    Calls Tryz.prog 25 #[.agg #[v]] w (EncQ w fs) := by
  obtain ⟨ao, cap, rfl, hel⟩ := row_elem hr
  have hx1 := (Ext.rf w).al (.cells #[.slice ao fs.length cap] 51)
  have hr1 : RepC (w.alloc (.cells #[.slice ao fs.length cap] 51)) W0 (.fz 11 (encL tF fs)) (.slice ao fs.length cap) := (hand_rep hx1.size (fun b h1 _ => hx1.block h1) hr).mono fun _ _ => rfl
  have hC := Lib.hid (c_rCan hl hn hr1)
  have HX1 := Lib.hid hx1
  clear hr1 hx1
  go_enter Tryz.func25, Tryz.ntmps25
  go_wp2_with fail
  refine hC.out.mono ?_
  rintro e w1 ⟨rfl, hx2⟩
  have HX2 := Lib.hid (HX1.out.tr hx2)
  have hp1 := Lib.hid ((hx2.block (by simp)).trans (alloc_new w (.cells #[.slice ao fs.length cap] 51)))
  clear hx2 hC HX1
  by_cases hz : canP fs = 0
  case neg =>
    have hzB : (canP fs != 0) = true := by simp [hz]
    have hzB2 : (canP fs == 0) = false := by simp [hz]
    have hE : encodeR fs = ([], canP fs) := if_neg hz
    go_wp2_with fail
    go_ret2
    refine ⟨HX2.out, none, 0, ?_, ?_, ?_⟩ <;> rw [hE]
    · rfl
    · exact Cells.nil _ _
    · exact ⟨Nat.le_refl _, fun b off e => by cases e⟩
  rw [hz]
  have hE : encodeR fs = ([73, 78, 76, 49] ++ putB fs.length ++ (fs.map fncV).flatten, 0) := if_pos hz
  have hcond : ¬(fs.length < 1 ∨ 40 < fs.length) := fun h => by rw [canP, if_pos h] at hz; exact absurd hz (by decide)
  have hall : ∀ f ∈ fs, CanV f := by
    rw [canP, if_neg hcond] at hz
    by_cases h0 : firstE fs = 0
    · exact firstE_zero.1 h0
    · rw [if_neg h0] at hz; exact absurd hz h0
  have h1 : 1 ≤ fs.length := by omega
  have h40 : fs.length ≤ 40 := by omega
  obtain ⟨b, off, rfl, hbw, hj⟩ := hel (fun h => by rw [h] at h1; simp at h1)
  have HJ := Lib.hid hj
  have HA := Lib.hid hall
  have pc : w1.cell? ⟨w.heap.size, 0, none⟩ = some (.slice (some ⟨b, off, none⟩) fs.length cap) := blk hp1.out 0 rfl
  have kc := fun (w : World) (C : Array Value) (n c : Nat) => Lib.run_convert_bytes_const (P := Tryz.prog) w 22 5 C n c Tryz.underlying22 Tryz.underlying5
  have pcA : (w1.alloc (.cells #[.int .u8 73, .int .u8 78, .int .u8 76, .int .u8 49] 5 (4, 5))).cell? ⟨w.heap.size, 0, none⟩ = some (.slice (some ⟨b, off, none⟩) fs.length cap) := Lib.cell?_alloc_marked _ pc
  have hcA : Cells (w1.alloc (.cells #[.int .u8 73, .int .u8 78, .int .u8 76, .int .u8 49] 5 (4, 5))) (some ⟨w1.heap.size, 0, none⟩) (([73, 78, 76, 49] : List UInt8).map byteC) := by
    refine ⟨fun _ => ⟨_, _, rfl⟩, fun b off e j u hu => ?_⟩
    simp only [Option.some.injEq, Addr.mk.injEq, and_true] at e
    obtain ⟨rfl, rfl⟩ := e
    rw [Nat.zero_add, World.cell?_alloc_mark]
    simpa [byteC] using hu
  have hu64 : IntKind.u64.wrap (fs.length : Int) = fs.length := by rw [IntKind.wrap_u64]; omega
  have HXA := Lib.hid (HX2.out.al (.cells #[.int .u8 73, .int .u8 78, .int .u8 76, .int .u8 49] 5 (4, 5)))
  have HCA := Lib.hid hcA
  have HU := Lib.hid (c_rPut (n := fs.length) (by omega) (w1.alloc (.cells #[.int .u8 73, .int .u8 78, .int .u8 76, .int .u8 49] 5 (4, 5))))
  have HDt := Lib.hid hd
  clear hcond hj hall hr hl hn hel hz hcA hd
  have hpb : putB fs.length = [UInt8.ofNat fs.length] := putB_small (by omega)
  go_wp2_with fail
  refine HU.out.mono ?_
  rintro e w2 ⟨ao2, cap2, rfl, hc2, hx2⟩
  rw [hpb] at hc2
  obtain ⟨b2, o2, rfl⟩ := hc2.addr (by simp)
  have HX3 := Lib.hid (HXA.out.tr hx2)
  have hp2 := Lib.hid ((hx2.block (Nat.lt_of_lt_of_le (Array.getElem?_eq_some_iff.1 hp1.out).1 (by simp))).trans (((Ext.rf w1).al _).block (Array.getElem?_eq_some_iff.1 hp1.out).1 |>.trans hp1.out))
  have HL := Lib.hid (HCA.out.ext hx2)
  have HS := Lib.hid hc2
  have hlen1 : (putB fs.length).length = 1 := by rw [hpb]; rfl
  rw [hlen1]
  clear hx2 HU kc pc pcA hc2 HCA HXA
  have pc : w2.cell? ⟨w.heap.size, 0, none⟩ = some (.slice (some ⟨b, off, none⟩) fs.length cap) := blk hp2.out 0 rfl
  go_wp2_with (at_builtin; (refine wpList_append_grows _ rfl (.tmp 13) (.tmp 18) 22 rfl 5 _ (.int .u8 0) 1 1 Tryz.underlying22 rfl rfl rfl rfl rfl (by decide) (some ⟨w1.heap.size, 0, none⟩) 4 4 (([73, 78, 76, 49] : List UInt8).map byteC) rfl (by simp) (by simp) (fun b hb j u hu => by cases hb; rw [addr_addD]; exact HL.out.cell w1.heap.size 0 rfl j u hu) ⟨b2, o2, none⟩ 1 cap2 [byteC (UInt8.ofNat fs.length)] rfl rfl (fun j u hu => by rw [addr_addD]; exact HS.out.cell _ _ rfl j u hu) (by simp [Value.oneCell', byteC]) (by omega) (by unfold maxLen; omega) (by omega) ?_; intro v3 w3 hown3 hgr3; have HO3 := Lib.hid (own_low (Array.getElem?_eq_some_iff.1 hp2.out).1 hown3); have HX4 := Lib.hid (HX3.out.tr (grownBy_ext hgr3)); have pc3 : w3.cell? ⟨w.heap.size, 0, none⟩ = some (.slice (some ⟨b, off, none⟩) fs.length cap) := (cell_of_block ((grownBy_ext hgr3).block (Array.getElem?_eq_some_iff.1 hp2.out).1)).trans pc; have hp3 := Lib.hid (((grownBy_ext hgr3).block (Array.getElem?_eq_some_iff.1 hp2.out).1).trans hp2.out); clear hown3 hgr3 pc))
  clear pc3
  go_loopw [5, 6] (fun u i wr => ∃ k : Nat, k ≤ fs.length ∧ i = .int .i64 k ∧ Hid (wr.ownsRow (w.heap.size + 1) 5 1 u (accE fs k).length ((accE fs k).map byteC)) ∧ Hid (Ext w wr) ∧ Hid (wr.heap[w.heap.size]? = some (.cells #[.slice (some ⟨b, off, none⟩) fs.length cap] 51)))
    (fun _ i _ => fs.length - (intOf i).toNat)
  case atStart => exact ⟨0, Nat.zero_le _, rfl, Lib.hid (by simpa [accE, hpb] using HO3.out), HX4, hp3⟩
  case round =>
    obtain ⟨k, hk, rfl, HO, HX, HP⟩ := hrel
    have pc : wr.cell? ⟨w.heap.size, 0, none⟩ = some (.slice (some ⟨b, off, none⟩) fs.length cap) := blk HP.out 0 rfl
    by_cases hlt : k < fs.length
    · have hltB : decide ((k : Int) < (fs.length : Int)) = true := decide_eq_true (by omega)
      have hltB2 : decide (k < fs.length) = true := decide_eq_true hlt
      obtain ⟨cs, hcs, hrg⟩ := HJ.out k hlt
      obtain ⟨a1, c1, a2, c2, a3, c3, a4, c4, a5, c5, a6, c6, a7, c7, a8, c8, a9, c9, hcse⟩ := fn_cells hcs
      have hrg2 : wr.rangeAt b (off + k * 11) cs := fun j u hu => (cell_of_block (HX.out.block hbw)).trans (hrg j u hu)
      have hcsA : Hid (RepCs wr W0 (enc tF fs[k]) cs) := Lib.hid ((hand_reps HX.out.size (fun b h1 _ => HX.out.block h1) hcs).mono fun _ _ => rfl)
      have hacc := accE_le (k := k) HA.out h40 h1
      have hfl : (fncV fs[k]).length ≤ 250000 := fncL_le (HA.out fs[k] (List.getElem_mem hlt))
      rw [hcse] at hrg2
      have e0 := hrg2 0 _ rfl
      have e1 := hrg2 1 _ rfl
      have e2 := hrg2 2 _ rfl
      have e3 := hrg2 3 _ rfl
      have e4 := hrg2 4 _ rfl
      have e5 := hrg2 5 _ rfl
      have e6 := hrg2 6 _ rfl
      have e7 := hrg2 7 _ rfl
      have e8 := hrg2 8 _ rfl
      have e9 := hrg2 9 _ rfl
      have e10 := hrg2 10 _ rfl
      rw [Nat.add_zero] at e0
      clear hrg2
      rw [hcse] at hcsA
      go_wp2_with fail
      refine (c_rPut15 (HDt.out fs[k] (List.getElem_mem hlt)) (HA.out fs[k] (List.getElem_mem hlt)) hcsA.out).mono ?_
      rintro e w4 ⟨ao4, cap4, rfl, hc4, hx4⟩
      have HO4 := own_at HO.out fun y hy => hx4.block (HO.out.lt y hy).2
      have HX5 := HX.out.tr hx4
      have HP4 := Lib.hid ((hx4.block (Array.getElem?_eq_some_iff.1 HP.out).1).trans HP.out)
      have haccS : accE fs (k + 1) = accE fs k ++ fncV fs[k] := accE_succ hlt
      generalize hacE : accE fs k = acc at *
      have HH := Lib.hid hacE
      have HHS := Lib.hid haccS
      clear hacE haccS hx4 hcsA e0 e1 e2 e3 e4 e5 e6 e7 e8 e9 e10 hcs hrg pc
      go_wp2_with (at_builtin; (refine wpList_appendAll rfl (.tmp 27) (.tmp 33) 22 rfl (w.heap.size + 1) 5 (.int .u8 0) 1 1 Tryz.underlying22 (by kernel_rfl) rfl (by decide) _ acc.length _ ao4 (fncV fs[k]).length _ ((fncV fs[k]).map byteC) rfl HO4 rfl hc4 (by simp) (by intro u hu; simp only [List.mem_map] at hu; obtain ⟨_, _, rfl⟩ := hu; rfl) (by unfold maxLen; omega) (by omega) (Array.getElem?_eq_some_iff.1 HP4.out).1 ?_; intro v' w5 HO5 hgr; have HX6 := HX5.push HO4 (Nat.le_succ _) hgr; have HP5 := Lib.hid ((hgr.block _ (Array.getElem?_eq_some_iff.1 HP4.out).1 (fun e => by have := (HO4.lt _ e.symm).1; omega)).trans HP4.out); clear hgr HO4 HX5))
      have hA : accE fs (k + 1) = acc ++ fncV fs[k] := HHS.out
      exact ⟨⟨k + 1, hlt, rfl, Lib.hid (by rw [hA, List.length_append, List.map_append]; exact HO5), Lib.hid HX6, HP5⟩, (by show fs.length - ((k : Int) + 1).toNat < fs.length - ((k : Int)).toNat; omega)⟩
    · obtain rfl : k = fs.length := by omega
      have hltB : decide ((fs.length : Int) < (fs.length : Int)) = false := decide_eq_false (by omega)
      have hltB2 : decide (fs.length < fs.length) = false := decide_eq_false (by omega)
      go_wp2_with fail
      go_ret2
      refine ⟨HX.out, ?_⟩
      have h2 := HO.out
      rw [accE, List.take_length] at h2
      obtain ⟨ao, cap', hv, h3, -, h4⟩ := Cells.own h2
      refine ⟨ao, cap', ?_, ?_, ?_⟩ <;> rw [hE]
      · rw [hv]; rfl
      · exact h4
      · refine ⟨h3, fun b off e => ?_⟩
        subst hv
        subst e
        exact Nat.le_of_succ_le (h2.lt b rfl).1
end Go.Proofs.YtkdnbnkbnegckaaGreat
