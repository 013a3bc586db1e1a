/- file.Can, file.Encode: what they come to. file.Encode: the calls that it makes. -/
import Derived.Test.YtkdnbnkbnegckaaGreatDew
import Derived.Test.YtkdnbnkbnegckaaGreatSpG
import Derived.ArgAppend
import Derived.Lib.SlBytesConst
import Derived.Deep.MidRow
namespace Go.Proofs.YtkdnbnkbnegckaaGreat
open Go.RowKit
set_option maxRecDepth 20000
def canV (f : Fn) : Int := canE f.1 f.2.1 f.2.2.1 f.2.2.2.1 f.2.2.2.2.1 f.2.2.2.2.2.1 f.2.2.2.2.2.2.1 f.2.2.2.2.2.2.2.1 f.2.2.2.2.2.2.2.2.1 f.2.2.2.2.2.2.2.2.2.1 f.2.2.2.2.2.2.2.2.2.2
def CanV (f : Fn) : Prop := CanF f.1 f.2.1 f.2.2.1 f.2.2.2.1 f.2.2.2.2.1 f.2.2.2.2.2.1 f.2.2.2.2.2.2.1 f.2.2.2.2.2.2.2.1 f.2.2.2.2.2.2.2.2.1 f.2.2.2.2.2.2.2.2.2.1 f.2.2.2.2.2.2.2.2.2.2
def DatV (f : Fn) : Prop := DatF f.2.2.2.2.2.2.1 f.2.2.2.2.2.2.2.1 f.2.2.2.2.2.2.2.2.1 f.2.2.2.2.2.2.2.2.2.1 f.2.2.2.2.2.2.2.2.2.2
def LenV (f : Fn) : Prop := Len f.1 ∧ LenF f.2.2.1 f.2.2.2.1 f.2.2.2.2.1 f.2.2.2.2.2.1 f.2.2.2.2.2.2.1 f.2.2.2.2.2.2.2.1 f.2.2.2.2.2.2.2.2.1 f.2.2.2.2.2.2.2.2.2.1 f.2.2.2.2.2.2.2.2.2.2 ∧ f.2.2.2.2.2.2.2.2.1.length ≤ 1000000
def fncV (f : Fn) : List UInt8 := fncL f.1 f.2.1 f.2.2.1 f.2.2.2.1 f.2.2.2.2.1 f.2.2.2.2.2.1 f.2.2.2.2.2.2.1 f.2.2.2.2.2.2.2.1 f.2.2.2.2.2.2.2.2.1 f.2.2.2.2.2.2.2.2.2.1 f.2.2.2.2.2.2.2.2.2.2
theorem canV_iff {f : Fn} : canV f = 0 ↔ CanV f := canE_iff
def firstE : List Fn → Int
  | [] => 0
  | f :: l => if canV f = 0 then firstE l else canV f
theorem firstE_zero : ∀ {fs : List Fn}, firstE fs = 0 ↔ ∀ f ∈ fs, CanV f
  | [] => by simp [firstE]
  | f :: l => by
    rw [firstE]
    by_cases h : canV f = 0
    · rw [if_pos h, firstE_zero]; simp [canV_iff.1 h]
    · rw [if_neg h]; simp only [h, List.mem_cons, forall_eq_or_imp, false_iff]; exact fun h2 => h (canV_iff.2 h2.1)
/-- What file.Can answers. -/
def canP (fs : List Fn) : Int :=
  if fs.length < 1 ∨ 40 < fs.length then 6 else if firstE fs = 0 then (if (fs.map (·.1)).Nodup then 0 else 7) else firstE fs
theorem sp_fileCan {fs : List Fn} (hl : ∀ f ∈ fs, LenV f) (hn : fs.length ≤ 1000000) : S_file_Can fs = some (canP fs, ()) := by
  refine u_file_Can (N := fs.length + 1) ?_
  by_cases h1 : fs.length < 1
  · have h2 : (fs.length : Int) < 1 := by omega
    simp [M_file_Can, canP, h1, h2]
  have h2 : ¬(fs.length : Int) < 1 := by omega
  by_cases h3 : 40 < fs.length
  · have h4 : (40 : Int) < (fs.length : Int) := by omega
    simp [M_file_Can, canP, h1, h2, h3, h4]
  have h4 : ¬(40 : Int) < (fs.length : Int) := by omega
  simp [M_file_Can, canP, h1, h2, h3, h4]
  refine iter_to (fun d => fs.length - d.2.1.toNat) (fun d => ∃ k : Nat, d = (fs, (k : Int), ()) ∧ k ≤ fs.length ∧ firstE fs = firstE (fs.drop k)) ?_ _ _ ⟨0, by simp, Nat.zero_le _, rfl⟩ (by simp)
  rintro _ again ⟨k, rfl, hk, hf⟩ ih
  by_cases h : k < fs.length
  · have hw : wrp .i64 ((k : Int) + 1) = (k : Int) + 1 := wi64 (by omega) (by omega)
    obtain ⟨g1, g2, g3⟩ := hl fs[k] (List.getElem_mem h)
    have hC := sp_Can (inner := fs[k].2.1) g1 g2 g3
    have hd : fs.drop k = fs[k] :: fs.drop (k + 1) := List.drop_eq_getElem_cons h
    rw [hd, firstE] at hf
    by_cases hz : canV fs[k] = 0
    · rw [if_pos hz] at hf
      have hz2 : canE fs[k].1 fs[k].2.1 fs[k].2.2.1 fs[k].2.2.2.1 fs[k].2.2.2.2.1 fs[k].2.2.2.2.2.1 fs[k].2.2.2.2.2.2.1 fs[k].2.2.2.2.2.2.2.1 fs[k].2.2.2.2.2.2.2.2.1 fs[k].2.2.2.2.2.2.2.2.2.1 fs[k].2.2.2.2.2.2.2.2.2.2 = 0 := hz
      rw [hz2] at hC
      have := ih (fs, (k : Int) + 1, ()) ⟨k + 1, rfl, h, hf⟩ (by simp; omega)
      simpa [h, bnd_get h, hw, hC] using this
    · rw [if_neg hz] at hf
      have hz2 : ¬canE fs[k].1 fs[k].2.1 fs[k].2.2.1 fs[k].2.2.2.1 fs[k].2.2.2.2.1 fs[k].2.2.2.2.2.1 fs[k].2.2.2.2.2.2.1 fs[k].2.2.2.2.2.2.2.1 fs[k].2.2.2.2.2.2.2.2.1 fs[k].2.2.2.2.2.2.2.2.2.1 fs[k].2.2.2.2.2.2.2.2.2.2 = 0 := hz
      have hf2 : ¬firstE fs = 0 := by rw [hf]; exact hz
      rw [if_neg hf2, hf]
      simp [h, bnd_get h, hC, hz2]
      rfl
  · have : k = fs.length := by omega
    subst this
    have hf0 : firstE fs = 0 := by rw [hf]; simp [firstE]
    have hcan := firstE_zero.1 hf0
    have hU : S_names_Unlike (fs.map (·.1)) = some (decide (fs.map (·.1)).Nodup, ()) := by
      unfold S_names_Unlike
      rw [show (leN (fs.map (·.1)).length 1000000 && (fs.map (·.1)).all fun s => decide (s.length ≤ 1000000)) = true from by
        rw [Bool.and_eq_true]
        refine ⟨decide_eq_true (by rw [List.length_map]; exact hn), List.all_eq_true.2 fun s h => decide_eq_true ?_⟩
        obtain ⟨f, hf1, rfl⟩ := List.mem_map.1 h
        have := (CanF.len (hcan f hf1)).1
        omega]
      rfl
    by_cases hnd : (fs.map (·.1)).Nodup <;> simp [sp_called hn, hU, hf0, hnd]
end Go.Proofs.YtkdnbnkbnegckaaGreat
namespace Go.Proofs.YtkdnbnkbnegckaaGreat
open Go.RowKit
set_option maxRecDepth 20000
theorem own_zero {w : World} {base : Nat} {e : TypeId} {size : Nat} {v : Value} {n : Nat} {xs : List Value} (h : w.ownsRow base e size v n xs) : w.ownsRow 0 e size v n xs := by
  refine ⟨h.1, ?_⟩
  rcases h.2 with h3 | ⟨g, cap, cur, rfl, h4, h5, h6⟩
  · exact .inl h3
  · exact .inr ⟨g, cap, cur, rfl, Nat.zero_le _, h5, h6⟩
/-- The first append: onto a literal that is full. -/
theorem uPut_full (g n : Nat) (olds : List UInt8) (w : World) (hn : n < 128) (hc : Cells w (some ⟨g, 0, none⟩) (olds.map byteC)) (hl : olds.length ≤ 100) :
    Calls Tryz.prog 60 #[.slice (some ⟨g, 0, none⟩) olds.length olds.length, .int .u64 n] w fun e w' => ∃ v', e = .returned v' ∧ w'.ownsRow 0 5 1 v' (olds.length + 1) ((olds ++ [UInt8.ofNat n]).map byteC) ∧ (∀ y, v'.ownBlock = some y → w.heap.size ≤ y) ∧ Ext w w' := by
  have hB : decide ((128 : Int) ≤ (n : Int)) = false := decide_eq_false (by omega)
  have hB2 : decide (128 ≤ n) = false := decide_eq_false (by omega)
  have hwr : IntKind.u8.wrap (n : Int) = n := by rw [IntKind.wrap_u8]; omega
  have hbc : byteC (UInt8.ofNat n) = .int .u8 n := by rw [byteC, ← ofNat_lt (show n < 256 by omega)]
  have HC := Lib.hid hc
  clear hc
  go_enter Tryz.func60, Tryz.ntmps60
  go_wp2_with fail
  go_loopw [0, 1] (fun u x wr => u = .slice (some ⟨g, 0, none⟩) olds.length olds.length ∧ x = .int .u64 n ∧ wr = w) (fun _ _ _ => 0)
  case atStart => exact ⟨rfl, rfl, rfl⟩
  case round =>
    obtain ⟨rfl, rfl, rfl⟩ := hrel
    go_wp2_with (at_builtin; (refine wpList_append_grows _ rfl (.tmp 15) (.tmp 18) 22 rfl 5 _ (.int .u8 0) 1 1 Tryz.underlying22 rfl rfl rfl rfl rfl (by decide) (some ⟨g, 0, none⟩) olds.length olds.length (olds.map byteC) rfl (by simp) (by simp) (fun b hb j u hu => by cases hb; rw [addr_addD]; exact (HC.out.ext ((Ext.rf _).al _)).cell g 0 rfl j u hu) ⟨wr.heap.size, 0, none⟩ 1 1 [.int .u8 n] rfl rfl (fun j u hu => by rw [addr_addD]; exact (cells_new wr [.int .u8 n] 5 _ rfl).cell _ 0 rfl j u hu) (by simp [Value.oneCell']) (by omega) (by unfold maxLen; omega) (by omega) ?_; intro v' w1 hown hgr))
    go_ret
    have hx := ((Ext.rf wr).al (.cells #[.int .u8 n] 5)).tr (grownBy_ext hgr)
    refine ⟨v', rfl, ?_, fun y hy => ?_, hx⟩
    · rw [List.map_append, List.map_cons, hbc]
      exact own_zero hown
    · have := (hown.lt y hy).1
      simp at this
      omega
theorem w_Put {xs ys : List UInt8} {f : Fn} (h : S_fnc_Put xs f.1 f.2.1 f.2.2.1 f.2.2.2.1 f.2.2.2.2.1 f.2.2.2.2.2.1 f.2.2.2.2.2.2.1 f.2.2.2.2.2.2.2.1 f.2.2.2.2.2.2.2.2.1 f.2.2.2.2.2.2.2.2.2.1 f.2.2.2.2.2.2.2.2.2.2 = some (ys, ())) :
    callW Tryz.prog annX plansX 20 [⟨.one, [.own 0 0 (encL tY xs).length]⟩, ⟨.agg, fnX f⟩] ⟨[], [.mu 5 1 (encL tY xs)]⟩ = some (⟨.one, [.own 1 0 (encL tY ys).length]⟩, ⟨[], [.dead, .mu 5 1 (encL tY ys)]⟩) :=
  k_fnc_Put (xs, (f.1, (f.2.1, (f.2.2.1, (f.2.2.2.1, (f.2.2.2.2.1, (f.2.2.2.2.2.1, (f.2.2.2.2.2.2.1, (f.2.2.2.2.2.2.2.1, (f.2.2.2.2.2.2.2.2.1, (f.2.2.2.2.2.2.2.2.2.1, (f.2.2.2.2.2.2.2.2.2.2, ())))))))))))) _ h _ (by kernel_rfl)
theorem flat_bytes : ∀ (l : List UInt8), (encL tY l).flatten = l.map fun x => C.v (byteC x)
  | [] => rfl
  | x :: l => by
    show [C.v (byteC x)] ++ (encL tY l).flatten = _
    rw [flat_bytes l]
    rfl
theorem encL_len {σ : Ty} (l : List (Data σ)) : (encL σ l).length = l.length := List.length_map _
theorem bytes_reps {W : World} {who : Nat → Who} (l : List UInt8) : RepCs W who (encL tY l).flatten (l.map byteC) := by
  rw [flat_bytes]
  refine ⟨by simp, fun i c u h1 h2 => ?_⟩
  rw [List.getElem?_map] at h1 h2
  cases hx : l[i]? with
  | none => rw [hx] at h1; cases h1
  | some x => rw [hx] at h1 h2; cases h1; cases h2; exact .v _ rfl
theorem reps_bytes {W : World} {who : Nat → Who} {l : List UInt8} {us : List Value} (H : RepCs W who (encL tY l).flatten us) : us = l.map byteC := by
  rw [flat_bytes] at H
  refine List.ext_getElem? fun i => ?_
  have hl := H.1
  rw [List.length_map] at hl
  rw [List.getElem?_map]
  by_cases h : i < l.length
  · have h2 : i < us.length := by omega
    have := H.2 i (.v (byteC l[i])) us[i] (by rw [List.getElem?_map, List.getElem?_eq_getElem h]; rfl) (List.getElem?_eq_getElem h2)
    rw [List.getElem?_eq_getElem h2, List.getElem?_eq_getElem h]
    generalize us[i] = u at *
    cases this
    rfl
  · rw [List.getElem?_eq_none (by omega), List.getElem?_eq_none (by omega)]
    rfl
/-- fnc.Put, onto a row of one's own. -/
theorem put_own {w W : World} (hx : Ext w W) {xs ys : List UInt8} {v : Value} {f : Fn} {cs : List Value} (hown : W.ownsRow 0 5 1 v xs.length (xs.map byteC)) (hb : ∀ y, v.ownBlock = some y → w.heap.size ≤ y) (hcs : RepCs W (whoB fun k => decide (k < w.heap.size)) (enc tF f) cs)
    (hS : S_fnc_Put xs f.1 f.2.1 f.2.2.1 f.2.2.2.1 f.2.2.2.2.1 f.2.2.2.2.2.1 f.2.2.2.2.2.2.1 f.2.2.2.2.2.2.2.1 f.2.2.2.2.2.2.2.2.1 f.2.2.2.2.2.2.2.2.2.1 f.2.2.2.2.2.2.2.2.2.2 = some (ys, ())) :
    Calls Tryz.prog 20 #[v, .agg cs.toArray] W fun e W' => ∃ v', e = .returned v' ∧ W'.ownsRow 0 5 1 v' ys.length (ys.map byteC) ∧ (∀ y, v'.ownBlock = some y → w.heap.size ≤ y) ∧ Ext w W' := by
  obtain ⟨who, hwho⟩ : ∃ who : Nat → Who, who = fun b => if b < w.heap.size then .frozen else if v.ownBlock = some b then .row 0 else .other := ⟨_, rfl⟩
  have hf : ∀ b, b < w.heap.size → who b = .frozen := fun b h => by rw [hwho]; exact if_pos h
  obtain ⟨ao, cap, hv, hcap⟩ : ∃ ao cap, v = .slice ao xs.length cap ∧ xs.length ≤ cap := by
    obtain ⟨ao, cap, h1, h2, -, -⟩ := Cells.own hown
    exact ⟨ao, cap, h1, h2⟩
  have H0 : HSim W who ⟨id, fun _ => v⟩ ⟨[], [.mu 5 1 (encL tY xs)]⟩ := by
    refine ⟨fun k xs h => by simp at h, fun r ty sz es h => ?_, fun r sz es h => ?_⟩
    · cases r with
      | zero =>
        cases h
        refine ⟨fun e he => by obtain ⟨x, _, rfl⟩ := List.mem_map.1 he; rfl, ⟨xs.map byteC, by rw [encL_len]; exact hown, bytes_reps xs⟩, fun g hg => ?_⟩
        rw [hwho]
        show (if _ then _ else _) = _
        have := hb g hg
        rw [if_neg (by omega), if_pos hg]
      | succ r => simp at h
    · cases r with
      | zero => cases h
      | succ r => simp at h
  refine ((callW_ok (A := annX) base_ok prog_ok _ _ _ _ _ (w_Put hS)).2 W who ⟨id, fun _ => v⟩ [v, .agg cs.toArray] H0 rfl fun i t u h1 h2 => ?_).mono fun e W' ⟨v', who', L', he, hv', H', S⟩ => ?_
  · match i with
    | 0 =>
      cases h1
      cases h2
      refine ⟨_, rfl, Nat.zero_lt_one, ⟨ao, cap, by rw [encL_len]; exact hv⟩, fun sz es h => ?_⟩
      cases h
      refine ⟨by simp, ao, cap, ao, cap, by rw [encL_len]; exact hv, by rw [encL_len]; exact hv, by rw [encL_len]; exact hcap, fun _ b o e => by rw [e]; simp, fun _ _ => rfl⟩
    | 1 =>
      cases h1
      cases h2
      refine ⟨cs, rfl, by simpa [fnX] using hcs.1, fun i x u h3 h4 => ?_⟩
      rw [fnX, List.getElem?_map] at h3
      cases hq : (enc tF f)[i]? with
      | none => rw [hq] at h3; cases h3
      | some c =>
        rw [hq] at h3
        cases h3
        have := (hcs.2 i c u hq h4).mono (who' := who) fun b hb2 => by
          by_cases h : b < w.heap.size
          · exact hf b h
          · rw [whoB, if_neg (by simpa using h)] at hb2; cases hb2
        exact ⟨this, this.one⟩
    | i + 2 => simp at h1
  · obtain ⟨x, hx1, hx2⟩ := hv'
    cases hx1
    obtain ⟨-, -, hsub⟩ := hx2
    obtain ⟨-, _, _, _, _, -, -, -, -, heq⟩ := hsub _ _ rfl
    have hvv := heq rfl rfl
    obtain ⟨-, ⟨us, ho, hr⟩, hw⟩ := H'.mu 1 _ _ _ rfl
    rw [← hvv] at ho hw
    rw [encL_len, reps_bytes hr] at ho
    refine ⟨v', he, ho, fun y hy => ?_, S.os.trans hx.b.os, S.tape.trans hx.b.tape, S.output.trans hx.b.output, Nat.le_trans hx.size S.size, fun b h => (S.fro b (hf b h) (Nat.lt_of_lt_of_le h hx.size)).1.trans (hx.block h)⟩
    refine Nat.le_of_not_lt fun hlt => ?_
    have := (S.fro y (hf y hlt) (Nat.lt_of_lt_of_le hlt hx.size)).2
    rw [hw y hy] at this
    cases this
/-- One of the functions of a row. -/
theorem row_elem {W : World} {v : Value} {fs : List Fn} (hr : RepC W W0 (.fz 11 (encL tF fs)) v) : ∃ ao cap, v = .slice ao fs.length cap ∧ (fs ≠ [] → ∃ b off, ao = some ⟨b, off, none⟩ ∧ b < W.heap.size ∧ ∀ j (h : j < fs.length), ∃ cs, RepCs W W0 (enc tF fs[j]) cs ∧ W.rangeAt b (off + j * 11) cs) := by
  obtain ⟨es, he⟩ : ∃ es, es = encL tF fs := ⟨_, rfl⟩
  have hel : es.length = fs.length := by rw [he, encL_len]
  rw [← he] at hr
  cases hr with
  | fz _ cap _ ao us hu hc ha hw hrg hl hrep =>
    refine ⟨ao, cap, by rw [hel], fun hne => ?_⟩
    have hne2 : es ≠ [] := fun h => hne (List.eq_nil_of_length_eq_zero (by rw [← hel, h]; rfl))
    obtain ⟨b, off, rfl⟩ := ha hne2
    refine ⟨b, off, rfl, (hw b off hne2 rfl).2, fun j hj => ?_⟩
    have hj2 : j < es.length := by rw [hel]; exact hj
    have hej : es[j] = enc tF fs[j] := by subst he; exact List.getElem_map _
    have hfl := flatten_len es hu
    have hul : us.length = es.length * 11 := by rw [← hl, hfl]
    have hle : j * 11 + 11 ≤ us.length := by rw [hul, ← Nat.succ_mul]; exact Nat.mul_le_mul_right 11 hj2
    have hflat : ∀ i, i < 11 → es.flatten[j * 11 + i]? = (enc tF fs[j])[i]? := fun i hi => by
      rw [← hej]
      have := congrArg (fun l => l[i]?) (flatten_at hu (List.getElem?_eq_getElem hj2))
      simp only [List.getElem?_take, if_pos hi, List.getElem?_drop] at this
      exact this
    refine ⟨(us.drop (j * 11)).take 11, ⟨by rw [List.length_take, List.length_drop, enc_len]; show 11 = _; omega, fun i c u h1 h2 => ?_⟩, fun i u hi => ?_⟩
    · have hi : i < 11 := by
        have := (List.getElem?_eq_some_iff.1 h1).1
        rw [enc_len] at this
        exact this
      rw [List.getElem?_take, if_pos hi, List.getElem?_drop] at h2
      exact hrep (j * 11 + i) c u (by rw [hflat i hi]; exact h1) h2
    · have hi2 : i < 11 := by
        rw [List.getElem?_take] at hi
        split at hi
        · assumption
        · cases hi
      rw [List.getElem?_take, if_pos hi2, List.getElem?_drop] at hi
      have := hrg b off rfl (j * 11 + i) u hi
      rw [Nat.add_assoc]
      exact this
theorem putB_small {n : Nat} (h : n < 128) : putB n = [UInt8.ofNat n] := by
  rw [putB, putF_lt _ h]
def encodeR (fs : List Fn) : List UInt8 × Int := if canP fs = 0 then ([73, 78, 76, 49] ++ putB fs.length ++ (fs.map fncV).flatten, 0) else ([], canP fs)
def EncQ (w : World) (fs : List Fn) (e : Ending) (w' : World) : Prop :=
  Ext w w' ∧ ∃ ao cap, e = .returned (.tuple #[.slice ao (encodeR fs).1.length cap, .int .i64 (encodeR fs).2]) ∧ Cells w' ao ((encodeR fs).1.map byteC) ∧ (encodeR fs).1.length ≤ cap ∧ ∀ b off, ao = some ⟨b, off, none⟩ → w.heap.size ≤ b
theorem c_fileCan {W : World} {fs : List Fn} {v : Value} (hl : ∀ f ∈ fs, LenV f) (hn : fs.length ≤ 1000000) (hr : RepC W W0 (.fz 11 (encL tF fs)) v) :
    Calls Tryz.prog 26 #[.agg #[v]] W fun e W' => e = .returned (.int .i64 (canP fs)) ∧ Ext W W' := by
  have hc : callW Tryz.prog annX plansX 26 [⟨.agg, [.c (.fz 11 (encL tF fs))]⟩] ⟨[], []⟩ = some (⟨.one, [.c (.v (.int .i64 (canP fs)))]⟩, ⟨[], []⟩) := k_file_Can (fs, ()) _ (sp_fileCan hl hn) _ (by kernel_rfl)
  refine (pure_one hc (vs := [.agg #[v]]) rfl fun i t u h1 h2 => ?_).mono fun e W' ⟨u, he, hu, hx⟩ => ?_
  · cases i with
    | zero =>
      cases h1
      cases h2
      refine ⟨[v], rfl, rfl, fun i x u h3 h4 => ?_⟩
      cases i with
      | zero => cases h3; cases h4; exact ⟨hr, hr.one⟩
      | succ i => simp at h3
    | succ i => simp at h1
  · cases hu
    exact ⟨he, hx⟩
theorem puts_le : ∀ {fs : List Fn}, (∀ f ∈ fs, CanV f) → ((fs.map fncV).flatten).length ≤ fs.length * 250000
  | [], _ => by simp
  | f :: l, h => by
    have h1 := fncL_le (h f (by simp))
    have h2 := puts_le fun g hg => h g (List.mem_cons_of_mem _ hg)
    rw [List.map_cons, List.flatten_cons, List.length_append, List.length_cons, Nat.succ_mul]
    have h3 : (fncV f).length ≤ 250000 := h1
    omega
set_option maxHeartbeats 4000000 in
theorem encode_walk (fs : List Fn) (v : Value) (w : World) (hr : RepC w W0 (.fz 11 (encL tF fs)) v) (hl : ∀ f ∈ fs, LenV f) (hd : ∀ f ∈ fs, DatV f) (hn : fs.length ≤ 1000000) :
    Calls Tryz.prog 24 #[.agg #[v]] w (EncQ w fs) := by
  obtain ⟨ao, cap, rfl, hel⟩ := row_elem hr
  have hx1 := (Ext.rf w).al (.cells #[.slice ao fs.length cap] 51)
  have hr1 : RepC (w.alloc (.cells #[.slice ao fs.length cap] 51)) W0 (.fz 11 (encL tF fs)) (.slice ao fs.length cap) := (hand_rep hx1.size (fun b h1 _ => hx1.block h1) hr).mono fun _ _ => rfl
  have hC := Lib.hid (c_fileCan hl hn hr1)
  have HX1 := Lib.hid hx1
  clear hr1 hx1
  go_enter Tryz.func24, Tryz.ntmps24
  go_wp2_with fail
  refine hC.out.mono ?_
  rintro e w1 ⟨rfl, hx2⟩
  have HX2 := Lib.hid (HX1.out.tr hx2)
  have hp1 := Lib.hid ((hx2.block (by simp)).trans (alloc_new w (.cells #[.slice ao fs.length cap] 51)))
  clear hx2 hC HX1
  by_cases hz : canP fs = 0
  case neg =>
    have hzB : (canP fs != 0) = true := by simp [hz]
    have hzB2 : (canP fs == 0) = false := by simp [hz]
    have hE : encodeR fs = ([], canP fs) := if_neg hz
    go_wp2_with fail
    go_ret2
    refine ⟨HX2.out, none, 0, ?_, ?_, ?_⟩ <;> rw [hE]
    · rfl
    · exact Cells.nil _ _
    · exact ⟨Nat.le_refl _, fun b off e => by cases e⟩
  rw [hz]
  have hE : encodeR fs = ([73, 78, 76, 49] ++ putB fs.length ++ (fs.map fncV).flatten, 0) := if_pos hz
  have hcond : ¬(fs.length < 1 ∨ 40 < fs.length) := fun h => by rw [canP, if_pos h] at hz; exact absurd hz (by decide)
  have hall : ∀ f ∈ fs, CanV f := by
    rw [canP, if_neg hcond] at hz
    by_cases h0 : firstE fs = 0
    · exact firstE_zero.1 h0
    · rw [if_neg h0] at hz; exact absurd hz h0
  have h1 : 1 ≤ fs.length := by omega
  have h40 : fs.length ≤ 40 := by omega
  obtain ⟨b, off, rfl, hbw, hj⟩ := hel (fun h => by rw [h] at h1; simp at h1)
  have HJ := Lib.hid hj
  have HA := Lib.hid hall
  have pc : w1.cell? ⟨w.heap.size, 0, none⟩ = some (.slice (some ⟨b, off, none⟩) fs.length cap) := blk hp1.out 0 rfl
  have kc := fun (w : World) (C : Array Value) (n c : Nat) => Lib.run_convert_bytes_const (P := Tryz.prog) w 22 5 C n c Tryz.underlying22 Tryz.underlying5
  have pcA : (w1.alloc (.cells #[.int .u8 73, .int .u8 78, .int .u8 76, .int .u8 49] 5 (4, 5))).cell? ⟨w.heap.size, 0, none⟩ = some (.slice (some ⟨b, off, none⟩) fs.length cap) := Lib.cell?_alloc_marked _ pc
  have hcA : Cells (w1.alloc (.cells #[.int .u8 73, .int .u8 78, .int .u8 76, .int .u8 49] 5 (4, 5))) (some ⟨w1.heap.size, 0, none⟩) (([73, 78, 76, 49] : List UInt8).map byteC) := by
    refine ⟨fun _ => ⟨_, _, rfl⟩, fun b off e j u hu => ?_⟩
    simp only [Option.some.injEq, Addr.mk.injEq, and_true] at e
    obtain ⟨rfl, rfl⟩ := e
    rw [Nat.zero_add, World.cell?_alloc_mark]
    simpa [byteC] using hu
  have hu64 : IntKind.u64.wrap (fs.length : Int) = fs.length := by rw [IntKind.wrap_u64]; omega
  have HXA := Lib.hid (HX2.out.al (.cells #[.int .u8 73, .int .u8 78, .int .u8 76, .int .u8 49] 5 (4, 5)))
  have HU := Lib.hid (uPut_full w1.heap.size fs.length [73, 78, 76, 49] _ (by omega) hcA (by decide))
  have HDt := Lib.hid hd
  clear hcond hj hall hr hl hn hel hz hcA hd
  go_wp2_with fail
  refine HU.out.mono ?_
  rintro e w2 ⟨v2, rfl, hown2, hfr2, hx2⟩
  have HX3 := Lib.hid (HXA.out.tr hx2)
  have hp2 := Lib.hid ((hx2.block (Nat.lt_of_lt_of_le (Array.getElem?_eq_some_iff.1 hp1.out).1 (by simp))).trans (((Ext.rf w1).al _).block (Array.getElem?_eq_some_iff.1 hp1.out).1 |>.trans hp1.out))
  have HO2 := Lib.hid hown2
  have HF2 := Lib.hid fun y hy => Nat.le_trans HXA.out.size (hfr2 y hy)
  clear hown2 hfr2 hx2 HU kc pc pcA
  have pc : w2.cell? ⟨w.heap.size, 0, none⟩ = some (.slice (some ⟨b, off, none⟩) fs.length cap) := blk hp2.out 0 rfl
  go_wp2_with fail
  have hpb : putB fs.length = [UInt8.ofNat fs.length] := putB_small (by omega)
  go_loopw [5, 23] (fun u i wr => ∃ k : Nat, k ≤ fs.length ∧ i = .int .i64 k ∧ Hid (wr.ownsRow 0 5 1 u ([73, 78, 76, 49] ++ putB fs.length ++ ((fs.take k).map fncV).flatten).length (([73, 78, 76, 49] ++ putB fs.length ++ ((fs.take k).map fncV).flatten).map byteC)) ∧ Hid (∀ y, u.ownBlock = some y → w.heap.size ≤ y) ∧ Hid (Ext w wr))
    (fun _ i _ => fs.length - (intOf i).toNat)
  case atStart => exact ⟨0, Nat.zero_le _, rfl, Lib.hid (by simpa [hpb] using HO2.out), HF2, HX3⟩
  case round =>
    obtain ⟨k, hk, rfl, HO, HF, HX⟩ := hrel
    by_cases hlt : k < fs.length
    · have hltB : decide ((k : Int) < (fs.length : Int)) = true := decide_eq_true (by omega)
      have hltB2 : decide (k < fs.length) = true := decide_eq_true hlt
      obtain ⟨cs, hcs, hrg⟩ := HJ.out k hlt
      obtain ⟨a1, c1, a2, c2, a3, c3, a4, c4, a5, c5, a6, c6, a7, c7, a8, c8, a9, c9, hcse⟩ := fn_cells hcs
      have hrg2 : wr.rangeAt b (off + k * 11) cs := fun j u hu => (cell_of_block (HX.out.block hbw)).trans (hrg j u hu)
      have hcsA := Lib.hid fun o => (hand_reps (HX.out.al o).size (fun b h1 _ => (HX.out.al o).block h1) hcs).mono (who' := whoB fun k => decide (k < w.heap.size)) fun b h => by
        by_cases hb : b < w.heap.size
        · exact if_pos (decide_eq_true hb)
        · rw [whoO, if_neg hb] at h; cases h
      have hS := Lib.hid (sp_Put (b := [73, 78, 76, 49] ++ putB fs.length ++ ((fs.take k).map fncV).flatten) (by
        have := puts_le (fs := fs.take k) fun f hf => HA.out f (List.mem_of_mem_take hf)
        rw [List.length_take] at this
        have h2 : min k fs.length ≤ 40 := by omega
        have := Nat.mul_le_mul_right 250000 h2
        rw [hpb]
        simp only [List.length_append, List.length_cons, List.length_nil]
        omega) (HDt.out fs[k] (List.getElem_mem hlt)) (HA.out fs[k] (List.getElem_mem hlt)))
      rw [hcse] at hrg2
      have e0 := hrg2 0 _ rfl
      have e1 := hrg2 1 _ rfl
      have e2 := hrg2 2 _ rfl
      have e3 := hrg2 3 _ rfl
      have e4 := hrg2 4 _ rfl
      have e5 := hrg2 5 _ rfl
      have e6 := hrg2 6 _ rfl
      have e7 := hrg2 7 _ rfl
      have e8 := hrg2 8 _ rfl
      have e9 := hrg2 9 _ rfl
      have e10 := hrg2 10 _ rfl
      rw [Nat.add_zero] at e0
      clear hrg2
      rw [hcse] at hcsA
      go_wp2_with fail
      refine (put_own (HX.out.al _) (own_at HO.out fun y hy => alloc_oldD (HO.out.lt y hy).2) HF.out (hcsA.out _) hS.out).mono ?_
      rintro e w3 ⟨v3, rfl, ho3, hf3, hx3⟩
      have hbytes : [73, 78, 76, 49] ++ putB fs.length ++ ((fs.take k).map fncV).flatten ++ fncL fs[k].1 fs[k].2.1 fs[k].2.2.1 fs[k].2.2.2.1 fs[k].2.2.2.2.1 fs[k].2.2.2.2.2.1 fs[k].2.2.2.2.2.2.1 fs[k].2.2.2.2.2.2.2.1 fs[k].2.2.2.2.2.2.2.2.1 fs[k].2.2.2.2.2.2.2.2.2.1 fs[k].2.2.2.2.2.2.2.2.2.2 = [73, 78, 76, 49] ++ putB fs.length ++ ((fs.take (k + 1)).map fncV).flatten := by
        rw [List.take_succ_eq_append_getElem hlt, List.map_append, List.flatten_append, ← List.append_assoc]
        show _ = _ ++ (fncV fs[k] ++ [])
        rw [List.append_nil]
        rfl
      rw [hbytes] at ho3
      have HO3 := Lib.hid ho3
      have HF3 := Lib.hid hf3
      have HX4 := Lib.hid hx3
      clear ho3 hf3 hx3 hcsA hS e0 e1 e2 e3 e4 e5 e6 e7 e8 e9 e10 hcs hrg hbytes
      go_wp2_with fail
      exact ⟨⟨k + 1, hlt, rfl, HO3, HF3, HX4⟩, (by show fs.length - ((k : Int) + 1).toNat < fs.length - ((k : Int)).toNat; omega)⟩
    · obtain rfl : k = fs.length := by omega
      have hltB : decide ((fs.length : Int) < (fs.length : Int)) = false := decide_eq_false (by omega)
      have hltB2 : decide (fs.length < fs.length) = false := decide_eq_false (by omega)
      go_wp2_with fail
      go_ret2
      refine ⟨HX.out, ?_⟩
      have h2 := HO.out
      rw [List.take_length] at h2
      obtain ⟨ao, cap', hv, h3, -, h4⟩ := Cells.own h2
      refine ⟨ao, cap', ?_, ?_, ?_⟩ <;> rw [hE]
      · rw [hv]; rfl
      · exact h4
      · refine ⟨h3, fun b off e => ?_⟩
        subst hv
        subst e
        exact HF.out b rfl
end Go.Proofs.YtkdnbnkbnegckaaGreat
