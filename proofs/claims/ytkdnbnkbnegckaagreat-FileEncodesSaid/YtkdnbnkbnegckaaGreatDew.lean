/- file.read: what it comes to, or what it gives up with. -/
import Derived.Test.YtkdnbnkbnegckaaGreatLq
import Derived.Deep.DeepCutAuto
namespace Go.Proofs.YtkdnbnkbnegckaaGreat
open Go.RowKit
set_option maxRecDepth 20000

@[simp] theorem sp_End {l : List UInt8} {e : Int} : S_cursor_Cursor_End l true e = some (l, (true, (e, ((if e = 0 ∧ 0 < l.length then 4 else e), ())))) := u_cursor_Cursor_End (N := 0) (by
  by_cases h : e = 0
  · by_cases h2 : 0 < l.length
    · simp [M_cursor_Cursor_End, h, h2]
    · simp [M_cursor_Cursor_End, h, h2]
  · simp [M_cursor_Cursor_End, h])
theorem sp_called {fs : List Fn} (hl : fs.length ≤ 1000000) : S_file_called fs = some (fs.map (·.1), ()) := by
  refine u_file_called (N := fs.length + 1) ?_
  simp [M_file_called]
  refine iter_to (fun d => fs.length - d.2.2.1.toNat) (fun d => ∃ k : Nat, d = ((fs.take k).map (·.1), fs, (k : Int), ()) ∧ k ≤ fs.length) ?_ _ _ ⟨0, by simp, Nat.zero_le _⟩ (by simp)
  rintro _ again ⟨k, rfl, hk⟩ ih
  by_cases h : k < fs.length
  · have hw : wrp .i64 ((k : Int) + 1) = (k : Int) + 1 := wi64 (by omega) (by omega)
    have hr := room_t (a := k) (b := 1) (c := 16) (by omega) (by omega)
    have hm : min k fs.length = k := by omega
    have := ih ((fs.take (k + 1)).map (·.1), fs, (k : Int) + 1, ()) ⟨k + 1, rfl, h⟩ (by simp; omega)
    have e : (fs.take k).map (·.1) ++ [fs[k].1] = (fs.take (k + 1)).map (·.1) := by rw [List.take_succ_eq_append_getElem h, List.map_append]; rfl
    rw [← e] at this
    simpa [h, bnd_get h, hw, hr, hm] using this
  · have : k = fs.length := by omega
    subst this
    simp
theorem RdS.end' {B : Nat → Bool} {Ws W : World} {g : Nat} {bs : List UInt8} {er : Int} {hb : Nat → Prop} {xs : List C} {us : List Value} (R : RdS B Ws W g bs er hb xs us) :
    Calls Tryz.prog 130 #[.pointer (some ⟨g, 0, none⟩)] W fun e W' => e = .returned (.int .i64 (if er = 0 ∧ 0 < bs.length then 4 else er)) ∧ RdS B Ws W' g bs er hb xs us ∧ (∀ b, hb b → W'.heap[b]? = W.heap[b]?) := by
  have hc : callW Tryz.prog annX plansX 130 [⟨.one, [.ptr 0 0]⟩] (hpC bs er) = some (⟨.one, [.c (.v (.int .i64 (if er = 0 ∧ 0 < bs.length then 4 else er)))]⟩, hpC bs er) := k_cursor_Cursor_End (bs, (true, (er, ()))) _ sp_End _ (by kernel_rfl)
  refine (R.next hc (vs := []) rfl fun _ _ => no_args).mono fun e W' ⟨v, he, ⟨who, L, H, hg, hf, hh, hr, hv⟩, hx, hk⟩ => ?_
  rw [rep_i64_inv hv] at he
  exact ⟨he, ⟨⟨who, L, H, hg, hf, hh, hr⟩, hx, R.fresh⟩, hk⟩
/-- The functions' names. -/
theorem c_called {W : World} {fs : List Fn} {v : Value} (hl : fs.length ≤ 1000000) (hr : RepC W W0 (.fz 11 (encL tF fs)) v) :
    Calls Tryz.prog 77 #[.agg #[v]] W fun e W' => ∃ u, e = .returned u ∧ RepC W' W0 (.fz 1 (encL .str (fs.map (·.1)))) u ∧ Ext W W' := by
  have hc : callW Tryz.prog annX plansX 77 [⟨.agg, [.c (.fz 11 (encL tF fs))]⟩] ⟨[], []⟩ = some (⟨.one, [.c (.fz 1 (encL .str (fs.map (·.1))))]⟩, ⟨[], []⟩) := k_file_called (fs, ()) _ (sp_called hl) _ (by kernel_rfl)
  refine pure_one hc (vs := [.agg #[v]]) rfl fun i t u h1 h2 => ?_
  cases i with
  | zero =>
    cases h1
    cases h2
    refine ⟨[v], rfl, rfl, fun i x u h3 h4 => ?_⟩
    cases i with
    | zero => cases h3; cases h4; exact ⟨hr, hr.one⟩
    | succ i => simp at h3
  | succ i => simp at h1
theorem c_unlike {W : World} {l : List (List UInt8)} {v : Value} (hl : l.length ≤ 1000000) (hs : ∀ s ∈ l, s.length ≤ 1000000) (hr : RepC W W0 (.fz 1 (encL .str l)) v) :
    Calls Tryz.prog 76 #[v] W fun e W' => e = .returned (.bool (decide l.Nodup)) ∧ Ext W W' := by
  have hs2 : S_names_Unlike l = some (decide l.Nodup, ()) := by
    unfold S_names_Unlike
    rw [show (leN l.length 1000000 && l.all fun s => decide (s.length ≤ 1000000)) = true from by rw [Bool.and_eq_true]; exact ⟨decide_eq_true hl, List.all_eq_true.2 fun s h => decide_eq_true (hs s h)⟩]
    rfl
  have hc : callW Tryz.prog annX plansX 76 [⟨.one, [.c (.fz 1 (encL .str l))]⟩] ⟨[], []⟩ = some (⟨.one, [.c (.v (.bool (decide l.Nodup)))]⟩, ⟨[], []⟩) := k_names_Unlike (l, ()) _ hs2 _ (by kernel_rfl)
  refine (pure_one hc (vs := [v]) rfl fun i t u h1 h2 => ?_).mono fun e W' ⟨u, he, hu, hx⟩ => ?_
  · cases i with
    | zero => cases h1; cases h2; exact ⟨_, rfl, hr⟩
    | succ i => simp at h1
  · cases hu
    exact ⟨he, hx⟩
theorem encL_snoc {σ : Ty} {l : List (Data σ)} {x : Data σ} : (encL σ (l ++ [x])).flatten = (encL σ l).flatten ++ enc σ x := by
  show (List.map (enc σ) (l ++ [x])).flatten = (List.map (enc σ) l).flatten ++ enc σ x
  rw [List.map_append, List.flatten_append]
  show _ ++ (enc σ x ++ []) = _
  rw [List.append_nil]
theorem headP_name {l l' : List UInt8} {x : Hd} (h : headP l = .ok (x, l')) : x.1.length ≤ 12 := by
  unfold headP at h
  split at h
  · cases h
  · rename_i name' l1 h1
    have i1 : name'.length ≤ 12 := by
      unfold textP at h1
      split at h1
      · rename_i u l2 hn
        obtain ⟨h3, h4, -⟩ := numP_ok hn
        split at h1
        · cases h1
        · cases h1; rw [List.length_take]; omega
      · cases h1
    repeat (split at h; · cases h)
    cases h
    exact i1
theorem fncP_name {l l' : List UInt8} {x : Fn} (h : fncP l = .ok (x, l')) : x.1.length ≤ 12 := by
  unfold fncP at h
  split at h
  · cases h
  · rename_i nm inn ou pa re lo fl l1 h1
    have i1 := headP_name h1
    split at h
    · cases h
    · split at h
      · cases h
      · cases h
        exact i1
theorem fncsP_ok : ∀ {n : Nat} {l l' : List UInt8} {fs : List Fn}, fncsP n l = .ok (fs, l') → fs.length = n ∧ ∀ s ∈ fs.map (·.1), s.length ≤ 12
  | 0, l, l', fs, h => by cases h; simp
  | n + 1, l, l', fs, h => by
    rw [fncsP] at h
    split at h
    · cases h
    · rename_i p l1 h1
      split at h
      · rename_i r l2 h2
        cases h
        obtain ⟨i1, i2⟩ := fncsP_ok h2
        refine ⟨by simp [i1], fun s hs => ?_⟩
        rw [List.map_cons, List.mem_cons] at hs
        rcases hs with rfl | hs
        · exact fncP_name h1
        · exact i2 s hs
      · cases h
theorem RdS.over {B : Nat → Bool} {Ws W W' : World} {g : Nat} {bs : List UInt8} {er : Int} {hb : Nat → Prop} {xs : List C} {us : List Value} (R : RdS B Ws W g bs er hb xs us) (h : Ext W W') : RdS B Ws W' g bs er hb xs us :=
  R.hand h.size ⟨h.b.os, h.b.tape, h.b.output⟩ (fun b h1 _ => h.block h1) fun b hb => ⟨.inl hb, Nat.lt_of_lt_of_le (R.lt hb) h.size⟩
/-- The row of the functions read: what else it leans on is none of what is not known. -/
theorem RdS.rows {B : Nat → Bool} {Ws W : World} {g base k : Nat} {bs : List UInt8} {er : Int} {hb : Nat → Prop} {fs : List Fn} {v : Value} {us : List Value} {e : TypeId} (R : RdS B Ws W g bs er hb (encL tF fs).flatten us) (hk : fs.length = k) (hown : W.ownsRow base e 11 v k us) (hv : ∀ y, v.ownBlock = some y → Ws.heap.size ≤ y) :
    ∃ who, (∀ b, B b = false → b < Ws.heap.size → who b = .other) ∧ RepC W who (.fz 11 (encL tF fs)) v := by
  obtain ⟨⟨who, L, -, -, hf, -, hr⟩, -, -⟩ := R
  obtain ⟨ao, cap, rfl, h1, -, hc⟩ := Cells.own hown
  have hl : (encL tF fs).length = k := (List.length_map _).trans hk
  refine ⟨fun b => if (Value.slice ao k cap).ownBlock = some b then .frozen else who b, fun b h2 h3 => ?_, ?_⟩
  · have h4 : ¬(Value.slice ao k cap).ownBlock = some b := fun h => absurd (hv b h) (by omega)
    show (if _ then _ else _) = _
    rw [if_neg h4, hf b h3, if_neg (by rw [h2]; decide)]
  · rw [← hl]
    refine repC_inW (by decide) (fun e he => by obtain ⟨x, _, rfl⟩ := List.mem_map.1 he; exact enc_len _ _) (by rw [hl]; exact h1) hc (fun b off ha => ?_) (hr.mono fun b hb => ?_)
    · subst ha; exact if_pos rfl
    · show (if _ then _ else _) = _
      split
      · rfl
      · exact hb
theorem decodeP_short {b : List UInt8} (h : ¬(4 ≤ b.length ∧ b.take 4 = [73, 78, 76, 49])) : decodeP b = .error 5 := if_neg h
/-- The blocks that file.read writes itself. -/
def ownB (a p : Nat) (v : Value) : Nat → Prop := fun x => x = a ∨ x = p ∨ v.ownBlock = some x
def fn0 : Fn := ([], (false, ([], ([], ([], ([], ([], ([], ([], ([], []))))))))))
def ReadQ (B : Nat → Bool) (w : World) (b : List UInt8) (e : Ending) (w' : World) : Prop := Ext w w' ∧ match decodeP b with
  | .ok fs => ∃ v, e = .returned (.agg #[v]) ∧ ∃ who, (∀ b, B b = false → b < w.heap.size → who b = .other) ∧ RepC w' who (.fz 11 (encL tF fs)) v
  | .error x => e = .panicked [errP x]
theorem ReadQ.bad {B : Nat → Bool} {w w' : World} {b : List UInt8} {e : Ending} {x : Int} (hx : Ext w w') (hd : decodeP b = .error x) (he : e = .panicked [errP x]) : ReadQ B w b e w' := ⟨hx, by rw [hd]; exact he⟩
set_option maxHeartbeats 4000000 in
theorem read_walk (B : Nat → Bool) (ao : Option Addr) (cap : Nat) (b : List UInt8) (w : World) (hc : Cells w ao (b.map byteC)) (hcap : b.length ≤ cap) (hl : b.length ≤ 140737488351232) (hlt : b ≠ [] → ∀ k off, ao = some ⟨k, off, none⟩ → B k = true) :
    Calls Tryz.prog 79 #[.slice ao b.length cap] w (ReadQ B w b) := by
  by_cases h4 : 4 ≤ b.length
  case neg =>
    have hB : decide ((4 : Int) ≤ (b.length : Int)) = false := decide_eq_false (by omega)
    have hB2 : decide (4 ≤ b.length) = false := decide_eq_false h4
    go_enter Tryz.func79, Tryz.ntmps79
    go_wp2_with fail
    refine (so_false 5 _).mono ?_
    rintro e w1 ⟨rfl, rfl⟩
    go_wp2_with fail
    exact ⟨rfl, .bad ((Ext.rf w).al _) (decodeP_short fun h => h4 h.1) rfl⟩
  have hB : decide ((4 : Int) ≤ (b.length : Int)) = true := decide_eq_true (by omega)
  have hB2 : decide (4 ≤ b.length) = true := decide_eq_true h4
  have hx1 : Ext w (w.alloc (.cells #[.slice none 0 0] 51)) := (Ext.rf w).al _
  have hc1 := hc.ext hx1
  have hcw4 : Cells (w.alloc (.cells #[.slice none 0 0] 51)) ao ((b.take 4).map byteC) := by rw [List.map_take]; exact hc1.taken 4
  have hcv : (convert 22 9 (.slice ao 4 cap)).run Tryz.prog (w.alloc (.cells #[.slice none 0 0] 51)) = .ok (.string ⟨(b.take 4).toArray⟩) (w.alloc (.cells #[.slice none 0 0] 51)) := run_bytes_str 4 (by rw [List.length_take]; omega) Tryz.underlying22 Tryz.underlying5 Tryz.underlying9 hcw4
  by_cases hm : b.take 4 = [73, 78, 76, 49]
  case neg =>
    have hmB : (b.take 4 == [73, 78, 76, 49]) = false := by simpa using hm
    go_enter Tryz.func79, Tryz.ntmps79
    go_wp2_with fail
    refine (so_false 5 _).mono ?_
    rintro e w1 ⟨rfl, rfl⟩
    go_wp2_with fail
    exact ⟨rfl, .bad ((Ext.rf w).al _) (decodeP_short fun h => hm h.2) rfl⟩
  have hmB : (b.take 4 == [73, 78, 76, 49]) = true := by simpa using hm
  -- the bytes behind the four
  have hne : b.map byteC ≠ [] := fun e => by have := congrArg List.length e; simp at this; subst this; simp at h4
  have hbn : b ≠ [] := fun e => hne (by rw [e]; rfl)
  obtain ⟨b0, off, rfl⟩ := hc.addr hne
  have hen : (encL tY (b.drop 4)).length = b.length - 4 := (List.length_map _).trans (List.length_drop ..)
  have hR : ∀ (ao : Option Addr) (cap : Nat), (∀ b off, ao = some ⟨b, off, none⟩ → B b = true) → b.length - 4 ≤ cap → Cells w ao ((b.drop 4).map byteC) → RepC w (whoB B) (.fz 1 (encL tY (b.drop 4))) (.slice ao (b.length - 4) cap) := fun ao cap hlb hcp hcl => by
    rw [← hen] at hcp ⊢
    refine repC_inW (by decide) (fun e he => by obtain ⟨x, _, rfl⟩ := List.mem_map.1 he; rfl) hcp hcl (fun b off e => if_pos (hlb b off e)) ?_
    have hf : (encL tY (b.drop 4)).flatten = (b.drop 4).map fun x => C.v (byteC x) := by
      simp only [encL, mapE]
      generalize b.drop 4 = l
      induction l with
      | nil => rfl
      | cons x l ih => rw [List.map_cons, List.flatten_cons, ih]; rfl
    rw [hf]
    refine ⟨by simp, fun i c u h1 h2 => ?_⟩
    rw [List.getElem?_map] at h1 h2
    cases hx : (b.drop 4)[i]? with
    | none => rw [hx] at h1; cases h1
    | some x => rw [hx] at h1 h2; cases h1; cases h2; exact .v _ rfl
  have hcd := hc.dropped 4
  rw [← List.map_drop] at hcd
  have hrA : RepC w (whoB B) (.fz 1 (encL tY (b.drop 4))) (.slice (some ⟨b0, off + 4, none⟩) (b.length - 4) (cap - 4)) := hR _ (cap - 4) (fun _ _ e => by cases e; exact hlt hbn _ _ rfl) (by omega) (by simpa [addr_addD] using hcd)
  have hrB : cap = 4 → RepC w (whoB B) (.fz 1 (encL tY (b.drop 4))) (.slice (some ⟨b0, off, none⟩) (b.length - 4) 0) := fun hq => hR _ 0 (fun _ _ e => by cases e; exact hlt hbn _ _ rfl) (by omega) (by rw [List.drop_eq_nil_of_le (show b.length ≤ 4 by omega)]; exact Cells.nil _ _)
  have HN := Lib.hid (fun (Wa : World) (v : Value) (hx : Ext w Wa) (hs : w.heap.size < Wa.heap.size) (hrc : RepC w (whoB B) (.fz 1 (encL tY (b.drop 4))) v) => RdS.new (B := B) (Ws := w) (Wa := Wa) (hb := fun b => b = w.heap.size) hx (fun b hb => by subst hb; exact ⟨Nat.le_refl _, hs⟩) (by rw [List.length_drop]; omega) hrc)
  clear hcd hR
  have HRA := Lib.hid hrA
  clear hrA
  go_enter Tryz.func79, Tryz.ntmps79
  go_wp2_with fail
  refine (so_true 5 _).mono ?_
  rintro e w1 ⟨rfl, rfl⟩
  go_upto_region 2 with fail
  go_cut [3] (fun s3 wx => ∃ g, s3 = .pointer (some ⟨g, 0, none⟩) ∧ RdS B w wx g (b.drop 4) 0 (fun x => x = w.heap.size) [] [] ∧ wx.heap[w.heap.size]? = some (.cells #[.slice none 0 0] 51 (0, 0)))
  case first =>
    by_cases hq : cap = 4
    · subst hq
      have hr4 := hrB rfl
      rw [show b.length - 4 = 0 by omega] at hr4
      replace hr4 := Lib.hid hr4
      clear hrB
      go_wp2_with fail
      refine (HN.out _ _ hx1 (by simp) hr4.out).mono ?_
      rintro e w1 ⟨g, rfl, R1, hk1⟩
      go_wp2_with fail
      go_meet
      exact ⟨g, rfl, R1, (hk1 _ rfl).trans (alloc_new w _)⟩
    · clear hrB
      go_wp2_with fail
      refine (HN.out _ _ hx1 (by simp) HRA.out).mono ?_
      rintro e w1 ⟨g, rfl, R1, hk1⟩
      go_wp2_with fail
      go_meet
      exact ⟨g, rfl, R1, (hk1 _ rfl).trans (alloc_new w _)⟩
  case rest =>
    obtain ⟨g, rfl, R1, hr0⟩ := hcut
    clear HN HRA hrB
    have hd4 : 4 ≤ b.length ∧ b.take 4 = [73, 78, 76, 49] := ⟨h4, hm⟩
    have hDP : decodeP b = match numP 40 (b.drop 4) with
      | .error e => .error e
      | .ok (n, l) => if n = 0 then .error 6 else
      match fncsP n.toNat l with
      | .error e => .error e
      | .ok (fs, l) => if (fs.map (·.1)).Nodup then (if l = [] then .ok fs else .error 4) else .error 7 := if_pos hd4
    have kb : Len (b.drop 4) := by unfold Len; rw [List.length_drop]; omega
    have hNum := im_Num (l := b.drop 4) (m := 40) kb (by omega) (by omega)
    clear hd4 hm hmB hB hB2 h4 hcv hcw4 hc1 hx1 hc hne hen
    cases hnp : numP 40 (b.drop 4) with
    | error x =>
      rw [hnp] at hNum hDP
      obtain ⟨he, l', hNum⟩ := hNum
      have HD := Lib.hid hDP
      have HE := Lib.hid he
      have hrun := Lib.hid (R1.num hNum)
      clear hDP hNum hnp he R1
      go_wp2_with fail
      refine hrun.out.mono ?_
      rintro e w2 ⟨rfl, R2, hk2⟩
      go_wp2_with fail
      refine R2.err.mono ?_
      rintro e w3 ⟨rfl, R3, hk3⟩
      go_wp2_with fail
      refine (must_bad x HE.out _).mono ?_
      rintro e w4 ⟨rfl, rfl⟩
      go_wp2_with fail
      exact ⟨rfl, .bad R3.ext HD.out rfl⟩
    | ok q =>
      obtain ⟨u, l1⟩ := q
      obtain ⟨g1, g2, g3⟩ := numP_ok hnp
      rw [hnp] at hNum hDP
      have hNum : S_cursor_Cursor_Num (b.drop 4) true 0 40 = _ := hNum
      obtain ⟨n, rfl⟩ := Int.eq_ofNat_of_zero_le g1
      have k1 : Len l1 := Nat.le_trans g3 kb
      have hn40 : n ≤ 40 := by omega
      simp only [Int.toNat_natCast] at hDP
      have hrun := Lib.hid (R1.num hNum)
      have hr1 := Lib.hid hr0
      clear hNum hnp R1 hr0 g1 g2 g3
      by_cases hn0 : (n : Int) = 0
      · rw [if_pos hn0] at hDP
        obtain rfl : n = 0 := by omega
        have HD := Lib.hid hDP
        clear hDP
        go_wp2_with fail
        refine hrun.out.mono ?_
        rintro e w2 ⟨rfl, R2, hk2⟩
        go_wp2_with fail
        refine R2.err.mono ?_
        rintro e w3 ⟨rfl, R3, hk3⟩
        go_wp2_with fail
        refine (must_ok _).mono ?_
        rintro e w4 ⟨rfl, rfl⟩
        go_wp2_with fail
        refine (so_false 6 _).mono ?_
        rintro e w5 ⟨rfl, rfl⟩
        go_wp2_with fail
        exact ⟨rfl, .bad R3.ext HD.out rfl⟩
      · rw [if_neg hn0] at hDP
        have HD := Lib.hid hDP
        have hgB : decide ((0 : Int) < (n : Int)) = true := decide_eq_true (by omega)
        have hgB2 : decide (0 < n) = true := decide_eq_true (by omega)
        clear hDP hn0
        go_wp2_with fail
        refine hrun.out.mono ?_
        rintro e w2 ⟨rfl, R2, hk2⟩
        go_wp2_with fail
        refine R2.err.mono ?_
        rintro e w3 ⟨rfl, R3, hk3⟩
        go_wp2_with fail
        refine (must_ok _).mono ?_
        rintro e w4 ⟨rfl, rfl⟩
        go_wp2_with fail
        refine (so_true 6 _).mono ?_
        rintro e w5 ⟨rfl, rfl⟩
        have hr3 := Lib.hid (((hk3 _ rfl).trans (hk2 _ rfl)).trans hr1.out)
        clear hk3 hk2 hr1 hrun
        go_wp2_with fail
        obtain ⟨P, hP⟩ : ∃ P, P = w5.heap.size := ⟨_, rfl⟩
        rw [← hP]
        have hP1 : w.heap.size < P := by
          obtain ⟨⟨who, L, -, -, -, hh, -⟩, -⟩ := R3
          rw [hP]; exact (hh _ rfl).2
        have R5 : RdS B w (w5.alloc (.cells #[.slice none 0 0] 51)) g l1 0 (ownB w.heap.size P (.slice none 0 0)) [] [] := by
          refine R3.hand (by simp) ⟨rfl, rfl, rfl⟩ (fun b h1 _ => by simp [World.alloc, -World.alloc_eq, Array.getElem?_push, Nat.ne_of_lt h1]) fun b hb => ?_
          rcases hb with rfl | rfl | hb
          · exact ⟨.inl rfl, by simp; omega⟩
          · exact ⟨.inr (by omega), by simp; omega⟩
          · cases hb
        have HR5 := Lib.hid R5
        have hrW : Hid ((w5.alloc (.cells #[.slice none 0 0] 51)).heap[w.heap.size]? = some (.cells #[.slice none 0 0] 51 (0, 0))) := Lib.hid (by have := hr3.out; rw [← this]; simp [World.alloc, -World.alloc_eq, Array.getElem?_push, show w.heap.size ≠ w5.heap.size by omega])
        have hpW : Hid ((w5.alloc (.cells #[.slice none 0 0] 51)).heap[P]? = some (.cells #[.slice none 0 0] 51 (0, 0))) := Lib.hid (by rw [hP]; exact alloc_new w5 _)
        have HP := Lib.hid hP
        clear R5 R3 R2 hr3 hP
        generalize (w5.alloc (.cells #[.slice none 0 0] 51)) = w6 at *
        go_loopw [29] (fun i wr => ∃ (k : Nat) (bs : List UInt8) (fs : List Fn) (v : Value) (us : List Value), k ≤ n ∧ i = .int .i64 k ∧ fs.length = k ∧ Hid (Len bs) ∧ Hid (wr.heap[P]? = some (.cells #[v] 51 (0, 0))) ∧ Hid (wr.heap[w.heap.size]? = some (.cells #[.slice none 0 0] 51 (0, 0))) ∧
            wr.ownsRow w.heap.size 31 11 v k us ∧ Hid (RdS B w wr g bs 0 (ownB w.heap.size P v) (encL tF fs).flatten us) ∧ Hid (fncsP n l1 = withP fs (fncsP (n - k) bs)) ∧ Hid (∀ y, v.ownBlock = some y → P < y))
          (fun i _ => n - (intOf i).toNat)
        case atStart => exact ⟨0, l1, [], .slice none 0 0, [], Nat.zero_le _, rfl, rfl, Lib.hid k1, hpW, hrW, World.ownsRow_nil _ _ _ _, HR5, Lib.hid (by cases fncsP n l1 <;> rfl), Lib.hid fun y hy => by cases hy⟩
        case round =>
          obtain ⟨k, bs, fs, v, us, hk, rfl, hfl, HL, hp, hr, hown, HR, HF, HV⟩ := hrel
          clear HR5 hrW hpW
          by_cases hlt : k < n
          · have hltB : decide ((k : Int) < (n : Int)) = true := decide_eq_true (by omega)
            have hltB2 : decide (k < n) = true := decide_eq_true hlt
            have hT := im_Take HL.out
            cases hfp : fncP bs with
            | error x =>
              rw [hfp] at hT
              obtain ⟨he, l', hT⟩ := hT
              have hrun := Lib.hid (HR.out.take (x := fn0) hT)
              have HE := Lib.hid he
              have HD2 : Hid (decodeP b = .error x) := Lib.hid (by
                rw [HD.out, HF.out]
                obtain ⟨j, hj⟩ : ∃ j, n - k = j + 1 := ⟨n - k - 1, by omega⟩
                rw [hj, fncsP, hfp]
                rfl)
              clear hT hfp he HD HF
              go_wp2_with fail
              refine hrun.out.mono ?_
              rintro e w7 ⟨cs, rfl, R7, ⟨who7, hrc7⟩, hk7⟩
              obtain ⟨a1, c1, a2, c2, a3, c3, a4, c4, a5, c5, a6, c6, a7, c7, a8, c8, a9, c9, rfl⟩ := fn_cells hrc7
              clear hrc7
              replace R7 := Lib.hid R7
              go_wp2_with fail
              refine ((R7.out.drop (by have := HR.out; obtain ⟨⟨_, _, _, _, _, _, hq⟩, _⟩ := this; exact hq.1)).alloc _).err.mono ?_
              rintro e w8 ⟨rfl, R8, hk8⟩
              go_wp2_with fail
              refine (must_bad x HE.out _).mono ?_
              rintro e w9 ⟨rfl, rfl⟩
              go_wp2_with fail
              exact ⟨rfl, .bad R8.ext HD2.out rfl⟩
            | ok q =>
              obtain ⟨⟨q1, q2, q3, q4, q5, q6, q7, q8, q9, q10, q11⟩, bs'⟩ := q
              rw [hfp] at hT
              have hrun := Lib.hid (HR.out.take (x := (q1, q2, q3, q4, q5, q6, q7, q8, q9, q10, q11)) hT)
              have HL' : Hid (Len bs') := Lib.hid (Nat.le_trans (fncP_ok hfp).1 HL.out)
              have HF' : Hid (fncsP n l1 = withP (fs ++ [(q1, q2, q3, q4, q5, q6, q7, q8, q9, q10, q11)]) (fncsP (n - (k + 1)) bs')) := Lib.hid (by
                rw [HF.out]
                obtain ⟨j, hj⟩ : ∃ j, n - k = j + 1 := ⟨n - k - 1, by omega⟩
                rw [hj, fncsP, hfp, show n - (k + 1) = j by omega]
                dsimp only
                cases fncsP j bs' <;> simp [withP])
              have HO := Lib.hid hown
              clear hT hfp HF hown
              go_wp2_with fail
              refine hrun.out.mono ?_
              rintro e w7 ⟨cs, rfl, R7, ⟨who7, hrc7⟩, hk7⟩
              obtain ⟨a1, c1, a2, c2, a3, c3, a4, c4, a5, c5, a6, c6, a7, c7, a8, c8, a9, c9, rfl⟩ := fn_cells hrc7
              clear hrc7
              have HK7 := Lib.hid hk7
              have HR7 := Lib.hid R7
              clear hk7 R7
              go_wp2_with fail
              have RA := HR7.out.alloc (.cells #[.string ⟨⟨q1⟩⟩, .bool q2, .slice a1 q3.length c1, .slice a2 q4.length c2, .slice a3 q5.length c3, .slice a4 q6.length c4, .slice a5 q7.length c5, .slice a6 q8.length c6, .slice a7 q9.length c7, .slice a8 q10.length c8, .slice a9 q11.length c9] 31)
              have HRA := Lib.hid RA
              clear RA
              refine HRA.out.err.mono ?_
              rintro e w8 ⟨rfl, R8, hk8⟩
              -- what the blocks of one's own hold
              have hP7 : P < w7.heap.size := HR7.out.lt (.inr (.inl rfl))
              have hw7 : w.heap.size < w7.heap.size := HR7.out.lt (.inl rfl)
              have hp8 : w8.heap[P]? = some (.cells #[v] 51 (0, 0)) := by rw [hk8 P (.inl (.inr (.inl rfl))), alloc_oldD hP7, HK7.out P (.inr (.inl rfl))]; exact hp.out
              have hr8 : w8.heap[w.heap.size]? = some (.cells #[.slice none 0 0] 51 (0, 0)) := by rw [hk8 _ (.inl (.inl rfl)), alloc_oldD hw7, HK7.out _ (.inl rfl)]; exact hr.out
              have hf8 := (hk8 _ (.inr rfl)).trans (alloc_new w7 _)
              have own8 : w8.ownsRow w.heap.size 31 11 v k us := own_at HO.out fun y hy => by rw [hk8 y (.inl (.inr (.inr hy))), alloc_oldD (HR7.out.lt (.inr (.inr hy))), HK7.out y (.inr (.inr hy))]
              have HR8 := Lib.hid R8
              have HP8 := Lib.hid hp8
              have HRr8 := Lib.hid hr8
              clear R8 hk8 HRA HR7 HK7 hrun HO hp hr HR
              have pc : w8.cell? ⟨P, 0, none⟩ = some v := blk hp8 0 rfl
              have pf : ∀ j, w8.frozen? ⟨P, j, none⟩ = false := fun j => by simp [World.frozen?, hp8]
              generalize w7.heap.size = Fb at *
              have fcs : w8.cell? ⟨Fb, 0, none⟩ = some (.string ⟨⟨q1⟩⟩) ∧ w8.cell? ⟨Fb, 1, none⟩ = some (.bool q2) ∧ w8.cell? ⟨Fb, 2, none⟩ = some (.slice a1 q3.length c1) ∧ w8.cell? ⟨Fb, 3, none⟩ = some (.slice a2 q4.length c2) ∧ w8.cell? ⟨Fb, 4, none⟩ = some (.slice a3 q5.length c3) ∧ w8.cell? ⟨Fb, 5, none⟩ = some (.slice a4 q6.length c4) ∧
                w8.cell? ⟨Fb, 6, none⟩ = some (.slice a5 q7.length c5) ∧ w8.cell? ⟨Fb, 7, none⟩ = some (.slice a6 q8.length c6) ∧ w8.cell? ⟨Fb, 8, none⟩ = some (.slice a7 q9.length c7) ∧ w8.cell? ⟨Fb, 9, none⟩ = some (.slice a8 q10.length c8) ∧ w8.cell? ⟨Fb, 10, none⟩ = some (.slice a9 q11.length c9) :=
                ⟨blk hf8 0 rfl, blk hf8 1 rfl, blk hf8 2 rfl, blk hf8 3 rfl, blk hf8 4 rfl, blk hf8 5 rfl, blk hf8 6 rfl, blk hf8 7 rfl, blk hf8 8 rfl, blk hf8 9 rfl, blk hf8 10 rfl⟩
              obtain ⟨f0, f1, f2, f3, f4, f5, f6, f7, f8, f9, f10⟩ := fcs
              have hext8 : Ext w w8 := HR8.out.ext
              have HPl : Hid (P < w8.heap.size) := Lib.hid (HR8.out.lt (.inl (.inr (.inl rfl))))
              have HVn : Hid (∀ y, y = P → v.ownBlock ≠ some y) := Lib.hid fun y e h => by subst e; exact absurd (HV.out _ h) (Nat.lt_irrefl _)
              clear hf8 hp8 hr8
              go_wp2_with fail
              refine (must_ok _).mono ?_
              rintro e w9 ⟨rfl, rfl⟩
              go_wp2_with (at_builtin; (refine wpList_push rfl (.tmp 37) (.tmp 39) 49 rfl w.heap.size 31 31 (.agg #[.string ByteArray.empty, .bool false, .slice none 0 0, .slice none 0 0, .slice none 0 0, .slice none 0 0, .slice none 0 0, .slice none 0 0, .slice none 0 0, .slice none 0 0, .slice none 0 0]) 11 240 Tryz.underlying49 (by kernel_rfl) rfl (by decide) _ k _ [.string ⟨⟨q1⟩⟩, .bool q2, .slice a1 q3.length c1, .slice a2 q4.length c2, .slice a3 q5.length c3, .slice a4 q6.length c4, .slice a5 q7.length c5, .slice a6 q8.length c6, .slice a7 q9.length c7, .slice a8 q10.length c8, .slice a9 q11.length c9] rfl own8 _ rfl (by simp) rfl (by simp [Value.oneCell']) (by unfold maxLen; omega) (by omega) hext8.size ?_; intro v' w1 hown1 hgr; have hext1 := hext8.push own8 (Nat.le_refl _) hgr; obtain ⟨ao8, cap8, hv8, -, -⟩ := own_cells hown1; subst hv8; have pc1 : w1.cell? ⟨P, 0, none⟩ = some v := (cell_of_block (hgr.block P HPl.out (fun e => HVn.out P rfl e.symm))).trans pc; have pf1 : ∀ j, w1.frozen? ⟨P, j, none⟩ = false := fun j => (frozen_of_block (hgr.block P HPl.out (fun e => HVn.out P rfl e.symm))).trans (pf j); have HG1 := Lib.hid hgr; have HO1 := Lib.hid hown1; have HX1 := Lib.hid hext1; clear hgr hown1 hext1; skip))
              have hv' : ∀ y, (Value.slice ao8 (k + 1) cap8).ownBlock = some y → P < y := fun y hy => by
                rcases HG1.out.new with h | h
                · rw [h] at hy; exact HV.out y hy
                · have := h y hy; have := HPl.out; omega
              have hvr : ∀ y, v.ownBlock = some y → y ≠ w.heap.size ∧ y ≠ P := fun y hy => by have := HV.out y hy; omega
              have hs1 := HG1.out.size
              have hwl : w.heap.size < w9.heap.size := HR8.out.lt (.inl (.inl rfl))
              have hgs := grown_setD w1 P 0 (.slice ao8 (k + 1) cap8)
              have hb1 : ∀ y, y < w9.heap.size → v.ownBlock ≠ some y → y ≠ P → (w1.setCell ⟨P, 0, none⟩ (.slice ao8 (k + 1) cap8)).heap[y]? = w9.heap[y]? := fun y h1 h2 h3 => (hgs.block y (Nat.lt_of_lt_of_le h1 hs1) (fun e => h3 (by cases e; rfl))).trans (HG1.out.block y h1 fun e => h2 e.symm)
              have he : (encL tF (fs ++ [(q1, q2, q3, q4, q5, q6, q7, q8, q9, q10, q11)])).flatten = (encL tF fs).flatten ++ enc tF (q1, q2, q3, q4, q5, q6, q7, q8, q9, q10, q11) := encL_snoc
              refine ⟨⟨k + 1, bs', fs ++ [(q1, q2, q3, q4, q5, q6, q7, q8, q9, q10, q11)], .slice ao8 (k + 1) cap8, us ++ [.string ⟨⟨q1⟩⟩, .bool q2, .slice a1 q3.length c1, .slice a2 q4.length c2, .slice a3 q5.length c3, .slice a4 q6.length c4, .slice a5 q7.length c5, .slice a6 q8.length c6, .slice a7 q9.length c7, .slice a8 q10.length c8, .slice a9 q11.length c9], hlt, rfl, (by rw [List.length_append, hfl]; rfl), HL', Lib.hid ?_, Lib.hid ?_, ?_, Lib.hid ?_, HF', Lib.hid hv'⟩, (by show n - ((k : Int) + 1).toNat < n - ((k : Int)).toNat; omega)⟩
              · exact set_blkD ((HG1.out.block P HPl.out (fun e => HVn.out P rfl e.symm)).trans HP8.out) 0 _
              · exact (hb1 _ hwl (fun e => (hvr _ e).1 rfl) (by omega)).trans HRr8.out
              · exact own_at HO1.out fun y hy => hgs.block y (HO1.out.lt y hy).2 (fun e => by have := hv' y hy; cases e; omega)
              · rw [he]
                refine HR8.out.hand (Nat.le_trans hs1 hgs.size) ⟨HG1.out.os, HG1.out.tape, HG1.out.output⟩ (fun y h1 h2 => hb1 y h1 (fun e => h2 (.inl (.inr (.inr e)))) (fun e => h2 (.inl (.inr (.inl e))))) fun y hy => ?_
                have hsz : (w1.setCell ⟨P, 0, none⟩ (.slice ao8 (k + 1) cap8)).heap.size = w1.heap.size := by simp [World.setCell]
                rcases hy with rfl | rfl | hy
                · exact ⟨.inl (.inl (.inl rfl)), by omega⟩
                · exact ⟨.inl (.inl (.inr (.inl rfl))), by have := HPl.out; omega⟩
                · refine ⟨?_, by have := (HO1.out.lt y hy).2; omega⟩
                  rcases HG1.out.new with h | h
                  · rw [h] at hy; exact .inl (.inl (.inr (.inr hy)))
                  · exact .inr (h y hy)
          · obtain rfl : k = n := by omega
            have hltB : decide ((k : Int) < (k : Int)) = false := decide_eq_false (by omega)
            have hltB2 : decide (k < k) = false := decide_eq_false (by omega)
            have hp1 : Hid (wr.heap[P]? = some (.cells #[v] 51 (0, 0))) := hp
            have pc : wr.cell? ⟨P, 0, none⟩ = some v := blk hp1.out 0 rfl
            have HO := Lib.hid hown
            clear hlt hk hown
            go_wp2_with fail
            have HFF : fncsP k l1 = .ok (fs, bs) := by
              rw [HF.out, Nat.sub_self]
              simp [fncsP, withP]
            obtain ⟨hfk, hnm⟩ := fncsP_ok HFF
            obtain ⟨who0, -, HR0⟩ := HR.out.rows hfl HO.out fun y hy => by have := HV.out y hy; omega
            replace HR0 := HR0.mono (who' := W0) fun _ _ => rfl
            refine (c_called (by omega) HR0).mono ?_
            rintro e w7 ⟨u, rfl, hu, hx7⟩
            have HX7 := Lib.hid hx7
            have HU := Lib.hid hu
            have HN := Lib.hid hnm
            rw [HFF] at HD
            clear hx7 hu hnm HR0
            go_wp2_with fail
            refine (c_unlike (by rw [List.length_map]; omega) (fun s hs => Nat.le_trans (HN.out s hs) (by omega)) HU.out).mono ?_
            rintro e w8 ⟨rfl, hx8⟩
            have HX8 := Lib.hid (HX7.out.tr hx8)
            clear hx8 HX7 HU HN
            by_cases hnd : (fs.map (·.1)).Nodup
            · have hndB : decide (fs.map (·.1)).Nodup = true := decide_eq_true hnd
              rw [hndB]
              go_wp2_with fail
              refine (so_true 7 _).mono ?_
              rintro e w9 ⟨rfl, rfl⟩
              go_wp2_with fail
              have HR9 := Lib.hid (HR.out.over HX8.out)
              refine HR9.out.end'.mono ?_
              rintro e w10 ⟨rfl, R10, hk10⟩
              by_cases hbs : 0 < bs.length
              · have HD2 : Hid (decodeP b = .error 4) := Lib.hid (HD.out.trans (by rw [if_pos hnd, if_neg (by intro e; rw [e] at hbs; exact absurd hbs (by simp))]))
                rw [if_pos ⟨rfl, hbs⟩]
                go_wp2_with fail
                refine (must_bad 4 (by decide) _).mono ?_
                rintro e w11 ⟨rfl, rfl⟩
                go_wp2_with fail
                exact ⟨rfl, .bad R10.ext HD2.out rfl⟩
              · have HD2 : Hid (decodeP b = .ok fs) := Lib.hid (HD.out.trans (by rw [if_pos hnd, if_pos (List.eq_nil_of_length_eq_zero (by omega))]))
                rw [if_neg (fun h => hbs h.2)]
                have hp2 := ((hk10 P (.inr (.inl rfl))).trans (HX8.out.block (HR.out.lt (.inr (.inl rfl))))).trans hp1.out
                have hr2 := ((hk10 _ (.inl rfl)).trans (HX8.out.block (HR.out.lt (.inl rfl)))).trans hr.out
                have own2 : Hid (w10.ownsRow w.heap.size 31 11 v k us) := Lib.hid (own_at HO.out fun y hy => (hk10 y (.inr (.inr hy))).trans (HX8.out.block (HR.out.lt (.inr (.inr hy)))))
                have HR10 := Lib.hid R10
                have HR2 := Lib.hid hr2
                have pc10 : w10.cell? ⟨P, 0, none⟩ = some v := blk hp2 0 rfl
                have rc10 : w10.cell? ⟨w.heap.size, 0, none⟩ = some (.slice none 0 0) := blk hr2 0 rfl
                have rf10 : ∀ j, w10.frozen? ⟨w.heap.size, j, none⟩ = false := fun j => by simp [World.frozen?, hr2]
                clear hp2 hr2 R10 hk10 HR9
                obtain ⟨ao8, cap8, hv8, -, -⟩ := own_cells own2.out
                subst hv8
                go_wp2_with fail
                refine (must_ok _).mono ?_
                rintro e w11 ⟨rfl, rfl⟩
                go_wp2_with fail
                have hg := grown_setD w11 w.heap.size 0 (.slice ao8 k cap8)
                have hne : ∀ y, (Value.slice ao8 k cap8).ownBlock = some y → y ≠ w.heap.size := fun y hy => by have := HV.out y hy; omega
                have R12 := HR10.out.hand (hb' := ownB w.heap.size P (.slice ao8 k cap8)) hg.size ⟨hg.os, hg.tape, hg.output⟩ (fun y h1 h2 => hg.block y h1 (fun e => h2 (.inl (by cases e; rfl)))) fun y hy => ⟨.inl hy, Nat.lt_of_lt_of_le (HR10.out.lt hy) hg.size⟩
                have hown12 := own_at own2.out fun y hy => hg.block y (HR10.out.lt (.inr (.inr hy))) (fun e => hne y hy (by cases e; rfl))
                refine bodyPost_ret (results_cell_row rfl _ _ w.heap.size 51 #[.slice ao8 k cap8] (0, 0) _ rfl (set_blkD HR2.out 0 _) Tryz.underlying51 rfl (by kernel_rfl)) rfl ?_
                exact ⟨R12.ext, by rw [HD2.out]; exact ⟨_, rfl, R12.rows hfl hown12 fun y hy => by have := HV.out y hy; omega⟩⟩
            · have hndB : decide (fs.map (·.1)).Nodup = false := decide_eq_false hnd
              have HD2 : Hid (decodeP b = .error 7) := Lib.hid (HD.out.trans (by rw [if_neg hnd]))
              rw [hndB]
              go_wp2_with fail
              refine (so_false 7 _).mono ?_
              rintro e w9 ⟨rfl, rfl⟩
              go_wp2_with fail
              exact ⟨rfl, .bad (HR.out.ext.tr HX8.out) HD2.out rfl⟩
end Go.Proofs.YtkdnbnkbnegckaaGreat
