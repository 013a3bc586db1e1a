/- The second machine's calls: the callee's heap and the caller's. -/
import Derived.Test.YtkdnbnkbnegckaaGreatDoorEvG
namespace Go.Proofs.YtkdnbnkbnegckaaGreatDoor
open Go.RowKit

section
variable {P : Program} {W W' : World} {who who' whoC whoD : Nat → Who} {L L' LC LD : Lay} {h h' hc hd : Hp} {ks rs bor : List Nat}

/-- Which block is whose, as the callee sees it. -/
def callWho (who : Nat → Who) (ks rs bor : List Nat) (b : Nat) : Who :=
  match who b with
  | .frozen => .frozen
  | .other => .other
  | .box k => if k ∈ ks then .box (ks.idxOf k) else .other
  | .row r => if r ∈ rs then .row (rs.idxOf r) else if r ∈ bor then .frozen else .other
def callLay (L : Lay) (ks rs : List Nat) : Lay := ⟨fun i => L.box (ks.getD i 0), fun i => L.row (rs.getD i 0)⟩

theorem callWho_frozen {b : Nat} (hb : who b = .frozen) : callWho who ks rs bor b = .frozen := by unfold callWho; rw [hb]

/-- A row that is lent, as a value. -/
theorem lent_rep (H : HSim W who L h) {r sz : Nat} {es : List (List C)} (hr : h.row r = some (sz, es)) (hb : r ∈ bor) (hn : r ∉ rs) : RepC W (callWho who ks rs bor) (.fz sz es) (L.row r) := by
  have hold := hr
  unfold Hp.row at hr
  split at hr
  · rename_i ty sz' es' he
    simp only [Option.some.injEq, Prod.mk.injEq] at hr
    obtain ⟨rfl, rfl⟩ := hr
    have hmu := H.mu r ty _ _ he
    obtain ⟨ao, cap, us, h1, h2, h3, h4, h5⟩ := hmu.rd.ex
    have h6 := h5.mono (who' := callWho who ks rs bor) fun b hb => callWho_frozen hb
    rw [h1]
    refine .fz sz' cap es' ao us hmu.size h2 h3 (fun b off hne e => ?_) h4 h6.1 h6.2
    have hg : (L.row r).ownBlock = some b := by rw [h1, e]; rfl
    exact ⟨by unfold callWho; rw [hmu.who b hg]; simp [hb, hn], hmu.lt hg⟩
  · rename_i sz' es' he
    simp only [Option.some.injEq, Prod.mk.injEq] at hr
    obtain ⟨rfl, rfl⟩ := hr
    exact (H.fro r _ _ he).mono fun b hb => callWho_frozen hb
  · cases hr

theorem idx_eq {ks : List Nat} {k : Nat} (hk : k ∈ ks) : ks.getD (ks.idxOf k) 0 = k := by
  rw [List.getD_eq_getElem?_getD, get_idx hk]; rfl

/-- A cell as the callee sees it. -/
theorem arg_turns (H : HSim W who L h) (hbx : hc.bx.length = ks.length) (hrw : rs.length = hc.rw.length) (hrow : ∀ i r, rs[i]? = some r → hc.row i = h.row r)
    {x y : X} (hb : ∀ r ∈ x.rows, r ∈ rs ∨ r ∈ bor) (hx : argX h ks rs x = some y) : Turns W who L h W (callWho who ks rs bor) (callLay L ks rs) hc x y := by
  intro v hv
  unfold argX at hx
  split at hx
  · cases hx
    exact hv.mono fun b hb => callWho_frozen hb
  · rename_i r off n
    split at hx
    · rename_i hr
      have hr' : r ∈ rs := by simpa using hr
      cases hx
      refine ⟨by rw [← hrw]; exact List.idxOf_lt_length_of_mem hr', hv.2.1, fun sz es he => ?_⟩
      rw [hrow _ r (get_idx hr')] at he
      have := hv.2.2 sz es he
      show Sub (L.row (rs.getD (rs.idxOf r) 0)) sz es.length off n v
      rw [idx_eq hr']
      exact this
    · rename_i hr
      have hr' : r ∉ rs := by simpa using hr
      cases hro : h.row r with
      | none => simp [hro] at hx
      | some p =>
        simp only [hro, Option.bind_some] at hx
        split at hx
        · cases hx
          have hbr : r ∈ bor := (hb r (by simp [X.rows])).resolve_left hr'
          exact (lent_rep H hro hbr hr').sub (hv.2.2 _ _ hro)
        · cases hx
  · rename_i k off
    split at hx
    · rename_i hk
      have hk' : k ∈ ks := by simpa using hk
      cases hx
      refine ⟨by rw [hbx]; exact List.idxOf_lt_length_of_mem hk', ?_⟩
      show v = ptrV (L.box (ks.getD (ks.idxOf k) 0)) off
      rw [idx_eq hk']
      exact hv.2
    · cases hx
  · rename_i bd f cs
    split at hx
    · rename_i hall
      cases hx
      have hall' : ∀ k ∈ cs, k ∈ ks := fun k hk => by have := List.all_eq_true.1 hall k hk; simpa using this
      refine ⟨fun i hi => ?_, ?_⟩
      · obtain ⟨k, hk, rfl⟩ := List.mem_map.1 hi
        rw [hbx]; exact List.idxOf_lt_length_of_mem (hall' k hk)
      · rw [hv.2]
        congr 1
        rw [List.map_map]
        refine List.map_congr_left fun k hk => ?_
        show _ = ptrV (L.box (ks.getD (ks.idxOf k) 0)) 0
        rw [idx_eq (hall' k hk)]
    · cases hx
  · cases hx; trivial
  · cases hx

theorem box_turns (H : HSim W who L h) (hbx : hc.bx.length = ks.length) (hrw : rs.length = hc.rw.length) (hrow : ∀ i r, rs[i]? = some r → hc.row i = h.row r)
    {x y : X} (hx : boxX ks rs x = some y) : Turns W who L h W (callWho who ks rs bor) (callLay L ks rs) hc x y := by
  cases x with
  | own r off n =>
    simp only [boxX] at hx
    split at hx
    · rename_i hr
      refine arg_turns H hbx hrw hrow (fun q hq => ?_) (by unfold argX; simp only [hr, if_true]; exact hx)
      simp [X.rows] at hq
      subst hq
      exact .inl (by simpa using hr)
    · cases hx
  | ep r i off => simp [boxX] at hx
  | fp e off => simp [boxX] at hx
  | c d => cases hx; exact arg_turns H hbx hrw hrow (fun q hq => by simp [X.rows] at hq) rfl
  | ptr k off => exact arg_turns H hbx hrw hrow (fun q hq => by simp [X.rows] at hq) hx
  | clo bd f cs => exact arg_turns H hbx hrw hrow (fun q hq => by simp [X.rows] at hq) hx
  | junk => cases hx; intro v _; trivial

/-- The callee's heap. -/
theorem call_sim (H : HSim W who L h) (hnk : ks.Nodup) (hnr : rs.Nodup) {bx : List (List X)} {rw : List Row} (hbx : (ks.mapM fun k => (h.bx[k]?).bind fun xs => xs.mapM (boxX ks rs)) = some bx) (hrw : (rs.mapM fun r => h.rw[r]?) = some rw) :
    HSim W (callWho who ks rs bor) (callLay L ks rs) ⟨bx, rw⟩ ∧ (∀ i r, rs[i]? = some r → (⟨bx, rw⟩ : Hp).row i = h.row r) ∧ bx.length = ks.length ∧ rs.length = rw.length ∧ (∀ k ∈ ks, k < h.bx.length) ∧ ∀ r ∈ rs, r < h.rw.length := by
  obtain ⟨hb1, hb2⟩ := mapM_get hbx
  obtain ⟨hr1, hr2⟩ := mapM_get hrw
  have hrow : ∀ i r, rs[i]? = some r → (⟨bx, rw⟩ : Hp).row i = h.row r := fun i r hi => by
    obtain ⟨y, h1, h2⟩ := hr2 i r hi
    unfold Hp.row
    simp only [h1, h2]
  refine ⟨⟨fun i ys hi => ?_, fun i ty sz es hi => ?_, fun i sz es hi => ?_⟩, hrow, hb1.symm, hr1, fun k hk => ?_, fun r hr => ?_⟩
  · have hil : i < ks.length := by rw [hb1]; exact (List.getElem?_eq_some_iff.1 hi).1
    obtain ⟨y, h1, h2⟩ := hb2 i ks[i] (List.getElem?_eq_getElem hil)
    simp only at hi
    rw [hi] at h1
    cases h1
    cases hk : h.bx[ks[i]]? with
    | none => simp [hk] at h2
    | some xs =>
      simp only [hk, Option.bind_some] at h2
      obtain ⟨us, ty, h3, h4, h5⟩ := H.box _ xs hk
      have e : (callLay L ks rs).box i = L.box ks[i] := by show L.box (ks.getD i 0) = _; rw [List.getD_eq_getElem?_getD, List.getElem?_eq_getElem hil]; rfl
      rw [e]
      refine ⟨us, ty, h3, ?_, map2_xs (Map2.mapM h2 fun x _ y hx => box_turns H hb1.symm hr1 hrow hx) h5⟩
      unfold callWho
      rw [h4]
      simp [idx_get hnk hil]
  · have hil : i < rs.length := by rw [hr1]; exact (List.getElem?_eq_some_iff.1 hi).1
    obtain ⟨y, h1, h2⟩ := hr2 i rs[i] (List.getElem?_eq_getElem hil)
    simp only at hi
    rw [hi] at h1
    cases h1
    have e : (callLay L ks rs).row i = L.row rs[i] := by show L.row (rs.getD i 0) = _; rw [List.getD_eq_getElem?_getD, List.getElem?_eq_getElem hil]; rfl
    rw [e]
    have hmu := H.mu _ ty sz es h2
    obtain ⟨us, h3, h4⟩ := hmu.own
    refine ⟨hmu.size, ⟨us, h3, h4.mono fun b hb => callWho_frozen hb⟩, fun g hg => ?_⟩
    unfold callWho
    rw [hmu.who g hg]
    simp [idx_get hnr hil]
  · have hil : i < rs.length := by rw [hr1]; exact (List.getElem?_eq_some_iff.1 hi).1
    obtain ⟨y, h1, h2⟩ := hr2 i rs[i] (List.getElem?_eq_getElem hil)
    simp only at hi
    rw [hi] at h1
    cases h1
    have e : (callLay L ks rs).row i = L.row rs[i] := by show L.row (rs.getD i 0) = _; rw [List.getD_eq_getElem?_getD, List.getElem?_eq_getElem hil]; rfl
    rw [e]
    have hf := H.frz _ sz es h2
    exact ⟨hf.rep.mono fun b hb => callWho_frozen hb, fun g hg => ⟨callWho_frozen (hf.who g hg).1, (hf.who g hg).2⟩⟩
  · obtain ⟨i, hi⟩ := List.getElem?_of_mem hk
    obtain ⟨y, h1, h2⟩ := hb2 i k hi
    cases hk2 : h.bx[k]? with
    | none => simp [hk2] at h2
    | some xs => exact (List.getElem?_eq_some_iff.1 hk2).1
  · obtain ⟨i, hi⟩ := List.getElem?_of_mem hr
    obtain ⟨y, h1, h2⟩ := hr2 i r hi
    exact (List.getElem?_eq_some_iff.1 h2).1

/-! Back at the caller -/
def backWho (fr gk : Nat → Nat) : Who → Who
  | .box i => .box (gk i)
  | .row i => .row (fr i)
  | .frozen => .frozen
  | .other => .frozen
def retWho (size : Nat) (who whoD : Nat → Who) (ks rs bor : List Nat) (fr gk : Nat → Nat) (b : Nat) : Who :=
  if b < size then
    match who b with
    | .frozen => .frozen
    | .other => .other
    | .box k => if k ∈ ks then backWho fr gk (whoD b) else .box k
    | .row r => if r ∈ rs then backWho fr gk (whoD b) else if r ∈ bor then .frozen else .row r
  else backWho fr gk (whoD b)
def retLay (L LD : Lay) (nb nr : Nat) (ks rs : List Nat) : Lay :=
  ⟨fun k => if k < nb then L.box k else LD.box (k - nb + ks.length), fun r => if r ∈ rs then LD.row (rs.idxOf r) else if r < nr then L.row r else LD.row (r - nr + rs.length)⟩
def retHp (h hd : Hp) (ks rs bor : List Nat) (fr gk : Nat → Nat) : Hp :=
  ⟨setMany h.bx ks ((hd.bx.take ks.length).map (·.map (X.ren fr gk))) ++ (hd.bx.drop ks.length).map (·.map (X.ren fr gk)),
    setMany (freezeRows h.rw bor) rs (hd.rw.take rs.length) ++ hd.rw.drop rs.length⟩

theorem backTo_lt {n : Nat} {ks : List Nat} {i : Nat} (hi : i < ks.length) : backTo n ks i = ks[i] := by unfold backTo; rw [List.getElem?_eq_getElem hi]; rfl
theorem backTo_ge {n : Nat} {ks : List Nat} {i : Nat} (hi : ks.length ≤ i) : backTo n ks i = n + (i - ks.length) := by unfold backTo; rw [List.getElem?_eq_none hi]; rfl

/-- What comes back, in the caller's numbers. -/
theorem ret_sim (H : HSim W who L h) (HC : HSim W (callWho who ks rs bor) (callLay L ks rs) hc) (hnk : ks.Nodup) (hnr : rs.Nodup) (hbl : hc.bx.length = ks.length) (hrl : rs.length = hc.rw.length) (hkl : ∀ k ∈ ks, k < h.bx.length) (hrsl : ∀ r ∈ rs, r < h.rw.length)
    (hrow : ∀ i r, rs[i]? = some r → hc.row i = h.row r) (hbor : ∀ r ∈ bor, r ∉ rs) (HD : HSim W' whoD LD hd) (SD : Step .all W (callWho who ks rs bor) (callLay L ks rs) hc W' whoD LD hd) :
    HSim W' (retWho W.heap.size who whoD ks rs bor (backTo h.rw.length rs) (backTo h.bx.length ks)) (retLay L LD h.bx.length h.rw.length ks rs) (retHp h hd ks rs bor (backTo h.rw.length rs) (backTo h.bx.length ks)) ∧
    Step ⟨(· ∈ ks), (· ∈ rs)⟩ W who L h W' (retWho W.heap.size who whoD ks rs bor (backTo h.rw.length rs) (backTo h.bx.length ks)) (retLay L LD h.bx.length h.rw.length ks rs) (retHp h hd ks rs bor (backTo h.rw.length rs) (backTo h.bx.length ks)) ∧
    ∀ x, Turns W' whoD LD hd W' (retWho W.heap.size who whoD ks rs bor (backTo h.rw.length rs) (backTo h.bx.length ks)) (retLay L LD h.bx.length h.rw.length ks rs) (retHp h hd ks rs bor (backTo h.rw.length rs) (backTo h.bx.length ks)) x (x.ren (backTo h.rw.length rs) (backTo h.bx.length ks)) := by
  generalize hfr : backTo h.rw.length rs = fr
  generalize hgk : backTo h.bx.length ks = gk
  generalize hW : retWho W.heap.size who whoD ks rs bor fr gk = whoE
  generalize hLE : retLay L LD h.bx.length h.rw.length ks rs = LE
  generalize hhE : retHp h hd ks rs bor fr gk = hE
  have hdb : ks.length ≤ hd.bx.length := by rw [← hbl]; exact SD.bx
  have hdr : rs.length ≤ hd.rw.length := by rw [hrl]; exact SD.rw
  -- numbers
  have gk_lt : ∀ {i}, i < ks.length → ∃ k ∈ ks, gk i = k ∧ ks[i]? = some k ∧ ks.idxOf k = i := fun {i} hi => by
    refine ⟨ks[i], List.getElem_mem hi, by rw [← hgk, backTo_lt hi], List.getElem?_eq_getElem hi, idx_get hnk hi⟩
  have fr_lt : ∀ {i}, i < rs.length → ∃ r ∈ rs, fr i = r ∧ rs[i]? = some r ∧ rs.idxOf r = i := fun {i} hi => by
    refine ⟨rs[i], List.getElem_mem hi, by rw [← hfr, backTo_lt hi], List.getElem?_eq_getElem hi, idx_get hnr hi⟩
  have gk_ge : ∀ {i}, ks.length ≤ i → gk i = h.bx.length + (i - ks.length) := fun {i} hi => by rw [← hgk, backTo_ge hi]
  have fr_ge : ∀ {i}, rs.length ≤ i → fr i = h.rw.length + (i - rs.length) := fun {i} hi => by rw [← hfr, backTo_ge hi]
  have gk_idx : ∀ {k}, k ∈ ks → gk (ks.idxOf k) = k := fun {k} hk => by
    have h1 := List.idxOf_lt_length_of_mem hk
    rw [← hgk, backTo_lt h1, List.getElem_idxOf]
  have fr_idx : ∀ {r}, r ∈ rs → fr (rs.idxOf r) = r := fun {r} hr => by
    have h1 := List.idxOf_lt_length_of_mem hr
    rw [← hfr, backTo_lt h1, List.getElem_idxOf]
  -- the heap in the caller's numbers
  have bxlen : hE.bx.length = h.bx.length + (hd.bx.length - ks.length) := by rw [← hhE]; simp [retHp, setMany_len]
  have rwlen : hE.rw.length = h.rw.length + (hd.rw.length - rs.length) := by rw [← hhE]; simp [retHp, setMany_len, freezeRows_len]
  have bx_at : ∀ i, i < hd.bx.length → hE.bx[gk i]? = (hd.bx[i]?).map (·.map (X.ren fr gk)) := fun i hi => by
    rw [← hhE]
    simp only [retHp]
    by_cases hik : i < ks.length
    · obtain ⟨k, hk, e1, e2, e3⟩ := gk_lt hik
      rw [e1, List.getElem?_append_left (by rw [setMany_len]; exact hkl k hk), setMany_at _ _ _ hnk e2 (hkl k hk) (by simp; omega), List.getElem?_map, List.getElem?_take_of_lt hik]
    · rw [gk_ge (by omega), List.getElem?_append_right (by rw [setMany_len]; omega), setMany_len, List.getElem?_map, List.getElem?_drop]
      congr 2
      omega
  have rw_at : ∀ i, i < hd.rw.length → hE.rw[fr i]? = hd.rw[i]? := fun i hi => by
    rw [← hhE]
    simp only [retHp]
    by_cases hik : i < rs.length
    · obtain ⟨k, hk, e1, e2, e3⟩ := fr_lt hik
      rw [e1, List.getElem?_append_left (by rw [setMany_len, freezeRows_len]; exact hrsl k hk), setMany_at _ _ _ hnr e2 (by rw [freezeRows_len]; exact hrsl k hk) (by simp; omega), List.getElem?_take_of_lt hik]
    · rw [fr_ge (by omega), List.getElem?_append_right (by rw [setMany_len, freezeRows_len]; omega), setMany_len, freezeRows_len, List.getElem?_drop]
      congr 1
      omega
  have bx_old : ∀ k, k < h.bx.length → k ∉ ks → hE.bx[k]? = h.bx[k]? := fun k hk hn => by
    rw [← hhE]
    simp only [retHp]
    rw [List.getElem?_append_left (by rw [setMany_len]; exact hk), setMany_ne _ _ _ hn]
  have rw_old : ∀ r, r < h.rw.length → r ∉ rs → hE.rw[r]? = if r ∈ bor then (h.rw[r]?).map Row.frz else h.rw[r]? := fun r hr hn => by
    rw [← hhE]
    simp only [retHp]
    rw [List.getElem?_append_left (by rw [setMany_len, freezeRows_len]; exact hr), setMany_ne _ _ _ hn, freezeRows_at]
  have row_at : ∀ i, i < hd.rw.length → hE.row (fr i) = hd.row i := fun i hi => by unfold Hp.row; rw [rw_at i hi]
  have row_old : ∀ r, r < h.rw.length → r ∉ rs → hE.row r = h.row r := fun r hr hn => by
    unfold Hp.row
    rw [rw_old r hr hn]
    by_cases hb : r ∈ bor
    · rw [if_pos hb]
      cases hq : h.rw[r]? with
      | none => rfl
      | some x => cases x <;> rfl
    · rw [if_neg hb]
  -- places
  have box_at : ∀ i, i < hd.bx.length → LE.box (gk i) = LD.box i := fun i hi => by
    rw [← hLE]
    simp only [retLay]
    by_cases hik : i < ks.length
    · obtain ⟨k, hk, e1, e2, e3⟩ := gk_lt hik
      rw [e1, if_pos (hkl k hk), SD.box i (by rw [hbl]; exact hik)]
      show L.box k = L.box (ks.getD i 0)
      rw [List.getD_eq_getElem?_getD, e2]; rfl
    · rw [gk_ge (by omega), if_neg (by omega)]
      congr 1
      omega
  have lrow_at : ∀ i, i < hd.rw.length → LE.row (fr i) = LD.row i := fun i hi => by
    rw [← hLE]
    simp only [retLay]
    by_cases hik : i < rs.length
    · obtain ⟨k, hk, e1, e2, e3⟩ := fr_lt hik
      rw [e1, if_pos hk, e3]
    · have hge := fr_ge (i := i) (by omega)
      have hnm : fr i ∉ rs := fun hm => by have := hrsl _ hm; omega
      rw [if_neg hnm, if_neg (by omega), hge]
      congr 1
      omega
  have box_old : ∀ k, k < h.bx.length → LE.box k = L.box k := fun k hk => by rw [← hLE]; simp only [retLay]; rw [if_pos hk]
  have lrow_old : ∀ r, r < h.rw.length → r ∉ rs → LE.row r = L.row r := fun r hr hn => by rw [← hLE]; simp only [retLay]; rw [if_neg hn, if_pos hr]
  -- whose
  have who_back : ∀ b, (∀ i, whoD b = .box i → whoE b = .box (gk i)) ∧ (∀ i, whoD b = .row i → whoE b = .row (fr i)) ∧ (whoD b = .frozen → whoE b = .frozen) := fun b => by
    rw [← hW]
    unfold retWho
    by_cases hb : b < W.heap.size
    · rw [if_pos hb]
      cases hw : who b with
      | frozen =>
        have := (SD.fro b (by unfold callWho; rw [hw]) hb).2
        exact ⟨fun i e => by rw [this] at e; (cases e), fun i e => by rw [this] at e; (cases e), fun _ => rfl⟩
      | other =>
        have := (SD.oth b (by unfold callWho; rw [hw]) hb).2
        exact ⟨fun i e => by rw [this] at e; (cases e), fun i e => by rw [this] at e; (cases e), fun e => by rw [this] at e; (cases e)⟩
      | box k =>
        by_cases hk : k ∈ ks
        · simp only [hk, if_true]
          exact ⟨fun i e => by rw [e]; rfl, fun i e => by rw [e]; rfl, fun e => by rw [e]; rfl⟩
        · have := (SD.oth b (by unfold callWho; rw [hw]; simp [hk]) hb).2
          exact ⟨fun i e => by rw [this] at e; (cases e), fun i e => by rw [this] at e; (cases e), fun e => by rw [this] at e; (cases e)⟩
      | row r =>
        by_cases hr : r ∈ rs
        · simp only [hr, if_true]
          exact ⟨fun i e => by rw [e]; rfl, fun i e => by rw [e]; rfl, fun e => by rw [e]; rfl⟩
        · by_cases hq : r ∈ bor
          · have := (SD.fro b (by unfold callWho; rw [hw]; simp [hr, hq]) hb).2
            exact ⟨fun i e => by rw [this] at e; (cases e), fun i e => by rw [this] at e; (cases e), fun _ => by simp [hr, hq]⟩
          · have := (SD.oth b (by unfold callWho; rw [hw]; simp [hr, hq]) hb).2
            exact ⟨fun i e => by rw [this] at e; (cases e), fun i e => by rw [this] at e; (cases e), fun e => by rw [this] at e; (cases e)⟩
    · rw [if_neg hb]
      exact ⟨fun i e => by rw [e]; rfl, fun i e => by rw [e]; rfl, fun e => by rw [e]; rfl⟩
  have hfro : ∀ b, whoD b = .frozen → whoE b = .frozen := fun b => (who_back b).2.2
  -- a block that the callee may not touch
  have keep_box : ∀ k, k < h.bx.length → k ∉ ks → W'.heap[L.box k]? = W.heap[L.box k]? ∧ whoE (L.box k) = .box k := fun k hk hn => by
    obtain ⟨h1, h2⟩ := H.box_lt hk
    refine ⟨(SD.oth _ (by unfold callWho; rw [h2]; simp [hn]) h1).1, ?_⟩
    rw [← hW]
    unfold retWho
    rw [if_pos h1, h2]
    simp [hn]
  have keep_row : ∀ r g, who g = .row r → g < W.heap.size → r ∉ rs → W'.heap[g]? = W.heap[g]? ∧ whoE g = if r ∈ bor then .frozen else .row r := fun r g hw hg hn => by
    refine ⟨?_, ?_⟩
    · by_cases hq : r ∈ bor
      · exact (SD.fro _ (by unfold callWho; rw [hw]; simp [hn, hq]) hg).1
      · exact (SD.oth _ (by unfold callWho; rw [hw]; simp [hn, hq]) hg).1
    · rw [← hW]
      unfold retWho
      rw [if_pos hg, hw]
      simp [hn]
  have turns : ∀ x, Turns W' whoD LD hd W' whoE LE hE x (x.ren fr gk) := fun x v hv => by
    cases x with
    | c d => exact RepC.mono hv hfro
    | own r off n =>
      refine ⟨?_, hv.2.1, fun sz es he => ?_⟩
      · have := hv.1
        by_cases hr : r < rs.length
        · obtain ⟨k, hk, e1, _⟩ := fr_lt hr
          rw [e1, rwlen]; have := hrsl k hk; omega
        · rw [fr_ge (by omega), rwlen]; omega
      · rw [row_at r hv.1] at he
        rw [lrow_at r hv.1]
        exact hv.2.2 sz es he
    | ptr k off =>
      refine ⟨?_, by rw [box_at k hv.1]; exact hv.2⟩
      have := hv.1
      by_cases hk : k < ks.length
      · obtain ⟨q, hq, e1, _⟩ := gk_lt hk
        rw [e1, bxlen]; have := hkl q hq; omega
      · rw [gk_ge (by omega), bxlen]; omega
    | ep r i off =>
      obtain ⟨h1, b, o, h2, h3⟩ := hv
      refine ⟨?_, b, o, h2, fun sz es he => ?_⟩
      · by_cases hr : r < rs.length
        · obtain ⟨k, hk, e1, _⟩ := fr_lt hr
          rw [e1, rwlen]; have := hrsl k hk; omega
        · rw [fr_ge (by omega), rwlen]; omega
      · rw [row_at r h1] at he
        rw [lrow_at r h1]
        exact h3 sz es he
    | fp e off =>
      obtain ⟨b, o, us, h1, ⟨h2, h3⟩, h4, h5⟩ := hv
      exact ⟨b, o, us, h1, ⟨hfro b h2, h3⟩, h4, h5.mono hfro⟩
    | clo bd f cs =>
      obtain ⟨h1, h2⟩ := hv
      refine ⟨fun k hk => ?_, ?_⟩
      · obtain ⟨k', hk', rfl⟩ := List.mem_map.1 hk
        have := h1 k' hk'
        by_cases hkk : k' < ks.length
        · obtain ⟨q, hq, e1, _⟩ := gk_lt hkk
          rw [e1, bxlen]; have := hkl q hq; omega
        · rw [gk_ge (by omega), bxlen]; omega
      · rw [h2, List.map_map]
        congr 1
        exact List.map_congr_left fun k hk => by show _ = ptrV (LE.box (gk k)) 0; rw [box_at k (h1 k hk)]
    | junk => trivial
  have SE : Step ⟨(· ∈ ks), (· ∈ rs)⟩ W who L h W' whoE LE hE :=
    { os := SD.os, tape := SD.tape, output := SD.output, size := SD.size
      fro := fun b hb hlt => ⟨(SD.fro b (callWho_frozen hb) hlt).1, by rw [← hW]; unfold retWho; rw [if_pos hlt, hb]⟩
      oth := fun b hb hlt => ⟨(SD.oth b (by unfold callWho; rw [hb]) hlt).1, by rw [← hW]; unfold retWho; rw [if_pos hlt, hb]⟩
      bx := by rw [bxlen]; omega
      box := box_old
      rw := by rw [rwlen]; omega
      row := fun r hr sz es he => by
        by_cases hrm : r ∈ rs
        · have hil := List.idxOf_lt_length_of_mem hrm
          have e1 := fr_idx hrm
          rw [← e1, row_at _ (by omega)] at he
          obtain ⟨⟨es0, h1, h2⟩, h3⟩ := SD.row (rs.idxOf r) (by rw [← hrl]; exact hil) sz es he
          rw [hrow _ r (get_idx hrm)] at h1
          refine ⟨⟨es0, h1, h2⟩, ?_⟩
          rw [← e1, lrow_at _ (by omega), h3, e1]
          show L.row (rs.getD (rs.idxOf r) 0) = _
          rw [idx_eq hrm]
        · rw [row_old r hr hrm] at he
          exact ⟨⟨es, he, rfl⟩, lrow_old r hr hrm⟩
      keepB := fun b hlt k hb hm => by
        have hm' : k ∉ ks := hm
        refine ⟨(SD.oth b (by unfold callWho; rw [hb]; simp [hm']) hlt).1, ?_⟩
        rw [← hW]
        unfold retWho
        rw [if_pos hlt, hb]
        simp [hm']
      keepR := fun b hlt r hb hm => by
        obtain ⟨h1, h2⟩ := keep_row r b hb hlt hm
        refine ⟨h1, ?_⟩
        rw [h2]
        split
        · exact .inr rfl
        · exact .inl rfl }
  refine ⟨⟨fun k ys hk => ?_, fun r ty sz es hr => ?_, fun r sz es hr => ?_⟩, SE, turns⟩
  · by_cases hnew : ∃ i, i < hd.bx.length ∧ k = gk i
    · obtain ⟨i, hi, rfl⟩ := hnew
      rw [bx_at i hi, List.getElem?_eq_getElem hi] at hk
      simp only [Option.map_some, Option.some.injEq] at hk
      subst hk
      obtain ⟨us, ty, h1, h2, h3⟩ := HD.box i _ (List.getElem?_eq_getElem hi)
      rw [box_at i hi]
      exact ⟨us, ty, h1, (who_back _).1 i h2, map2_xs (Map2.map fun x _ => turns x) h3⟩
    · have hkl2 : k < hE.bx.length := (List.getElem?_eq_some_iff.1 hk).1
      have hk1 : k < h.bx.length := by
        by_cases hk1 : k < h.bx.length
        · exact hk1
        · refine absurd ⟨k - h.bx.length + ks.length, by omega, ?_⟩ hnew
          rw [gk_ge (by omega)]; omega
      have hkn : k ∉ ks := fun hm => hnew ⟨ks.idxOf k, by have := List.idxOf_lt_length_of_mem hm; omega, (gk_idx hm).symm⟩
      rw [bx_old k hk1 hkn] at hk
      obtain ⟨h1, h2⟩ := keep_box k hk1 hkn
      exact box_same SE H hk h1 (h2.trans (H.box_lt hk1).2.symm)
  · by_cases hnew : ∃ i, i < hd.rw.length ∧ r = fr i
    · obtain ⟨i, hi, rfl⟩ := hnew
      rw [rw_at i hi] at hr
      have hmu := HD.mu i ty sz es hr
      rw [lrow_at i hi]
      obtain ⟨us, h3, h4⟩ := hmu.own
      exact ⟨hmu.size, ⟨us, h3, h4.mono hfro⟩, fun g hg => (who_back g).2.1 i (hmu.who g hg)⟩
    · have hkl2 : r < hE.rw.length := (List.getElem?_eq_some_iff.1 hr).1
      have hk1 : r < h.rw.length := by
        by_cases hk1 : r < h.rw.length
        · exact hk1
        · refine absurd ⟨r - h.rw.length + rs.length, by omega, ?_⟩ hnew
          rw [fr_ge (by omega)]; omega
      have hkn : r ∉ rs := fun hm => hnew ⟨rs.idxOf r, by have := List.idxOf_lt_length_of_mem hm; omega, (fr_idx hm).symm⟩
      rw [rw_old r hk1 hkn] at hr
      have hrb : r ∉ bor := fun hb => by
        rw [if_pos hb] at hr
        cases hq : h.rw[r]? with
        | none => simp [hq] at hr
        | some x => cases x <;> simp [hq, Row.frz] at hr
      rw [if_neg hrb] at hr
      have hmu := H.mu r ty sz es hr
      rw [lrow_old r hk1 hkn]
      refine own_same SE hmu fun g hg => ?_
      obtain ⟨h1, h2⟩ := keep_row r g (hmu.who g hg) (hmu.lt hg) hkn
      rw [if_neg hrb] at h2
      exact ⟨h1, h2⟩
  · by_cases hnew : ∃ i, i < hd.rw.length ∧ r = fr i
    · obtain ⟨i, hi, rfl⟩ := hnew
      rw [rw_at i hi] at hr
      rw [lrow_at i hi]
      have hf := HD.frz i sz es hr
      exact ⟨hf.rep.mono hfro, fun g hg => ⟨hfro g (hf.who g hg).1, (hf.who g hg).2⟩⟩
    · have hkl2 : r < hE.rw.length := (List.getElem?_eq_some_iff.1 hr).1
      have hk1 : r < h.rw.length := by
        by_cases hk1 : r < h.rw.length
        · exact hk1
        · refine absurd ⟨r - h.rw.length + rs.length, by omega, ?_⟩ hnew
          rw [fr_ge (by omega)]; omega
      have hkn : r ∉ rs := fun hm => hnew ⟨rs.idxOf r, by have := List.idxOf_lt_length_of_mem hm; omega, (fr_idx hm).symm⟩
      rw [rw_old r hk1 hkn] at hr
      rw [lrow_old r hk1 hkn]
      split at hr
      · rename_i hb
        have hro : h.row r = some (sz, es) := by
          unfold Hp.row
          cases hq : h.rw[r]? with
          | none => simp [hq] at hr
          | some x =>
            cases x with
            | dead => simp [hq, Row.frz] at hr
            | mu ty sz' es' => simp [hq, Row.frz] at hr; simp [hr]
            | fro sz' es' => simp [hq, Row.frz] at hr; simp [hr]
        refine ⟨(SD.repC (lent_rep H hro hb hkn)).mono hfro, fun g hg => ?_⟩
        have hgf : callWho who ks rs bor g = .frozen ∧ g < W.heap.size := by
          unfold Hp.row at hro
          split at hro
          · rename_i ty sz' es' he
            have hmu := H.mu r ty _ _ he
            exact ⟨by unfold callWho; rw [hmu.who g hg]; simp [hb, hkn], hmu.lt hg⟩
          · rename_i sz' es' he
            have hf := (H.frz r _ _ he).who g hg
            exact ⟨callWho_frozen hf.1, hf.2⟩
          · cases hro
        exact ⟨hfro g (SD.fro g hgf.1 hgf.2).2, Nat.lt_of_lt_of_le hgf.2 SD.size⟩
      · exact SE.froR (H.frz r sz es hr)
end
end Go.Proofs.YtkdnbnkbnegckaaGreatDoor
