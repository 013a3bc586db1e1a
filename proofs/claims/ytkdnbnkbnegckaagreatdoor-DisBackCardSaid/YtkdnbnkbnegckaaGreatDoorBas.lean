/- Texts, as operations of the second machine: digits, instructions' and types' texts, and their joining. -/
import Derived.Test.YtkdnbnkbnegckaaGreatDoorSigW
import Derived.Test.YtkdnbnkbnegckaaGreatDoorCurW
import Derived.Test.YtkdnbnkbnegckaaGreatDoorInstrX
import Derived.Test.YtkdnbnkbnegckaaGreatDoorInstrN
import Derived.Test.YtkdnbnkbnegckaaGreatDoorUnl
import Derived.Test.YtkdnbnkbnegckaaGreatDoorShelf
namespace Go.Proofs.YtkdnbnkbnegckaaGreatDoor
open Go.RowKit
set_option maxRecDepth 20000

theorem KOk.more {P : Program} {f0 : FuncId} {g : List T → Hp → Option (T × Hp)} {K : CallFn} (h0 : KOk P fun f a h => if f = f0 then g a h else none) (hK : KOk P K) : KOk P fun f a h => if f = f0 then g a h else K f a h := fun f a h res h' hc => by
  simp only at hc
  by_cases hf : f = f0
  · rw [if_pos hf] at hc
    exact h0 f a h res h' (by simp only; rw [if_pos hf]; exact hc)
  · rw [if_neg hf] at hc
    exact hK f a h res h' hc
def txtT (b : List UInt8) : T := ⟨.one, [.c (.v (.string ⟨⟨b⟩⟩))]⟩
theorem str_fin {W : World} {who : Nat → Who} {L : Lay} {h : Hp} (H : HSim W who L h) {b : List UInt8} {e : Ending} {W' : World} (he : e = .returned (.string ⟨⟨b⟩⟩) ∧ Ext W W') : ∃ v who' L', e = .returned v ∧ RepT W' who' L' h (txtT b) v ∧ HSim W' who' L' h ∧ Step .all W who L h W' who' L' h := by
  obtain ⟨H', S'⟩ := ext_frozen H he.2
  exact ⟨_, _, L, he.1, ⟨_, rfl, .v _ rfl⟩, H', S'.any⟩
/-! A number's digits -/
def digX (a : List T) (h : Hp) : Option (T × Hp) :=
  match a with
  | [⟨.one, [.c (.v (.int .i64 n))]⟩] => if -9223372036854775808 ≤ n ∧ n ≤ 9223372036854775807 then some (txtT (decB n), h) else none
  | _ => none
theorem int_arg {W : World} {who : Nat → Who} {L : Lay} {h : Hp} {n : Int} {vs : List Value} (hl : 1 = vs.length) (R : ∀ (i : Nat) t v, ([⟨.one, [.c (.v (.int .i64 n))]⟩] : List T)[i]? = some t → vs[i]? = some v → RepT W who L h t v) : vs = [.int .i64 n] := by
  obtain ⟨v, rfl⟩ : ∃ v, vs = [v] := by
    match vs, hl with
    | [v], _ => exact ⟨v, rfl⟩
  obtain ⟨x, hx, hr⟩ := R 0 _ v rfl rfl
  cases hx
  cases hr
  rfl
theorem dig_ok : KOk Tryz.prog fun f a h => if f = 48 then digX a h else none := fun f a h res h' hc => by
  simp only at hc
  split at hc
  case isFalse => cases hc
  rename_i hf
  subst hf
  refine ⟨⟨_, Tryz.func48, by kernel_rfl, by kernel_rfl⟩, fun W who L vs H hl R => ?_⟩
  unfold digX at hc
  split at hc
  · rename_i n
    split at hc
    case isFalse => cases hc
    rename_i hn
    cases hc
    obtain rfl := int_arg hl R
    exact (instr_Digits n W hn.1 hn.2).mono fun e W' hh => str_fin H hh
  · cases hc
theorem rdig_ok : KOk Tryz.prog fun f a h => if f = 52 then digX a h else none := fun f a h res h' hc => by
  simp only at hc
  split at hc
  case isFalse => cases hc
  rename_i hf
  subst hf
  refine ⟨⟨_, Tryz.func52, by kernel_rfl, by kernel_rfl⟩, fun W who L vs H hl R => ?_⟩
  unfold digX at hc
  split at hc
  · rename_i n
    split at hc
    case isFalse => cases hc
    rename_i hn
    cases hc
    obtain rfl := int_arg hl R
    exact (ref_Digits n W hn.1 hn.2).mono fun e W' hh => str_fin H hh
  · cases hc
/-! An instruction's text -/
def instrX (a : List T) (h : Hp) : Option (T × Hp) :=
  match a with
  | [⟨.agg, [.c (.v (.int .i64 n)), .c (.v (.int .i64 m))]⟩] => if -9223372036854775808 ≤ m ∧ m ≤ 9223372036854775807 then some (txtT (textI (n, m)), h) else none
  | _ => none
theorem instr_arg {W : World} {who : Nat → Who} {L : Lay} {h : Hp} {n m : Int} {vs : List Value} (hl : 1 = vs.length) (R : ∀ (i : Nat) t v, ([⟨.agg, [.c (.v (.int .i64 n)), .c (.v (.int .i64 m))]⟩] : List T)[i]? = some t → vs[i]? = some v → RepT W who L h t v) : vs = [.agg #[.int .i64 n, .int .i64 m]] := by
  obtain ⟨v, rfl⟩ : ∃ v, vs = [v] := by
    match vs, hl with
    | [v], _ => exact ⟨v, rfl⟩
  obtain ⟨us, rfl, hx1, hx2⟩ := R 0 _ v rfl rfl
  obtain ⟨u1, u2, rfl⟩ : ∃ u1 u2, us = [u1, u2] := by
    match us, hx1 with
    | [u1, u2], _ => exact ⟨u1, u2, rfl⟩
  have a1 := (hx2 0 _ u1 rfl rfl).1
  have a2 := (hx2 1 _ u2 rfl rfl).1
  cases a1
  cases a2
  rfl
theorem instr_ok : KOk Tryz.prog fun f a h => if f = 72 then instrX a h else none := fun f a h res h' hc => by
  simp only at hc
  split at hc
  case isFalse => cases hc
  rename_i hf
  subst hf
  refine ⟨⟨_, Tryz.func72, by kernel_rfl, by kernel_rfl⟩, fun W who L vs H hl R => ?_⟩
  unfold instrX at hc
  split at hc
  · rename_i n m
    split at hc
    case isFalse => cases hc
    rename_i hn
    cases hc
    obtain rfl := instr_arg hl R
    exact (instr_Text n m W hn).mono fun e W' hh => str_fin H hh
  · cases hc
/-! Types' text -/
def intsX : List (List C) → Option (List Int)
  | [] => some []
  | [.v (.int .i64 n)] :: es => (intsX es).map (n :: ·)
  | _ => none
theorem intsX_get : ∀ {es : List (List C)} {l : List Int}, intsX es = some l → es.length = l.length ∧ ∀ j (h : j < l.length), es.flatten[j]? = some (.v (.int .i64 l[j]))
  | [], l, h => by simp only [intsX, Option.some.injEq] at h; subst h; simp
  | e :: es, l, h => by
    unfold intsX at h
    split at h
    · rename_i h0; cases h0
    · rename_i n es' h0
      cases h0
      cases hr : intsX es with
      | none => rw [hr] at h; cases h
      | some r =>
        rw [hr] at h
        cases h
        obtain ⟨h1, h3⟩ := intsX_get hr
        refine ⟨by simp [h1], fun j hj => ?_⟩
        cases j with
        | zero => rfl
        | succ j => simpa using h3 j (by simpa using hj)
    · cases h
theorem intsX_enc : ∀ {l : List Int}, intsX (l.map fun n => [.v (.int .i64 n)]) = some l
  | [] => rfl
  | n :: l => by
    show (intsX (l.map fun n => [.v (.int .i64 n)])).map (n :: ·) = _
    rw [intsX_enc]
    rfl
def typesX (a : List T) (h : Hp) : Option (T × Hp) :=
  match a with
  | [⟨.one, [.c (.fz 1 es)]⟩] => (intsX es).bind fun l => if l.length ≤ 17592186044416 then some (txtT (textB l), h) else none
  | _ => none
theorem typesX_of {l : List Int} {h : Hp} (hl : l.length ≤ 17592186044416) : typesX [⟨.one, [.c (.fz 1 (l.map fun n => [.v (.int .i64 n)]))]⟩] h = some (txtT (textB l), h) := by
  simp only [typesX, intsX_enc, Option.bind_some]
  exact if_pos hl
theorem ints_arg {W : World} {who : Nat → Who} {L : Lay} {h : Hp} {es : List (List C)} {l : List Int} {vs : List Value} (hs : intsX es = some l) (hl : 1 = vs.length) (R : ∀ (i : Nat) t v, ([⟨.one, [.c (.fz 1 es)]⟩] : List T)[i]? = some t → vs[i]? = some v → RepT W who L h t v) : ∃ ao cap, vs = [.slice ao l.length cap] ∧ Cells W ao (l.map (.int .i64)) := by
  obtain ⟨v, rfl⟩ : ∃ v, vs = [v] := by
    match vs, hl with
    | [v], _ => exact ⟨v, rfl⟩
  obtain ⟨x, hx, hr⟩ := R 0 _ v rfl rfl
  cases hx
  obtain ⟨s1, s3⟩ := intsX_get hs
  cases hr with
  | fz _ cap _ ao us hu hcap ha hw hrg hlen hrep =>
    have hul : us.length = l.length := by
      rw [← hlen]
      have := flatten_len es hu
      omega
    have hus : us = l.map (.int .i64) := by
      refine List.ext_getElem (by simp [hul]) fun j h1 h2 => ?_
      have h3 := s3 j (by omega)
      have h4 := hrep j _ us[j] h3 (List.getElem?_eq_getElem h1)
      rw [List.getElem_map]
      generalize us[j] = u at *
      cases h4
      rfl
    refine ⟨ao, cap, by rw [s1], fun hne => ha fun h0 => hne ?_, fun b off e j u hj => hrg b off e j u (by rw [hus]; exact hj)⟩
    subst h0
    rw [List.eq_nil_of_length_eq_zero (show l.length = 0 from s1.symm)]
    rfl
theorem types_ok : KOk Tryz.prog fun f a h => if f = 58 then typesX a h else none := fun f a h res h' hc => by
  simp only at hc
  split at hc
  case isFalse => cases hc
  rename_i hf
  subst hf
  refine ⟨⟨_, Tryz.func58, by kernel_rfl, by kernel_rfl⟩, fun W who L vs H hl R => ?_⟩
  unfold typesX at hc
  split at hc
  · rename_i es
    cases hs : intsX es with
    | none => rw [hs] at hc; cases hc
    | some l =>
      rw [hs] at hc
      simp only [Option.bind_some] at hc
      split at hc
      case isFalse => cases hc
      rename_i hn
      cases hc
      obtain ⟨ao, cap, rfl, hC⟩ := ints_arg hs hl R
      exact (sig_Text ao cap l W hC hn).mono fun e W' hh => str_fin H hh
  · cases hc
/-! Texts, joined -/
def strsX : List (List C) → Option (List ByteArray)
  | [] => some []
  | [.v (.string b)] :: es => (strsX es).map (b :: ·)
  | _ => none
theorem strsX_get : ∀ {es : List (List C)} {l : List ByteArray}, strsX es = some l → es.length = l.length ∧ ∀ j (h : j < l.length), es.flatten[j]? = some (.v (.string l[j]))
  | [], l, h => by simp only [strsX, Option.some.injEq] at h; subst h; simp
  | e :: es, l, h => by
    unfold strsX at h
    split at h
    · rename_i h0; cases h0
    · rename_i n es' h0
      cases h0
      cases hr : strsX es with
      | none => rw [hr] at h; cases h
      | some r =>
        rw [hr] at h
        cases h
        obtain ⟨h1, h3⟩ := strsX_get hr
        refine ⟨by simp [h1], fun j hj => ?_⟩
        cases j with
        | zero => rfl
        | succ j => simpa using h3 j (by simpa using hj)
    · cases h
theorem strsX_enc : ∀ {l : List (List UInt8)}, strsX (l.map fun b => [.v (.string ⟨⟨b⟩⟩)]) = some (l.map fun b => ⟨⟨b⟩⟩)
  | [] => rfl
  | n :: l => by
    show (strsX (l.map fun b => [.v (.string ⟨⟨b⟩⟩)])).map ((⟨⟨n⟩⟩ : ByteArray) :: ·) = _
    rw [strsX_enc]
    rfl
def joinX (a : List T) (h : Hp) : Option (T × Hp) :=
  match a with
  | [⟨.one, [.c (.fz 1 es)]⟩, ⟨.one, [.c (.v (.string s))]⟩] => (strsX es).bind fun l => if es ≠ [] ∧ l.length ≤ 1000000 ∧ (Lib.join (l.map (·.data.toList)) s.data.toList).length ≤ 140737488355328 then some (txtT (Lib.join (l.map (·.data.toList)) s.data.toList), h) else none
  | _ => none
theorem joinX_of {l : List (List UInt8)} {s : List UInt8} {h : Hp} (h0 : 1 ≤ l.length) (hl : l.length ≤ 1000000) (h2 : (Lib.join l s).length ≤ 140737488355328) : joinX [⟨.one, [.c (.fz 1 (l.map fun b => [.v (.string ⟨⟨b⟩⟩)]))]⟩, ⟨.one, [.c (.v (.string ⟨⟨s⟩⟩))]⟩] h = some (txtT (Lib.join l s), h) := by
  have e : (l.map fun b => (⟨⟨b⟩⟩ : ByteArray)).map (·.data.toList) = l := by rw [List.map_map]; exact List.map_id' _
  simp only [joinX, strsX_enc, Option.bind_some, e]
  exact if_pos ⟨fun h => by rw [List.map_eq_nil_iff] at h; rw [h] at h0; simp at h0, by simpa using hl, h2⟩
theorem join_ok : KOk Tryz.prog fun f a h => if f = 63 then joinX a h else none := fun f a h res h' hc => by
  simp only at hc
  split at hc
  case isFalse => cases hc
  rename_i hf
  subst hf
  refine ⟨⟨_, Tryz.func63, by kernel_rfl, by kernel_rfl⟩, fun W who L vs H hl R => ?_⟩
  unfold joinX at hc
  split at hc
  · rename_i es s
    cases hs : strsX es with
    | none => rw [hs] at hc; cases hc
    | some l =>
      rw [hs] at hc
      simp only [Option.bind_some] at hc
      split at hc
      case isFalse => cases hc
      rename_i hn
      obtain ⟨hn0, hn1, hn2⟩ := hn
      cases hc
      obtain ⟨v, u, rfl⟩ : ∃ v u, vs = [v, u] := by
        match vs, hl with
        | [v, u], _ => exact ⟨v, u, rfl⟩
      obtain ⟨x, hx, hr⟩ := R 0 _ v rfl rfl
      cases hx
      obtain ⟨y, hy, hr2⟩ := R 1 _ u rfl rfl
      cases hy
      cases hr2
      obtain ⟨s1, s3⟩ := strsX_get hs
      cases hr with
      | fz _ cap _ ao us hu hcap ha hw hrg hlen hrep =>
        obtain ⟨b, off, rfl⟩ := ha hn0
        rw [s1]
        refine (Tryz.strings_Join b off cap l s W (fun j x hj => ?_) (hw b off hn0 rfl).2 (by omega) (by omega) hn2).mono fun e W' hh => str_fin H hh
        obtain ⟨h1, h2⟩ := List.getElem?_eq_some_iff.1 hj
        have h3 := s3 j h1
        have hul : us.length = l.length := by
          rw [← hlen]
          have := flatten_len es hu
          omega
        have h4 := hrep j _ us[j] h3 (List.getElem?_eq_getElem (by omega))
        have h5 := hrg b off rfl j us[j] (List.getElem?_eq_getElem (by omega))
        generalize us[j] = q at *
        cases h4
        rw [h5, ← h2]
  · cases hc
def strsOf : List (List C) → Option (List (List UInt8))
  | [] => some []
  | [.v (.string b)] :: es => (strsOf es).map (b.data.toList :: ·)
  | _ => none
theorem strsOf_get : ∀ {es : List (List C)} {l : List (List UInt8)}, strsOf es = some l → es.length = l.length ∧ (∀ e ∈ es, e.length = 1) ∧ ∀ j (h : j < l.length), es.flatten[j]? = some (.v (strVU l[j]))
  | [], l, h => by simp only [strsOf, Option.some.injEq] at h; subst h; simp
  | e :: es, l, h => by
    unfold strsOf at h
    split at h
    · rename_i h0; cases h0
    · rename_i b es' h0
      cases h0
      cases hr : strsOf es with
      | none => rw [hr] at h; cases h
      | some r =>
        rw [hr] at h
        cases h
        obtain ⟨h1, h2, h3⟩ := strsOf_get hr
        refine ⟨by simp [h1], by simpa using h2, fun j hj => ?_⟩
        cases j with
        | zero => rfl
        | succ j => simpa using h3 j (by simpa using hj)
    · cases h
def unlikeX (a : List T) (h : Hp) : Option (T × Hp) :=
  match a with
  | [⟨.one, [.c (.fz 1 es)]⟩] =>
    match strsOf es with
    | some l => if l.length ≤ 1000000 ∧ (l.all fun s => decide (s.length ≤ 1000000)) = true then some (⟨.one, [.c (.v (.bool (decide l.Nodup)))]⟩, h) else none
    | none => none
  | [⟨.one, [.c (.v (.slice none 0 0))]⟩] => some (⟨.one, [.c (.v (.bool true))]⟩, h)
  | _ => none
theorem unlike_ok : KOk Tryz.prog fun f a h => if f = 68 then unlikeX a h else none := fun f a h res h' hc => by
  simp only at hc
  split at hc
  case isFalse => cases hc
  rename_i hf
  subst hf
  refine ⟨⟨_, Tryz.func68, by kernel_rfl, by kernel_rfl⟩, fun W who L vs H hl R => ?_⟩
  unfold unlikeX at hc
  split at hc
  · rename_i es
    cases hs : strsOf es with
    | none => rw [hs] at hc; cases hc
    | some l =>
      rw [hs] at hc
      simp only at hc
      split at hc
      case isFalse => cases hc
      rename_i hle
      obtain ⟨hle, hall⟩ := hle
      cases hc
      obtain ⟨v, rfl⟩ : ∃ v, vs = [v] := by
        match vs, hl with
        | [v], _ => exact ⟨v, rfl⟩
      obtain ⟨x, hx, hr⟩ := R 0 _ v rfl rfl
      cases hx
      obtain ⟨s1, s2, s3⟩ := strsOf_get hs
      have hal : ∀ s ∈ l, s.length ≤ 1000000 := fun s hm => by simpa using List.all_eq_true.1 hall s hm
      have fin : ∀ {e : Ending} {W' : World}, e = .returned (.bool (decide l.Nodup)) ∧ Ext W W' → ∃ v who' L', e = .returned v ∧ RepT W' who' L' h ⟨.one, [.c (.v (.bool (decide l.Nodup)))]⟩ v ∧ HSim W' who' L' h ∧ Step .all W who L h W' who' L' h := fun {e W'} ⟨he, hx⟩ => by
        obtain ⟨H', S'⟩ := ext_frozen H hx
        exact ⟨_, _, L, he, ⟨_, rfl, .v _ rfl⟩, H', S'.any⟩
      cases hr with
      | fz _ cap _ ao us hu hcap ha hw hrg hlen hrep =>
        rw [s1]
        cases l with
        | nil => exact (unlike_none ao cap W).mono fun e W' hh => fin (by simpa using hh)
        | cons s l =>
          have hne : es ≠ [] := fun e0 => by subst e0; simp at s1
          obtain ⟨b, off, rfl⟩ := ha hne
          obtain ⟨-, hb⟩ := hw b off hne rfl
          refine (unlike_some b off cap (s :: l) W hb (fun j hj => ?_) hle hal).mono fun e W' hh => fin hh
          have h1 := s3 j hj
          have h2 : j < us.length := by rw [← hlen]; exact (List.getElem?_eq_some_iff.1 h1).1
          have h3 := hrg b off rfl j us[j] (List.getElem?_eq_getElem h2)
          have h4 := hrep j _ _ h1 (List.getElem?_eq_getElem h2)
          generalize us[j] = u at *
          cases h4
          exact h3
  · cases hc
    obtain ⟨v, rfl⟩ : ∃ v, vs = [v] := by
      match vs, hl with
      | [v], _ => exact ⟨v, rfl⟩
    obtain ⟨x, hx, hr⟩ := R 0 _ v rfl rfl
    cases hx
    cases hr
    refine (unlike_none none 0 W).mono fun e W' ⟨he, hx⟩ => ?_
    obtain ⟨H', S'⟩ := ext_frozen H hx
    exact ⟨_, _, L, he, ⟨_, rfl, .v _ rfl⟩, H', S'.any⟩
  · cases hc
def noneX : CallFn := fun _ _ _ => none
theorem none_ok : KOk Tryz.prog noneX := fun f a h res h' hc => by cases hc
def baseX : CallFn := fun f a h => if f = 48 then digX a h else if f = 52 then digX a h else if f = 72 then instrX a h else if f = 58 then typesX a h else if f = 63 then joinX a h else if f = 68 then unlikeX a h else noneX f a h
theorem baseX_ok : KOk Tryz.prog baseX := .more dig_ok (.more rdig_ok (.more instr_ok (.more types_ok (.more join_ok (.more unlike_ok none_ok)))))
end Go.Proofs.YtkdnbnkbnegckaaGreatDoor
