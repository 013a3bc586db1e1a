/- Lists of types, in plain Lean: their letters, their text, the list of a text. -/
import Derived.Laws.Cover4
import Derived.Laws.RangeAny
namespace Go.Proofs.Ytofdkhilapmccaa

def letterI (a : Int) : Int := if a = 1 then 105 else if a = 2 then 99 else 63
def letterB (a : Int) : UInt8 := if a = 1 then 105 else if a = 2 then 99 else 63
/-- The text of a list of types. -/
def textB (l : List Int) : List UInt8 := if l = [] then [45] else l.map letterB
def textS (l : List Int) : ByteArray := ⟨(textB l).toArray⟩

theorem letterI_cases (a : Int) : (letterI a = 105 ∧ letterB a = 105) ∨ (letterI a = 99 ∧ letterB a = 99) ∨ (letterI a = 63 ∧ letterB a = 63) := by
  unfold letterI letterB; repeat' split
  all_goals simp

theorem encode_letter (a : Int) : Utf8.encode (letterI a) = ⟨#[letterB a]⟩ := by
  rcases letterI_cases a with ⟨h1, h2⟩ | ⟨h1, h2⟩ | ⟨h1, h2⟩ <;> rw [h1, h2] <;> decide +kernel

theorem runesBytes_letters (l : List Int) : runesBytes (l.map letterI) = ⟨(l.map letterB).toArray⟩ := by
  have key : ∀ (l : List Int) (s : List UInt8), (l.map letterI).foldl (fun r n => r ++ Utf8.encode n) ⟨s.toArray⟩ = ⟨(s ++ l.map letterB).toArray⟩ := by
    intro l
    induction l with
    | nil => intro s; simp
    | cons a l ih =>
      intro s
      simp only [List.map_cons, List.foldl_cons, encode_letter]
      have e : (⟨s.toArray⟩ : ByteArray) ++ ⟨#[letterB a]⟩ = ⟨(s ++ [letterB a]).toArray⟩ := by
        apply ByteArray.ext
        simp [ByteArray.data_append]
      rw [e, ih]
      simp
  have h := key l []
  rw [List.nil_append] at h
  exact h

def isIC (b : UInt8) : Bool := b == 105 || b == 99
def typeB (b : UInt8) : Int := if b = 105 then 1 else 2
/-- The list whose text s is. -/
def readS (s : List UInt8) : Option (List Int) := if s = [45] then some [] else if s ≠ [] ∧ s.all isIC = true then some (s.map typeB) else none
def readL (s : List UInt8) : List Int := (readS s).getD []
def readE (s : List UInt8) : Int := if (readS s).isSome then 0 else 5

theorem decode_ic (s : ByteArray) (pos : Nat) (h : pos < s.size) : ∃ c d, Utf8.decode s pos = (c, d) ∧ 1 ≤ d ∧ (c = 105 → s[pos] = 105 ∧ d = 1) ∧ (c = 99 → s[pos] = 99 ∧ d = 1) ∧
    (c ≠ 105 → c ≠ 99 → isIC s[pos] = false) := by
  refine ⟨(Utf8.decode s pos).1, (Utf8.decode s pos).2, rfl, ?_⟩
  by_cases ha : (s[pos]'h).toNat < 128
  · rw [decode_ascii s pos h ha]
    refine ⟨Nat.le_refl _, fun e => ⟨UInt8.toNat_inj.1 e, rfl⟩, fun e => ⟨UInt8.toNat_inj.1 e, rfl⟩, fun h1 h2 => ?_⟩
    simp only [isIC, Bool.or_eq_false_iff, beq_eq_false_iff_ne]
    exact ⟨fun e => h1 (by rw [e]; rfl), fun e => h2 (by rw [e]; rfl)⟩
  · obtain ⟨h1, h2⟩ := decode_high s pos h (by omega)
    refine ⟨h2, fun e => by omega, fun e => by omega, fun _ _ => ?_⟩
    simp only [isIC, Bool.or_eq_false_iff, beq_eq_false_iff_ne]
    exact ⟨fun e => by rw [e] at ha; exact ha (by decide), fun e => by rw [e] at ha; exact ha (by decide)⟩

theorem textB_inj_none (xs : List Int) (hx : ∀ x ∈ xs, x = 1 ∨ x = 2) (s : List UInt8) (he : textB xs = s) : readS s = some xs := by
  subst he
  by_cases h : xs = []
  · subst h; rfl
  · have hl : ∀ x ∈ xs, isIC (letterB x) = true ∧ typeB (letterB x) = x := by
      intro x hm
      rcases hx x hm with rfl | rfl <;> decide
    have h45 : textB xs ≠ [45] := by
      intro e
      have : ∀ y ∈ xs.map letterB, isIC y = true := by simpa using fun x hm => (hl x hm).1
      simp only [textB, h, if_false] at e
      rw [e] at this
      exact absurd (this 45 (by simp)) (by decide)
    unfold readS
    rw [if_neg h45, if_pos]
    · congr 1
      simp only [textB, h, if_false, List.map_map]
      conv => rhs; rw [← List.map_id xs]
      exact List.map_congr_left fun x hm => (hl x hm).2
    · refine ⟨by simp [textB, h], ?_⟩
      simp only [textB, h, if_false, List.all_map, List.all_eq_true]
      exact fun x hm => (hl x hm).1

theorem textB_map (s : List UInt8) (h : s ≠ []) (ha : s.all isIC = true) : textB (s.map typeB) = s := by
  have : s.map typeB ≠ [] := by simpa using h
  simp only [textB, this, if_false, List.map_map]
  conv => rhs; rw [← List.map_id s]
  refine List.map_congr_left fun x hm => ?_
  have := (List.all_eq_true.1 ha) x hm
  simp only [isIC, Bool.or_eq_true, beq_iff_eq] at this
  rcases this with rfl | rfl <;> decide

/-- What the loop over a text's runes has gathered decides all. -/
theorem read_of (xs : List Int) (hx : ∀ x ∈ xs, x = 1 ∨ x = 2) (s : List UInt8) (h : s.all isIC = true → xs = s.map typeB) (h' : s.all (fun b => !isIC b) = true → xs = []) :
    (textB xs = s → readL s = xs ∧ readE s = 0) ∧ (textB xs ≠ s → readL s = [] ∧ readE s = 5) := by
  refine ⟨fun e => by simp [readL, readE, textB_inj_none xs hx s e], fun e => ?_⟩
  have : readS s = none := by
    unfold readS
    by_cases h45 : s = [45]
    · exfalso
      subst h45
      exact e (by simp [h' (by decide), textB])
    · rw [if_neg h45, if_neg]
      rintro ⟨h1, h2⟩
      exact e (by rw [h h2]; exact textB_map s h1 h2)
  simp [readL, readE, this]

/-- What is known of what the loop has gathered, pos bytes behind the beginning. -/
def Gath (s : ByteArray) (pos : Nat) (xs : List Int) : Prop :=
  (xs.length ≤ pos ∧ xs.length ≤ s.size) ∧ (∀ x ∈ xs, x = 1 ∨ x = 2) ∧ ((s.data.toList.take pos).all isIC = true → xs = (s.data.toList.take pos).map typeB) ∧ ((s.data.toList.take pos).all (fun b => !isIC b) = true → xs = [])

theorem Gath.start (s : ByteArray) : Gath s 0 [] := ⟨⟨Nat.le_refl _, Nat.zero_le _⟩, by simp, by simp, by simp⟩

theorem take_succ_get (s : ByteArray) (pos : Nat) (h : pos < s.size) : s.data.toList.take (pos + 1) = s.data.toList.take pos ++ [s[pos]] := by
  rw [List.take_succ_eq_append_getElem (by simpa using h)]; rfl

theorem Gath.hit {s : ByteArray} {pos : Nat} {xs : List Int} (h : Gath s pos xs) (hp : pos < s.size) (hc : isIC s[pos] = true) : Gath s (pos + 1) (xs ++ [typeB s[pos]]) := by
  obtain ⟨h1, h2, h3, h4⟩ := h
  refine ⟨by simp only [List.length_append, List.length_singleton]; omega, ?_, fun ha => ?_, fun ha => ?_⟩
  · intro x hx
    rcases List.mem_append.1 hx with hx | hx
    · exact h2 x hx
    · simp only [List.mem_singleton] at hx; subst hx; unfold typeB; split <;> simp
  · rw [take_succ_get s pos hp] at ha ⊢
    simp only [List.all_append, Bool.and_eq_true] at ha
    rw [h3 ha.1, List.map_append]; rfl
  · rw [take_succ_get s pos hp] at ha
    simp [hc] at ha

theorem Gath.miss {s : ByteArray} {pos d : Nat} {xs : List Int} (h : Gath s pos xs) (hp : pos < s.size) (hd : 1 ≤ d) (hc : isIC s[pos] = false) : Gath s (pos + d) xs := by
  obtain ⟨h1, h2, h3, h4⟩ := h
  have hsub : ∀ p : UInt8 → Bool, (s.data.toList.take (pos + d)).all p = true → (s.data.toList.take (pos + 1)).all p = true := by
    intro p ha
    rw [List.all_eq_true] at ha ⊢
    intro x hx
    refine ha x ?_
    have e : s.data.toList.take (pos + 1) = (s.data.toList.take (pos + d)).take (pos + 1) := by rw [List.take_take, Nat.min_eq_left (by omega)]
    rw [e] at hx
    exact List.mem_of_mem_take hx
  refine ⟨⟨by omega, h1.2⟩, h2, fun ha => ?_, fun ha => ?_⟩
  · have := hsub _ ha
    rw [take_succ_get s pos hp] at this
    simp [hc] at this
  · have := hsub _ ha
    rw [take_succ_get s pos hp, List.all_append, Bool.and_eq_true] at this
    exact h4 this.1

theorem Gath.end {s : ByteArray} {pos : Nat} {xs : List Int} (h : Gath s pos xs) (hp : ¬ pos < s.size) :
    (textB xs = s.data.toList → readL s.data.toList = xs ∧ readE s.data.toList = 0) ∧ (textB xs ≠ s.data.toList → readL s.data.toList = [] ∧ readE s.data.toList = 5) := by
  obtain ⟨h1, h2, h3, h4⟩ := h
  rw [List.take_of_length_le (by simpa using hp)] at h3 h4
  exact read_of xs h2 _ h3 h4

end Go.Proofs.Ytofdkhilapmccaa
