/- Lists of types, in plain Lean: their letters, their text, the list of a text. The walks of package sig's small functions, and of its reference's. Whether a type may be. Tables of lines: the walks of lines.Right, lines.At, and of their references. The walks of package uvar's functions that put, and of its reference's. -/
import Derived.Laws.Cover4
import Derived.Laws.RangeAny
import Derived.Test.YtkdnbnkbnegckaaBase
import Derived.Test.YtkdnbnkbnegckaaStrA
namespace Go.Proofs.Ytkdnbnkbnegckaa

def letterI (a : Int) : Int := if a = 1 then 105 else if a = 2 then 99 else 63
def letterB (a : Int) : UInt8 := if a = 1 then 105 else if a = 2 then 99 else 63
/-- The text of a list of types. -/
def textB (l : List Int) : List UInt8 := if l = [] then [45] else l.map letterB
def textS (l : List Int) : ByteArray := ⟨(textB l).toArray⟩

theorem letterI_cases (a : Int) : (letterI a = 105 ∧ letterB a = 105) ∨ (letterI a = 99 ∧ letterB a = 99) ∨ (letterI a = 63 ∧ letterB a = 63) := by
  unfold letterI letterB; repeat' split
  all_goals simp

theorem encode_letter (a : Int) : Utf8.encode (letterI a) = ⟨#[letterB a]⟩ := by
  rcases letterI_cases a with ⟨h1, h2⟩ | ⟨h1, h2⟩ | ⟨h1, h2⟩ <;> rw [h1, h2] <;> decide +kernel

theorem runesBytes_letters (l : List Int) : runesBytes (l.map letterI) = ⟨(l.map letterB).toArray⟩ := by
  have key : ∀ (l : List Int) (s : List UInt8), (l.map letterI).foldl (fun r n => r ++ Utf8.encode n) ⟨s.toArray⟩ = ⟨(s ++ l.map letterB).toArray⟩ := by
    intro l
    induction l with
    | nil => intro s; simp
    | cons a l ih =>
      intro s
      simp only [List.map_cons, List.foldl_cons, encode_letter]
      have e : (⟨s.toArray⟩ : ByteArray) ++ ⟨#[letterB a]⟩ = ⟨(s ++ [letterB a]).toArray⟩ := by
        apply ByteArray.ext
        simp [ByteArray.data_append]
      rw [e, ih]
      simp
  have h := key l []
  rw [List.nil_append] at h
  exact h

def isIC (b : UInt8) : Bool := b == 105 || b == 99
def typeB (b : UInt8) : Int := if b = 105 then 1 else 2
/-- The list whose text s is. -/
def readS (s : List UInt8) : Option (List Int) := if s = [45] then some [] else if s ≠ [] ∧ s.all isIC = true then some (s.map typeB) else none
def readL (s : List UInt8) : List Int := (readS s).getD []
def readE (s : List UInt8) : Int := if (readS s).isSome then 0 else 5

theorem textB_inj_none (xs : List Int) (hx : ∀ x ∈ xs, x = 1 ∨ x = 2) (s : List UInt8) (he : textB xs = s) : readS s = some xs := by
  subst he
  by_cases h : xs = []
  · subst h; rfl
  · have hl : ∀ x ∈ xs, isIC (letterB x) = true ∧ typeB (letterB x) = x := by
      intro x hm
      rcases hx x hm with rfl | rfl <;> decide
    have h45 : textB xs ≠ [45] := by
      intro e
      have : ∀ y ∈ xs.map letterB, isIC y = true := by simpa using fun x hm => (hl x hm).1
      simp only [textB, h, if_false] at e
      rw [e] at this
      exact absurd (this 45 (by simp)) (by decide)
    unfold readS
    rw [if_neg h45, if_pos]
    · congr 1
      simp only [textB, h, if_false, List.map_map]
      conv => rhs; rw [← List.map_id xs]
      exact List.map_congr_left fun x hm => (hl x hm).2
    · refine ⟨by simp [textB, h], ?_⟩
      simp only [textB, h, if_false, List.all_map, List.all_eq_true]
      exact fun x hm => (hl x hm).1

theorem textB_map (s : List UInt8) (h : s ≠ []) (ha : s.all isIC = true) : textB (s.map typeB) = s := by
  have : s.map typeB ≠ [] := by simpa using h
  simp only [textB, this, if_false, List.map_map]
  conv => rhs; rw [← List.map_id s]
  refine List.map_congr_left fun x hm => ?_
  have := (List.all_eq_true.1 ha) x hm
  simp only [isIC, Bool.or_eq_true, beq_iff_eq] at this
  rcases this with rfl | rfl <;> decide

/-- What the loop over a text's runes has gathered decides all. -/
theorem read_of (xs : List Int) (hx : ∀ x ∈ xs, x = 1 ∨ x = 2) (s : List UInt8) (h : s.all isIC = true → xs = s.map typeB) (h' : s.all (fun b => !isIC b) = true → xs = []) :
    (textB xs = s → readL s = xs ∧ readE s = 0) ∧ (textB xs ≠ s → readL s = [] ∧ readE s = 5) := by
  refine ⟨fun e => by simp [readL, readE, textB_inj_none xs hx s e], fun e => ?_⟩
  have : readS s = none := by
    unfold readS
    by_cases h45 : s = [45]
    · exfalso
      subst h45
      exact e (by simp [h' (by decide), textB])
    · rw [if_neg h45, if_neg]
      rintro ⟨h1, h2⟩
      exact e (by rw [h h2]; exact textB_map s h1 h2)
  simp [readL, readE, this]

/-- What is known of what the loop has gathered, pos bytes behind the beginning. -/
def Gath (s : ByteArray) (pos : Nat) (xs : List Int) : Prop :=
  (xs.length ≤ pos ∧ xs.length ≤ s.size) ∧ (∀ x ∈ xs, x = 1 ∨ x = 2) ∧ ((s.data.toList.take pos).all isIC = true → xs = (s.data.toList.take pos).map typeB) ∧ ((s.data.toList.take pos).all (fun b => !isIC b) = true → xs = [])

theorem Gath.end {s : ByteArray} {pos : Nat} {xs : List Int} (h : Gath s pos xs) (hp : ¬ pos < s.size) :
    (textB xs = s.data.toList → readL s.data.toList = xs ∧ readE s.data.toList = 0) ∧ (textB xs ≠ s.data.toList → readL s.data.toList = [] ∧ readE s.data.toList = 5) := by
  obtain ⟨h1, h2, h3, h4⟩ := h
  rw [List.take_of_length_le (by simpa using hp)] at h3 h4
  exact read_of xs h2 _ h3 h4

end Go.Proofs.Ytkdnbnkbnegckaa
namespace Go.Proofs.Ytkdnbnkbnegckaa
open Go.RowKit

theorem sig_letter (a : Int) (w : World) :
    Calls Try.prog 24 #[.int .i64 a] w fun e w' => e = .returned (.int .i32 (letterI a)) ∧ w = w' := by
  go_enter Try.func24, Try.ntmps24
  go_wp2
  all_goals go_ret
  all_goals (refine ⟨?_, rfl⟩; simp_all [letterI])

set_option maxHeartbeats 400000 in
theorem sig_Text (ao : Option Addr) (cap : Nat) (l : List Int) (w : World) (hc : Cells w ao (l.map (.int .i64))) (hl : l.length ≤ 17592186044416) :
    Calls Try.prog 14 #[.slice ao l.length cap] w fun e w' => e = .returned (.string (textS l)) ∧ Ext w w' := by
  by_cases h0 : l = []
  · subst h0
    go_enter Try.func14, Try.ntmps14
    go_wp2
    go_ret
    exact ⟨rfl, Ext.rf _⟩
  · have hpos : 0 < l.length := by cases l with | nil => exact absurd rfl h0 | cons => simp
    have hz : ((l.length : Int) == 0) = false := by simp; omega
    go_enter Try.func14, Try.ntmps14
    go_wp2
    go_loopw [3, 11] (fun v i wr => ∃ k : Nat, k ≤ l.length ∧ i = .int .i64 k ∧ wr.ownsRow w.heap.size 21 1 v k ((l.map fun x => .int .i32 (letterI x)).take k) ∧ Ext w wr)
      (fun _ i _ => l.length - (intOf i).toNat)
    case atStart => exact ⟨0, Nat.zero_le _, rfl, World.ownsRow_nil _ _ _ _, Ext.rf _⟩
    case round =>
      obtain ⟨k, hk, rfl, hown, hext⟩ := hrel
      by_cases hlt : k < l.length
      · obtain ⟨b, off, rfl, hcell⟩ := (hc.ext hext).at (k := k) (by simpa using hlt)
        simp only [List.getElem_map] at hcell
        go_wp2_with (first
          | (go_at_call 24; refine (sig_letter _ _).mono ?_; rintro e w1 ⟨rfl, rfl⟩)
          | (at_builtin; refine wpList_push rfl (.tmp 15) (.tmp 18) 58 rfl w.heap.size 21 21 (.int .i32 0) 1 4 Try.underlying58 (by kernel_rfl) rfl (by decide) _ k _ [.int .i32 (letterI l[k])] rfl hown _ rfl (by simp) rfl (by simp [Value.oneCell']) (by unfold maxLen; omega) (by omega) hext.size ?_))
        intro v' w1 hown1 hg
        have hext1 := hext.push hown (Nat.le_refl _) hg
        clear hg hcell hext hown
        go_wp2
        go_roundw
        case rel => exact ⟨k + 1, by omega, by go_num, by rw [List.take_add_one]; simpa [hlt] using hown1, hext1⟩
        case measure => simp [intOf]; omega
      · obtain rfl : k = l.length := by omega
        rw [List.take_of_length_le (by simp)] at hown
        obtain ⟨ao', cap', rfl, -, -, hc'⟩ := Cells.own hown
        have hconv := run_runes_string (P := Try.prog) (src := 58) (dst := 9) (e := 21) (cap := cap') (zs := l.map letterI) l.length (by simp) Try.underlying58 Try.underlying21 Try.underlying9 (by simpa [Function.comp_def] using hc')
        rw [runesBytes_letters] at hconv
        clear hown hc' hlt
        go_wp2
        go_ret
        exact ⟨by simp [textS, textB, h0], hext⟩
end Go.Proofs.Ytkdnbnkbnegckaa
namespace Go.Proofs.Ytkdnbnkbnegckaa
open Go.RowKit
end Go.Proofs.Ytkdnbnkbnegckaa
namespace Go.Proofs.Ytkdnbnkbnegckaa
open Go.RowKit

end Go.Proofs.Ytkdnbnkbnegckaa
namespace Go.Proofs.Ytkdnbnkbnegckaa
open Go.RowKit

/-- 'string(b)', b a slice of bytes. -/
theorem run_bytes_string {P : Program} {w : World} {src dst e : TypeId} {ao : Option Addr} {cap : Nat} {bs : List UInt8} (n : Nat) (hn : n = bs.length)
    (hs : P.underlying src = some (.slice e)) (he : P.underlying e = some (.int .u8)) (hd : P.underlying dst = some .string)
    (hc : Cells w ao (bs.map byteC)) : (convert src dst (.slice ao n cap)).run P w = .ok (.string ⟨bs.toArray⟩) w := by
  subst hn
  cases ao with
  | none =>
    have := hc.none_nil
    obtain rfl : bs = [] := by simpa using this
    rw [run_convert_bytes_string w src dst e none _ cap hs he hd]
    rfl
  | some ad =>
    refine run_convert_bytes_back w src dst e ad cap bs hs he hd (fun j hj => ?_)
    rw [hc.addAt (by simpa using hj)]
    simp [byteC]

end Go.Proofs.Ytkdnbnkbnegckaa
