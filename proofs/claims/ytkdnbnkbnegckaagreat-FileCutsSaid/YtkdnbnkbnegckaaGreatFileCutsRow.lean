/- What is read off bytes is read off longer bytes as well. The law FileCuts: what it comes to. FileCuts: every input, by the walk of the law. -/
import Derived.Test.YtkdnbnkbnegckaaGreatLq
import Derived.Test.YtkdnbnkbnegckaaGreatSmF
import Derived.ProofKit
import Derived.OpenShut
import Derived.ShutString
import Derived.SizedLaws
import Derived.Deep.Slices
namespace Go.Proofs.YtkdnbnkbnegckaaGreat
open Go.RowKit
theorem getG_app (r : List UInt8) : ∀ (l : List UInt8) (i n : Nat), (getG i n l).2.2 = 0 → getG i n (l ++ r) = getG i n l ∧ (getG i n l).2.1 ≤ i + l.length
  | [], i, n, h => by simp [getG] at h
  | c :: cs, i, n, h => by
    rw [List.cons_append]
    unfold getG at h ⊢
    split
    · rename_i h1; rw [if_pos h1] at h; simp at h
    · rename_i h1
      rw [if_neg h1] at h
      split
      · rename_i h2
        rw [if_pos h2] at h
        obtain ⟨h3, h4⟩ := getG_app r cs (i + 1) (n + (c.toNat - 128) * 2 ^ (7 * i)) h
        exact ⟨h3, by rw [List.length_cons]; omega⟩
      · rename_i h2
        rw [if_neg h2] at h
        split
        · rename_i h3; rw [if_pos h3] at h; simp at h
        · exact ⟨rfl, by simp⟩
theorem bitsP_st {l l' : List UInt8} {x : Int} (h : bitsP l = .ok (x, l')) (r : List UInt8) : bitsP (l ++ r) = .ok (x, l' ++ r) := by
  unfold bitsP at h ⊢
  split at h
  · rename_i h0
    obtain ⟨h1, h2⟩ := getG_app r l 0 0 h0
    have h1 : getB (l ++ r) = getB l := h1
    have h2 : (getB l).2.1 ≤ l.length := Nat.zero_add l.length ▸ h2
    cases h
    rw [h1, if_pos h0, List.drop_append_of_le_length h2]
  · cases h
theorem intP_st {l l' : List UInt8} {x : Int} (h : intP l = .ok (x, l')) (r : List UInt8) : intP (l ++ r) = .ok (x, l' ++ r) := by
  unfold intP at h ⊢
  split at h
  · rename_i u l1 hb
    cases h
    rw [bitsP_st hb r]
  · cases h
theorem numP_st {m : Int} {l l' : List UInt8} {x : Int} (h : numP m l = .ok (x, l')) (r : List UInt8) : numP m (l ++ r) = .ok (x, l' ++ r) := by
  unfold numP at h ⊢
  split at h
  · rename_i u l1 hb
    split at h
    · cases h
    · rename_i hm
      cases h
      rw [bitsP_st hb r]
      exact if_neg hm
  · cases h
theorem byteP_st {l l' : List UInt8} {x : UInt8} (h : byteP l = .ok (x, l')) (r : List UInt8) : byteP (l ++ r) = .ok (x, l' ++ r) := by
  cases l with
  | nil => cases h
  | cons y l => cases h; rfl
theorem textP_st {m : Int} {l l' : List UInt8} {x : List UInt8} (h : textP m l = .ok (x, l')) (r : List UInt8) : textP m (l ++ r) = .ok (x, l' ++ r) := by
  unfold textP at h ⊢
  split at h
  · rename_i u l1 hb
    split at h
    · cases h
    · rename_i hm
      have := numP_ok hb
      cases h
      rw [numP_st hb r]
      dsimp only
      rw [if_neg (by rw [List.length_append]; omega), List.take_append_of_le_length (by omega), List.drop_append_of_le_length (by omega)]
  · cases h
theorem tyP_st : ∀ {n : Nat} {l l' : List UInt8} {x : List Int}, tyP n l = .ok (x, l') → ∀ r, tyP n (l ++ r) = .ok (x, l' ++ r)
  | 0, l, l', x, h, r => by cases h; rfl
  | n + 1, [], l', x, h, r => by simp [tyP] at h
  | n + 1, y :: l, l', x, h, r => by
    rw [List.cons_append]
    rw [tyP] at h ⊢
    split at h
    · rename_i hx
      rw [if_pos hx]
      split at h
      · rename_i r2 l2 h2
        cases h
        rw [tyP_st h2 r]
      · cases h
    · cases h
theorem sigP_st {m : Int} {l l' : List UInt8} {x : List Int} (h : sigP m l = .ok (x, l')) (r : List UInt8) : sigP m (l ++ r) = .ok (x, l' ++ r) := by
  unfold sigP at h ⊢
  split at h
  · rename_i u l1 hb
    rw [numP_st hb r]
    exact tyP_st h r
  · cases h
theorem nodeP_st {l l' : List UInt8} {x : Nd} (h : nodeP l = .ok (x, l')) (r : List UInt8) : nodeP (l ++ r) = .ok (x, l' ++ r) := by
  unfold nodeP at h ⊢
  split at h
  · cases h
  rename_i h1
  rw [intP_st h1 r]; dsimp only
  split at h
  · cases h
  rename_i h2
  rw [intP_st h2 r]; dsimp only
  split at h
  · cases h
  rename_i h3
  rw [intP_st h3 r]; dsimp only
  split at h
  · cases h
  rename_i h4
  rw [intP_st h4 r]; dsimp only
  split at h
  · cases h
  rename_i h5
  rw [intP_st h5 r]; dsimp only
  split at h
  · cases h
  rename_i h6
  rw [intP_st h6 r]; dsimp only
  split at h
  · cases h
  rename_i h7
  rw [intP_st h7 r]
  cases h
  rfl
theorem nodesP_st : ∀ {n : Nat} {l l' : List UInt8} {x : List Nd}, nodesP n l = .ok (x, l') → ∀ r, nodesP n (l ++ r) = .ok (x, l' ++ r)
  | 0, l, l', x, h, r => by cases h; rfl
  | n + 1, l, l', x, h, r => by
    rw [nodesP] at h ⊢
    split at h
    · cases h
    rename_i h1
    rw [nodeP_st h1 r]; dsimp only
    split at h
    · rename_i h2
      cases h
      rw [nodesP_st h2 r]
    · cases h
theorem treeP_st {l l' : List UInt8} {x : List Nd} (h : treeP l = .ok (x, l')) (r : List UInt8) : treeP (l ++ r) = .ok (x, l' ++ r) := by
  unfold treeP at h ⊢
  split at h
  · cases h
  rename_i h1
  rw [numP_st h1 r]; dsimp only
  split at h
  · cases h
  rename_i h2
  rw [nodesP_st h2 r]; dsimp only
  split at h
  · rename_i h3
    cases h
    exact if_pos h3
  · cases h
theorem instrP_st {l l' : List UInt8} {x : Int × Int} (h : instrP l = .ok (x, l')) (r : List UInt8) : instrP (l ++ r) = .ok (x, l' ++ r) := by
  unfold instrP at h ⊢
  split at h
  · cases h
  rename_i h1
  rw [byteP_st h1 r]; dsimp only
  split at h
  · cases h
  rename_i h2
  rw [if_neg h2]
  split at h
  · rename_i h3
    cases h
    exact if_pos h3
  rename_i h3
  rw [if_neg h3]
  split at h
  · cases h
  rename_i h4
  rw [intP_st h4 r]; dsimp only
  split at h
  · rename_i h5
    cases h
    exact if_pos h5
  · cases h
theorem instrsP_st : ∀ {n : Nat} {l l' : List UInt8} {x : List (Int × Int)}, instrsP n l = .ok (x, l') → ∀ r, instrsP n (l ++ r) = .ok (x, l' ++ r)
  | 0, l, l', x, h, r => by cases h; rfl
  | n + 1, l, l', x, h, r => by
    rw [instrsP] at h ⊢
    split at h
    · cases h
    rename_i h1
    rw [instrP_st h1 r]; dsimp only
    split at h
    · rename_i h2
      cases h
      rw [instrsP_st h2 r]
    · cases h
theorem runP_st {left : Int} {l l' : List UInt8} {x : Int × Int} (h : runP left l = .ok (x, l')) (r : List UInt8) : runP left (l ++ r) = .ok (x, l' ++ r) := by
  unfold runP at h ⊢
  split at h
  · cases h
  rename_i h1
  rw [bitsP_st h1 r]; dsimp only
  split at h
  · cases h
  rename_i h2
  rw [if_neg h2]
  split at h
  · cases h
  rename_i h3
  rw [intP_st h3 r]
  cases h
  rfl
theorem runsG_st {lo hi : Int} : ∀ {f n : Nat} {last : Option Int} {l l' : List UInt8} {x : List Int}, runsG lo hi f n last l = .ok (x, l') → ∀ r, runsG lo hi f n last (l ++ r) = .ok (x, l' ++ r)
  | f, 0, last, l, l', x, h, r => by simp only [runsG] at h ⊢; cases h; rfl
  | 0, n + 1, last, l, l', x, h, r => by simp [runsG] at h
  | f + 1, n + 1, last, l, l', x, h, r => by
    rw [runsG] at h ⊢
    split at h
    · cases h
    rename_i h1
    rw [runP_st h1 r]; dsimp only
    split at h
    · cases h
    rename_i h2
    rw [if_neg h2]
    split at h
    · cases h
    rename_i h3
    rw [if_neg h3]
    split at h
    · rename_i h4
      cases h
      rw [runsG_st h4 r]
    · cases h
theorem setP_st {l l' : List UInt8} {x : St} (h : setP l = .ok (x, l')) (r : List UInt8) : setP (l ++ r) = .ok (x, l' ++ r) := by
  unfold setP at h ⊢
  split at h
  · cases h
  rename_i h1
  rw [bitsP_st h1 r]; dsimp only
  split at h
  · cases h
  rename_i h2
  rw [bitsP_st h2 r]; dsimp only
  split at h
  · cases h
  rename_i h3
  rw [bitsP_st h3 r]; dsimp only
  split at h
  · cases h
  rename_i h4
  rw [bitsP_st h4 r]
  cases h
  rfl
theorem groupP_st {left : Int} {k : Nat} {last : Option St} {l l' : List UInt8} {x : Int × St} (h : groupP left k last l = .ok (x, l')) (r : List UInt8) : groupP left k last (l ++ r) = .ok (x, l' ++ r) := by
  unfold groupP at h ⊢
  split at h
  · cases h
  rename_i h1
  rw [bitsP_st h1 r]; dsimp only
  split at h
  · cases h
  rename_i h2
  rw [if_neg h2]
  split at h
  · cases h
  rename_i h3
  rw [setP_st h3 r]; dsimp only
  split at h
  · cases h
  rename_i h4
  rw [if_neg h4]
  split at h
  · rename_i h5
    cases h
    exact if_pos h5
  · cases h
theorem mapsG_st {k : Nat} : ∀ {f n : Nat} {last : Option St} {l l' : List UInt8} {x : List St}, mapsG k f n last l = .ok (x, l') → ∀ r, mapsG k f n last (l ++ r) = .ok (x, l' ++ r)
  | f, 0, last, l, l', x, h, r => by simp only [mapsG] at h ⊢; cases h; rfl
  | 0, n + 1, last, l, l', x, h, r => by simp [mapsG] at h
  | f + 1, n + 1, last, l, l', x, h, r => by
    rw [mapsG] at h ⊢
    split at h
    · cases h
    rename_i h1
    rw [groupP_st h1 r]; dsimp only
    split at h
    · rename_i h4
      cases h
      rw [mapsG_st h4 r]
    · cases h
theorem headP_st {l l' : List UInt8} {x : Hd} (h : headP l = .ok (x, l')) (r : List UInt8) : headP (l ++ r) = .ok (x, l' ++ r) := by
  unfold headP at h ⊢
  split at h
  · cases h
  rename_i h1
  rw [textP_st h1 r]; dsimp only
  split at h
  · cases h
  rename_i h2
  rw [if_neg h2]
  split at h
  · cases h
  rename_i h3
  rw [byteP_st h3 r]; dsimp only
  split at h
  · cases h
  rename_i h4
  rw [if_neg h4]
  split at h
  · cases h
  rename_i fl l2 _ outer l3 h5
  have h5' : (if u8I fl % 2 = 1 then sigP 4 (l2 ++ r) else .ok ([], l2 ++ r)) = .ok (outer, l3 ++ r) := by
    split at h5
    · rename_i h6; rw [if_pos h6]; exact sigP_st h5 r
    · rename_i h6; rw [if_neg h6]; cases h5; rfl
  rw [h5']; dsimp only
  split at h
  · cases h
  rename_i h6
  rw [sigP_st h6 r]; dsimp only
  split at h
  · cases h
  rename_i h7
  rw [sigP_st h7 r]; dsimp only
  split at h
  · cases h
  rename_i h8
  rw [sigP_st h8 r]; dsimp only
  split at h
  · cases h
  rename_i h9
  rw [if_neg h9]
  cases h
  rfl
theorem codeP_st {l l' : List UInt8} {x : Int × (List (Int × Int) × List Int)} (h : codeP l = .ok (x, l')) (r : List UInt8) : codeP (l ++ r) = .ok (x, l' ++ r) := by
  unfold codeP at h ⊢
  split at h
  · cases h
  rename_i h1
  rw [numP_st h1 r]; dsimp only
  split at h
  · cases h
  rename_i h2
  rw [if_neg h2]
  split at h
  · cases h
  rename_i h3
  rw [instrsP_st h3 r]; dsimp only
  split at h
  · cases h
  rename_i h4
  have h4' := runsG_st h4 r
  unfold runsP
  rw [h4']
  cases h
  rfl
theorem tablesP_st {fl : UInt8} {n : Int} {k : Nat} {l l' : List UInt8} {x : List Nd × (List Int × List St)} (h : tablesP fl n k l = .ok (x, l')) (r : List UInt8) : tablesP fl n k (l ++ r) = .ok (x, l' ++ r) := by
  unfold tablesP at h ⊢
  split at h
  · rename_i h0
    rw [if_pos h0]
    cases h
    rfl
  rename_i h0
  rw [if_neg h0]
  split at h
  · cases h
  rename_i h1
  rw [treeP_st h1 r]; dsimp only
  split at h
  · cases h
  rename_i h2
  have h2' := runsG_st h2 r
  unfold runsP
  rw [h2']; dsimp only
  split at h
  · cases h
  rename_i h3
  have h3' := mapsG_st h3 r
  unfold mapsP
  rw [h3']
  cases h
  rfl
theorem fncP_st {l l' : List UInt8} {x : Fn} (h : fncP l = .ok (x, l')) (r : List UInt8) : fncP (l ++ r) = .ok (x, l' ++ r) := by
  unfold fncP at h ⊢
  split at h
  · cases h
  rename_i h1
  rw [headP_st h1 r]; dsimp only
  split at h
  · cases h
  rename_i h2
  rw [codeP_st h2 r]; dsimp only
  split at h
  · cases h
  rename_i h3
  rw [tablesP_st h3 r]
  cases h
  rfl
theorem fncsP_st : ∀ {n : Nat} {l l' : List UInt8} {x : List Fn}, fncsP n l = .ok (x, l') → ∀ r, fncsP n (l ++ r) = .ok (x, l' ++ r)
  | 0, l, l', x, h, r => by cases h; rfl
  | n + 1, l, l', x, h, r => by
    rw [fncsP] at h ⊢
    split at h
    · cases h
    rename_i h1
    rw [fncP_st h1 r]; dsimp only
    split at h
    · rename_i h2
      cases h
      rw [fncsP_st h2 r]
    · cases h
/-- What is a program's bytes is no beginning of others'. -/
theorem decodeP_more {b r : List UInt8} {fs : List Fn} (h : decodeP b = .ok fs) (hr : r ≠ []) : decodeP (b ++ r) = .error 4 := by
  unfold decodeP at h ⊢
  split at h
  · rename_i h0
    have h4 : (b ++ r).drop 4 = b.drop 4 ++ r := List.drop_append_of_le_length h0.1
    rw [if_pos ⟨by rw [List.length_append]; omega, by rw [List.take_append_of_le_length h0.1]; exact h0.2⟩, h4]
    split at h
    · cases h
    rename_i h1
    rw [numP_st h1 r]; dsimp only
    split at h
    · cases h
    rename_i h2
    rw [if_neg h2]
    split at h
    · cases h
    rename_i h3
    rw [fncsP_st h3 r]; dsimp only
    split at h
    · rename_i h5
      rw [if_pos h5]
      split at h
      · rename_i h6
        rw [h6, List.nil_append, if_neg hr]
      · cases h
    · cases h
  · cases h
end Go.Proofs.YtkdnbnkbnegckaaGreat
namespace Go.Proofs.YtkdnbnkbnegckaaGreat
open Go.RowKit
set_option maxRecDepth 20000
theorem fncsP_err : ∀ {n : Nat} {l : List UInt8} {e : Int}, Len l → fncsP n l = .error e → e ≠ 0
  | 0, l, e, _, h => by cases h
  | n + 1, l, e, hl, h => by
    rw [fncsP] at h
    split at h
    · rename_i e1 h1
      have hT := im_Take hl
      rw [h1] at hT
      cases h
      exact hT.1
    · rename_i p l1 h1
      obtain ⟨q1, q2, q3, q4, q5, q6, q7, q8, q9, q10, q11⟩ := p
      split at h
      · cases h
      · rename_i e2 h2
        cases h
        exact fncsP_err (Nat.le_trans (fncP_ok h1).1 hl) h2
theorem decodeP_err {b : List UInt8} {e : Int} (hl : b.length ≤ 140737488351232) (h : decodeP b = .error e) : e ≠ 0 := by
  unfold decodeP at h
  split at h
  · have kb : Len (b.drop 4) := by unfold Len; rw [List.length_drop]; omega
    split at h
    · rename_i e1 h1
      have hN := im_Num (l := b.drop 4) (m := 40) kb (by omega) (by omega)
      rw [h1] at hN
      cases h
      exact hN.1
    · rename_i n l1 h1
      split at h
      · cases h; decide
      · split at h
        · rename_i e2 h2
          cases h
          exact fncsP_err (Nat.le_trans (numP_ok h1).2.2 kb) h2
        · split at h
          · split at h
            · cases h
            · cases h; decide
          · cases h; decide
  · cases h; decide
theorem law_FileCuts {p : List Fn} {n : Int} {x : UInt8} (hp : OkD PrD p) : S_law16_FileCuts p n x = some (true, ()) := by
  refine u_law16_FileCuts (N := 60) ?_
  have hS := sp_Small16 fun f hf => (okP_fn hp f hf).2.1
  cases h1 : smallsB p with
  | false => rw [h1] at hS; simp [M_law16_FileCuts, hS, S_law16_lives]
  | true =>
    rw [h1] at hS
    obtain ⟨g1, g2⟩ := small_fn hp h1
    have hC := sp_rfileCan g2 (by omega)
    by_cases hz : canP p = 0
    case neg => simp [M_law16_FileCuts, hS, hC, hz, S_law16_lives]
    have hd : ∀ f ∈ p, DatV f := fun f hf => (okP_fn hp f hf).2.2
    have hE := sp_Encode g2 hd (by omega)
    have hD := decode_encode hz hd
    have hL := encodeR_le hz
    rw [show (encodeR p).2 = 0 by rw [encodeR, if_pos hz]] at hE
    generalize (encodeR p).1 = B at *
    by_cases hn : n < 0
    · simp [M_law16_FileCuts, hS, hC, hz, hE, hn, S_law16_lives]
    obtain ⟨k, rfl⟩ := Int.eq_ofNat_of_zero_le (show 0 ≤ n by omega)
    by_cases hk : B.length ≤ k
    · simp [M_law16_FileCuts, hS, hC, hz, hE, hk, S_law16_lives]
    have hk2 : k ≤ B.length := by omega
    have hr1 := room_b (a := 0) (b := B.length) (by omega)
    have hr2 := room_b (a := B.length) (b := 1) (by omega)
    have hd1 := sp_Decode (b := B.take k) (by rw [List.length_take]; omega)
    have hd2 := sp_Decode (b := B ++ [x]) (by rw [List.length_append]; simp; omega)
    have h2 : decodeR (B ++ [x]) = ([], 4) := by rw [decodeR, decodeP_more hD (by simp)]
    rw [h2] at hd2
    have hk3 : List.take (B.length + 1) (B ++ [x]) = B ++ [x] := List.take_of_length_le (by simp)
    cases h3 : decodeP (B.take k) with
    | ok gs =>
      have := decodeP_more h3 (r := B.drop k) (fun h0 => by have := congrArg List.length h0; rw [List.length_drop] at this; simp at this; omega)
      rw [List.take_append_drop, hD] at this
      cases this
    | error e =>
      have he := decodeP_err (by rw [List.length_take]; omega) h3
      have h4 : decodeR (B.take k) = ([], e) := by rw [decodeR, h3]
      rw [h4] at hd1
      simp [M_law16_FileCuts, hS, hC, hz, hE, hk, hk2, hr1, hr2, hd1, hd2, hk3, he, S_law16_lives]
theorem FileCuts_walk (x0 : Data PrD) (cs0 : List Value) (x1 : Int) (x2 : Int) (w : World) (hx0 : DatR PrD w cs0 x0) (hx1 : (Lit.int .i64 x1).wf = true) (hx2 : (Lit.int .u8 x2).wf = true) :
    Calls Tryz.prog 7 #[.agg cs0.toArray, .int .i64 x1, .int .u8 x2] w fun e w' => e = .returned (.bool true) ∧ Ext w w' := by
  have hb := wf_u8' hx2
  have hbx : (u8I (UInt8.ofNat x2.toNat)) = x2 := by simp only [u8I, UInt8.toNat_ofNat']; omega
  rw [← hbx]
  refine law_walkY (args0 := [argA PrD x0, ⟨.one, [.c (.v (.int .i64 x1))]⟩, ⟨.one, [.c (.v (.int .u8 (u8I (UInt8.ofNat x2.toNat))))]⟩]) (law_FileCuts (n := x1) (x := UInt8.ofNat x2.toNat) hx0.2) (by kernel_rfl) rfl rfl fun i t v h1 h2 => ?_
  match i with
  | 0 =>
    cases h1
    cases h2
    exact rep_argA hx0
  | 1 =>
    cases h1
    cases h2
    exact repT_c (.v _ rfl)
  | 2 =>
    cases h1
    cases h2
    exact repT_c (.v _ rfl)
  | i + 3 => simp at h1
end Go.Proofs.YtkdnbnkbnegckaaGreat
namespace Go.Proofs.YtkdnbnkbnegckaaGreat.fileCuts
open Go.ChangeShapes Go.WideShapes Go.ChangeAt Go.RowKit
open Go.ChangeMaps (open_string shut_string)
set_option linter.unusedVariables false

theorem own : ownKnob Tryz.prog.godebug = none := by kernel_rfl
theorem laidOut : laidOutB Tryz.prog = true := by kernel_rfl

set_option maxRecDepth 100000 in
theorem lifted (os : Os) (started : os.Started) (H : Type) (enc : TypeId × Value → H) :
    ReturnsInHanded {} Tryz.checked os 7 .any (Rows.fileCutsSpec.pre6 enc Tryz.prog Tryz.f7 Rows.fileCutsRow.domain false) (Rows.fileCutsSpec.post enc Tryz.prog Tryz.f7 false true false false) := by
  refine returnsInHanded_of_change_sized (C := Tryz.checked) own started (by kernel_rfl) Tryz.func7
    (ChangeSpec.witness6 (enc := enc) (C := Tryz.checked) false ⟨#[], #[.agg #[.slice none 0 0], .int .i64 0, .int .u8 0], []⟩ 8 (by kernel_rfl) (by kernel_rfl) (by kernel_rfl) (by kernel_rfl)) ?_
  intro W base args ds gs before hval0 hW hcnd hsz0 hholds
  have hval : ∀ (j : Nat) t v, Tryz.f7.params[j]? = some t → args[j]? = some v → Value.okWide Tryz.prog W .any base t v := hval0
  have hsz : (DataW.weightsEach Tryz.prog (Tryz.f7.params.toList ++ Rows.fileCutsSpec.plain.varTypes Tryz.prog) (ds ++ gs)).all (· ≤ reachBytes) = true := hsz0
  have hW' := hW
  obtain ⟨p, q, hA0, hV, rfl, hfz, hnd⟩ := hW
  have hA : DataW.TrodAll enc Tryz.prog W 0 (fun _ => true) true Tryz.f7.params.toList args.toList ds p := hA0
  rw [Tryz.params7] at hA hval hsz
  obtain ⟨v0, vs0, d0, ds0, p0, q0, hargs, rfl, rfl, h0, r0⟩ := trodAll_cons hA
  obtain ⟨v1, vs1, d1, ds1, p1, q1, rfl, rfl, rfl, h1, r1⟩ := trodAll_cons r0
  obtain ⟨v2, vs2, d2, ds2, p2, q2, rfl, rfl, rfl, h2, r2⟩ := trodAll_cons r1
  obtain ⟨rfl, rfl, rfl⟩ := trodAll_nil r2
  obtain rfl : args = #[v0, v1, v2] := by cases args; simp_all
  obtain ⟨rfl, rfl⟩ := trodVars_none hV
  have k0 := h0
  have lt0 : ∀ x ∈ p0, x.block < W.heap.size := by obtain ⟨m, hm⟩ := k0; exact DataW.trod_lt m _ _ _ hm
  obtain ⟨cs0, rfl, _⟩ := okWide_struct Tryz.underlying51 (hval 0 51 v0 rfl rfl)
  obtain ⟨z0, w0⟩ := open_d opensD_prog hsz (j := 0) rfl rfl h0
  have k1 := h1
  have lt1 : ∀ x ∈ p1, x.block < W.heap.size := by obtain ⟨m, hm⟩ := k1; exact DataW.trod_lt m _ _ _ hm
  obtain ⟨a1, rfl, rfl, rfl, w1⟩ := open_int Tryz.underlying3 (hval 1 3 v1 rfl rfl) h1
  have k2 := h2
  have lt2 : ∀ x ∈ p2, x.block < W.heap.size := by obtain ⟨m, hm⟩ := k2; exact DataW.trod_lt m _ _ _ hm
  obtain ⟨a2, rfl, rfl, rfl, w2⟩ := open_int Tryz.underlying5 (hval 2 5 v2 rfl rfl) h2
  clear hA0 hval0
  refine (FileCuts_walk (w := W) (x0 := z0) (cs0 := cs0.toList) (hx0 := w0) (x1 := a1) (hx1 := w1) (x2 := a2) (hx2 := w2)).mono fun e W' ⟨he, bel⟩ => ?_
  subst he
  exact ⟨_, rfl, _, _, _, [], _, [], hW', trodAll_mk1 (shut_bool Tryz.underlying4 _), (trodAll_cons_mk (Below.trod laidOut (by kernel_rfl) (of_decide_eq_true (by kernel_rfl)) k0 bel.b lt0) (trodAll_cons_mk (Below.trod laidOut (by kernel_rfl) (of_decide_eq_true (by kernel_rfl)) k1 bel.b lt1) (trodAll_cons_mk (Below.trod laidOut (by kernel_rfl) (of_decide_eq_true (by kernel_rfl)) k2 bel.b lt2) trodAll_mk0))), rfl, bel.b.frame _, fun h => by cases h⟩

theorem FileCuts_holds : Rows.FileCutsSaid :=
  OpenClaim.holds_of_wide 7 Tryz.f7 rfl rfl rfl rfl rfl rfl rfl ⟨rfl, rfl, rfl, rfl, rfl⟩ rfl rfl rfl rfl rfl (by kernel_rfl) Tryz.func7 (by kernel_rfl)
    (of_decide_eq_true (by kernel_rfl)) (by unfold Func.isWrapper; first | (rw [if_pos (by decide +kernel)]; kernel_rfl) | (rw [if_neg (by decide +kernel)]; exact ⟨rfl, rfl⟩))
    (fun os started H enc _ => lifted os started H enc)
end Go.Proofs.YtkdnbnkbnegckaaGreat.fileCuts

namespace Go.Proofs.YtkdnbnkbnegckaaGreat
theorem FileCuts_proved : Rows.FileCutsSaid := fileCuts.FileCuts_holds
#print axioms FileCuts_proved
end Go.Proofs.YtkdnbnkbnegckaaGreat
