/- The walks of package uvar's functions that put, and of its reference's. -/
import Derived.Test.YtfeddkfpkdjbeaaBase
import Derived.Test.YtfeddkfpkdjbeaaUvarP
namespace Go.Proofs.Ytfeddkfpkdjbeaa
open Go.RowKit

theorem ret_int {k : IntKind} {a b : Int} (h : a = b) : Ending.returned (.int k a) = .returned (.int k b) := by rw [h]

/-- 'string(b)', b a slice of bytes. -/
theorem run_bytes_string {P : Program} {w : World} {src dst e : TypeId} {ao : Option Addr} {cap : Nat} {bs : List UInt8} (n : Nat) (hn : n = bs.length)
    (hs : P.underlying src = some (.slice e)) (he : P.underlying e = some (.int .u8)) (hd : P.underlying dst = some .string)
    (hc : Cells w ao (bs.map byteC)) : (convert src dst (.slice ao n cap)).run P w = .ok (.string ⟨bs.toArray⟩) w := by
  subst hn
  cases ao with
  | none =>
    have := hc.none_nil
    obtain rfl : bs = [] := by simpa using this
    rw [run_convert_bytes_string w src dst e none _ cap hs he hd]
    rfl
  | some ad =>
    refine run_convert_bytes_back w src dst e ad cap bs hs he hd (fun j hj => ?_)
    rw [hc.addAt (by simpa using hj)]
    simp [byteC]

set_option maxRecDepth 20000 in
theorem uvar_Fold (n : Int) (w : World) (h1 : -9223372036854775808 ≤ n) (h2 : n ≤ 9223372036854775807) :
    Calls Try.prog 83 #[.int .i64 n] w fun e w' => e = .returned (.int .u64 (foldN n : Nat)) ∧ w = w' := by
  have HF := Lib.hid (fold_bits h1 h2)
  go_enter Try.func83, Try.ntmps83
  go_wp2
  go_ret
  exact ⟨ret_int HF.out, rfl⟩

set_option maxRecDepth 20000 in
theorem uvarref_Fold (n : Int) (w : World) (h1 : -9223372036854775808 ≤ n) (h2 : n ≤ 9223372036854775807) :
    Calls Try.prog 76 #[.int .i64 n] w fun e w' => e = .returned (.int .u64 (foldN n : Nat)) ∧ w = w' := by
  by_cases h : n < 0
  · have HF := Lib.hid (foldN_neg h)
    go_enter Try.func76, Try.ntmps76
    go_wp2
    go_ret
    exact ⟨ret_int HF.out.symm, rfl⟩
  · have HF := Lib.hid (foldN_nn h)
    go_enter Try.func76, Try.ntmps76
    go_wp2
    go_ret
    exact ⟨ret_int HF.out.symm, rfl⟩

/-- What appending bytes to an owned row leaves. -/
def PutRow (base : Nat) (v : Value) (k : Nat) (xs : List Value) (bs : List UInt8) (w : World) (e : Ending) (w' : World) : Prop :=
  ∃ v', e = .returned v' ∧ w'.ownsRow base 5 1 v' (k + bs.length) (xs ++ bs.map byteC) ∧ Grow w w' v v'

set_option maxHeartbeats 1000000 in
set_option maxRecDepth 20000 in
theorem uvar_Put (base : Nat) (v : Value) (k : Nat) (xs : List Value) (n : Nat) (w : World) (hown : w.ownsRow base 5 1 v k xs) (hb : base ≤ w.heap.size) (hk : k ≤ 17592186044416) (hn : n ≤ 18446744073709551615) :
    Calls Try.prog 52 #[v, .int .u64 n] w (PutRow base v k xs (putB n) w) := by
  go_enter Try.func52, Try.ntmps52
  go_wp2
  go_loopw [0, 1] (fun u x wr => ∃ (f m : Nat) (done : List UInt8), x = .int .u64 m ∧ done.length + f = 9 ∧ m < 2 ^ (7 * f + 1) ∧ m ≤ 18446744073709551615 ∧ Hid (putB n = done ++ putF f m) ∧ wr.ownsRow base 5 1 u (k + done.length) (xs ++ done.map byteC) ∧ Grow w wr v u)
    (fun _ x _ => (intOf x).toNat)
  case atStart => exact ⟨9, n, [], rfl, rfl, by omega, hn, Lib.hid rfl, by simpa using hown, Grow.rf _ _⟩
  case round =>
    obtain ⟨f, m, done, rfl, hf, hm, hm2, hp, hown1, hg⟩ := hrel
    have hsz := hg.size
    by_cases hlt : m < 128
    · have HB := Lib.hid (ofNat_lt (show m < 256 by omega))
      have hw : IntKind.u8.wrap (m : Int) = m := by rw [IntKind.wrap_u8]; omega
      clear hm
      go_wp2_with (at_builtin; (refine wpList_push rfl (.tmp 15) (.tmp 18) 49 rfl base 5 5 (.int .u8 0) 1 1 Try.underlying49 (by kernel_rfl) rfl (by decide) _ (k + done.length) _ [.int .u8 m] rfl hown1 _ rfl (by simp) rfl (by simp [Value.oneCell']) (by unfold maxLen; omega) (by omega) (by omega) ?_; intro v' w1 hown2 hgr))
      go_ret
      exact ⟨v', rfl, by rw [hp.out, putF_lt f hlt]; have hbc : byteC (UInt8.ofNat m) = .int .u8 m := by rw [byteC, ← HB.out]
                         simpa [hbc, Nat.add_assoc] using hown2, hg.tr hgr⟩
    · have hf0 : f ≠ 0 := by rintro rfl; omega
      obtain ⟨f, rfl⟩ : ∃ f', f = f' + 1 := ⟨f - 1, by omega⟩
      have HB := Lib.hid (or128 (n := m))
      have hge : 128 ≤ m := by omega
      have hm' : Hid (m / 128 < 2 ^ (7 * f + 1)) := by
        rw [Hid, Nat.div_lt_iff_lt_mul (by decide)]
        have : 2 ^ (7 * (f + 1) + 1) = 2 ^ (7 * f + 1) * 128 := by rw [show 7 * (f + 1) + 1 = 7 * f + 1 + 7 by omega, Nat.pow_add]
        omega
      have HP : Hid (putB n = (done ++ [UInt8.ofNat (m % 128 + 128)]) ++ putF f (m / 128)) := by rw [Hid, hp.out, putF_ge f hge]; simp
      clear hm hlt hp
      go_wp2_with (at_builtin; (refine wpList_push rfl (.tmp 7) (.tmp 11) 49 rfl base 5 5 (.int .u8 0) 1 1 Try.underlying49 (by kernel_rfl) rfl (by decide) _ (k + done.length) _ [_] rfl hown1 _ rfl (by simp) rfl (by simp [Value.oneCell']) (by unfold maxLen; omega) (by omega) (by omega) ?_; intro v' w1 hown2 hgr))
      go_roundw
      case rel => exact ⟨f, m / 128, done ++ [UInt8.ofNat (m % 128 + 128)], by go_num, by simp; omega, hm'.out, by omega, HP,
        by rw [List.map_append, ← List.append_assoc, List.length_append]; rw [HB.out] at hown2; exact hown2, hg.tr hgr⟩
      case measure => simp [intOf]; omega

set_option maxRecDepth 20000 in
theorem uvar_PutInt (base : Nat) (v : Value) (k : Nat) (xs : List Value) (n : Int) (w : World) (hown : w.ownsRow base 5 1 v k xs) (hb : base ≤ w.heap.size) (hk : k ≤ 17592186044416)
    (h1 : -9223372036854775808 ≤ n) (h2 : n ≤ 9223372036854775807) :
    Calls Try.prog 51 #[v, .int .i64 n] w (PutRow base v k xs (putB (foldN n)) w) := by
  have h3 := foldN_lt h1 h2
  go_enter Try.func51, Try.ntmps51
  go_wp2_with fail
  refine (uvar_Fold n w h1 h2).mono ?_
  rintro e w1 ⟨rfl, rfl⟩
  generalize foldN n = F at *
  go_wp2_with fail
  refine (uvar_Put base v k xs F w hown hb hk h3).mono ?_
  rintro e w1 ⟨v', rfl, ho, hg⟩
  go_wp2_with fail
  go_ret
  exact ⟨v', rfl, ho, hg⟩

theorem putB_lt {n : Nat} (h : n < 128) : putB n = [UInt8.ofNat n] := putF_lt 9 h

/-- What handing back new bytes leaves. -/
def RetBytes (bs : List UInt8) (w : World) (e : Ending) (w' : World) : Prop :=
  ∃ ao cap, e = .returned (.slice ao bs.length cap) ∧ Cells w' ao (bs.map byteC) ∧ Ext w w'

/-- .. of a row of the call's own. -/
def OwnBytes (bs : List UInt8) (w : World) (e : Ending) (w' : World) : Prop :=
  ∃ v, e = .returned v ∧ w'.ownsRow w.heap.size 5 1 v bs.length (bs.map byteC) ∧ Ext w w'

set_option maxHeartbeats 1000000 in
set_option maxRecDepth 20000 in
theorem uvarref_PutF (f : Nat) : ∀ (n : Nat) (w : World), n < 2 ^ (7 * f + 7) → n ≤ 18446744073709551615 → f ≤ 9 → Calls Try.prog 75 #[.int .u64 n] w (OwnBytes (putF f n) w) := by
  induction f with
  | zero =>
    intro n w h h2 _
    have hlt : n < 128 := by omega
    have HB := Lib.hid (ofNat_lt (show n < 256 by omega))
    clear h
    go_enter Try.func75, Try.ntmps75
    go_wp2_with fail
    go_ret
    have hbc : byteC (UInt8.ofNat n) = .int .u8 n := by rw [byteC, ← HB.out]
    have hw : IntKind.u8.wrap (n : Int) = n := by rw [IntKind.wrap_u8]; omega
    exact ⟨_, rfl, by simpa [hbc, putF] using World.ownsRow_lit (base := w.heap.size) (e := 5) (size := 1) w #[.int .u8 n] 1 (Nat.le_refl _) (by decide) rfl, (Ext.rf w).al _⟩
  | succ f ih =>
    intro n w h h2 hf
    by_cases hlt : n < 128
    · have HB := Lib.hid (ofNat_lt (show n < 256 by omega))
      clear h
      go_enter Try.func75, Try.ntmps75
      go_wp2_with fail
      go_ret
      have hbc : byteC (UInt8.ofNat n) = .int .u8 n := by rw [byteC, ← HB.out]
      exact ⟨_, rfl, by rw [putF_lt _ hlt]; simpa [hbc, putF] using World.ownsRow_lit (base := w.heap.size) (e := 5) (size := 1) w #[.int .u8 n] 1 (Nat.le_refl _) (by decide) rfl, (Ext.rf w).al _⟩
    · have hge : 128 ≤ n := by omega
      have hm' : Hid (n / 128 < 2 ^ (7 * f + 7)) := by
        rw [Hid, Nat.div_lt_iff_lt_mul (by decide)]
        have : 2 ^ (7 * (f + 1) + 7) = 2 ^ (7 * f + 7) * 128 := by rw [show 7 * (f + 1) + 7 = 7 * f + 7 + 7 by omega, Nat.pow_add]
        omega
      have HA := Lib.hid (add128 (n := n))
      have HL := Lib.hid (putF_le f (n / 128))
      have HP := Lib.hid (putF_ge f hge)
      have hn2 : n / 128 ≤ 18446744073709551615 := by omega
      clear h hlt
      have hown := World.ownsRow_lit (base := w.heap.size) (e := 5) (size := 1) w #[.int .u8 ((n : Int) % 128 + 128)] 1 (Nat.le_refl _) (by decide) rfl
      have hx0 := (Ext.rf w).al (.cells #[.int .u8 ((n : Int) % 128 + 128)] 5)
      go_enter Try.func75, Try.ntmps75
      go_wp2_with fail
      have ih' := ih (n / 128) (w.alloc (.cells #[.int .u8 ((n : Int) % 128 + 128)] 5)) hm'.out hn2 (by omega)
      rw [show ((n / 128 : Nat) : Int) = (n : Int) / 128 from by omega] at ih'
      refine ih'.mono ?_
      clear ih ih'
      rintro e w1 ⟨v, rfl, ho, hb⟩
      obtain ⟨ao, cap, rfl, hc, -⟩ := own_cells ho
      clear ho
      have hown1 := own_ext hown hb
      have hx1 := hx0.tr hb
      have hl := HL.out
      generalize putF f (n / 128) = T at *
      go_wp2_with (at_builtin; (refine wpList_appendAll rfl (.tmp 12) (.tmp 15) 49 rfl w.heap.size 5 (.int .u8 0) 1 1 Try.underlying49 (by kernel_rfl) rfl (by decide) _ 1 _ ao T.length _ (T.map byteC) rfl hown1 rfl hc (by simp) (by intro u hu; simp only [List.mem_map] at hu; obtain ⟨_, _, rfl⟩ := hu; rfl) (by unfold maxLen; omega) (by omega) hx1.size ?_; intro v' w2 hown2 hgr; have hx2 := hx1.push hown1 (Nat.le_refl _) hgr; clear hgr hown1 hx1))
      go_ret
      refine ⟨_, rfl, ?_, hx2⟩
      rw [HP.out, List.map_cons, byteC, ← HA.out, List.length_cons, Nat.add_comm]
      exact hown2

theorem uvarref_PutO (n : Nat) (w : World) (hn : n ≤ 18446744073709551615) : Calls Try.prog 75 #[.int .u64 n] w (OwnBytes (putB n) w) :=
  uvarref_PutF 9 n w (by omega) hn (Nat.le_refl _)
theorem uvarref_Put (n : Nat) (w : World) (hn : n ≤ 18446744073709551615) : Calls Try.prog 75 #[.int .u64 n] w (RetBytes (putB n) w) :=
  (uvarref_PutO n w hn).mono fun e w' ⟨v, h1, h2, h3⟩ => by
    obtain ⟨ao, cap, rfl, hc, -⟩ := own_cells h2
    exact ⟨ao, cap, h1, hc, h3⟩

theorem below_growU {w0 w w' : World} {B base : Nat} {e : TypeId} {size : Nat} {v v' : Value} {n : Nat} {xs : List Value} (h : Below B w0 w) (hB : B ≤ w.heap.size) (hown : w.ownsRow base e size v n xs) (hb : B ≤ base) (hg : Grow w w' v v') : Below B w0 w' :=
  h.grown hg.togrownBy hB fun k hk => Nat.le_trans hb (hown.lt k hk).1
end Go.Proofs.Ytfeddkfpkdjbeaa
