/- The walks of runs.Put, and of its reference. -/
import Derived.Test.YtfeddkfpkdjbeaaRunsO
import Derived.Test.YtfeddkfpkdjbeaaUvarW
namespace Go.Proofs.Ytfeddkfpkdjbeaa
open Go.RowKit

/-- The bytes of runs. -/
def runB (p : Int × Int) : List UInt8 := putB p.1.toNat ++ putB (foldN p.2)
def putRuns (R : List (Int × Int)) : List UInt8 := R.flatMap runB
theorem putRuns_take_succ (R : List (Int × Int)) (k : Nat) (h : k < R.length) : putRuns (R.take (k + 1)) = putRuns (R.take k) ++ runB R[k] := by
  simp only [putRuns]
  rw [List.take_succ_eq_append_getElem h, List.flatMap_append]
  simp
theorem runB_le (p : Int × Int) : (runB p).length ≤ 20 := by
  have h1 := putB_le p.1.toNat; have h2 := putB_le (foldN p.2); simp only [runB, List.length_append]; omega
theorem putRuns_le (R : List (Int × Int)) : (putRuns R).length ≤ 20 * R.length := by
  induction R with
  | nil => simp [putRuns]
  | cons p R ih => have := runB_le p; simp only [putRuns, List.flatMap_cons, List.length_append, List.length_cons] at *; omega
theorem putRuns_take_le (R : List (Int × Int)) (k : Nat) : (putRuns (R.take k)).length ≤ 20 * k := by
  have := putRuns_le (R.take k); have : (R.take k).length ≤ k := List.length_take_le _ _; omega

/-- The values of the runs are numbers of the row. -/
theorem runsOf_vals (l : List Int) : ∀ p ∈ runsOf l, p.2 ∈ l := by
  have key : ∀ (l : List Int) (acc : List (Int × Int)) (L : List Int), (∀ p ∈ acc, p.2 ∈ L) → (∀ v ∈ l, v ∈ L) → ∀ p ∈ l.foldl runStep acc, p.2 ∈ L := by
    intro l
    induction l with
    | nil => intro acc L h _; exact h
    | cons v l ih =>
      intro acc L h hv
      refine ih _ L ?_ (fun x hx => hv x (by simp [hx]))
      intro p hp
      unfold runStep at hp
      split at hp
      · rename_i q hq
        split at hp
        · rcases List.mem_or_eq_of_mem_set hp with hp | rfl
          · exact h p hp
          · exact h q (List.mem_of_getElem? hq)
        · rcases List.mem_append.1 hp with hp | hp
          · exact h p hp
          · simp at hp; subst hp; exact hv v (by simp)
      · rcases List.mem_append.1 hp with hp | hp
        · exact h p hp
        · simp at hp; subst hp; exact hv v (by simp)
  exact key l [] l (by simp) (fun v h => h)

set_option maxHeartbeats 2000000 in
set_option maxRecDepth 20000 in
theorem runs_Put (base : Nat) (v : Value) (k0 : Nat) (xs : List Value) (ao : Option Addr) (cap : Nat) (l : List Int) (w : World) (hown : w.ownsRow base 5 1 v k0 xs) (hb : base ≤ w.heap.size) (hk0 : k0 ≤ 4398046511104)
    (hc : Cells w ao (l.map (.int .i64))) (hl : l.length ≤ 4398046511) (hv : ∀ n ∈ l, -9223372036854775808 ≤ n ∧ n ≤ 9223372036854775807) :
    Calls Try.prog 32 #[v, .slice ao l.length cap] w (PutRow base v k0 xs (putRuns (runsOf l)) w) := by
  have hcnt := cntOk l
  have hvals : ∀ p ∈ runsOf l, -9223372036854775808 ≤ p.2 ∧ p.2 ≤ 9223372036854775807 := fun p hp => hv _ (runsOf_vals l p hp)
  have HC := Lib.hid hcnt
  have HV := Lib.hid hvals
  clear hcnt hvals hv
  go_enter Try.func32, Try.ntmps32
  go_wp2_with fail
  refine (runs_Of ao cap l w hc (by omega)).mono ?_
  rintro e w1 ⟨ro, rc, rfl, hR, hx1, hfr⟩
  generalize runsOf l = R at *
  have hRl := HC.out.1
  have hown1 := own_ext hown hx1
  have hg1 : Grow w w1 v v := (Grow.rf w v).extR hx1
  go_wp2_with fail
  go_loopw [0, 10] (fun u i wr => ∃ k : Nat, k ≤ R.length ∧ i = .int .i64 k ∧ wr.ownsRow base 5 1 u (k0 + (putRuns (R.take k)).length) (xs ++ (putRuns (R.take k)).map byteC) ∧ Grow w1 wr v u)
    (fun _ i _ => R.length - (intOf i).toNat)
  case atStart => exact ⟨0, Nat.zero_le _, rfl, by simpa [putRuns] using hown1, Grow.rf _ _⟩
  case round =>
    obtain ⟨k, hk, rfl, hownr, hgr⟩ := hrel
    have hszr := hgr.size
    have hsz1 := hx1.size
    by_cases hlt : k < R.length
    · obtain ⟨b, off, rfl, c1, c2⟩ := (hR.growB hfr hown (Nat.le_refl _) hgr).pair (k := k) hlt
      have hple := putRuns_take_le R k
      have HP := Lib.hid (putRuns_take_succ R k hlt)
      obtain ⟨p1, p2⟩ := HC.out.2 R[k] (List.getElem_mem _)
      obtain ⟨q1, q2⟩ := HV.out R[k] (List.getElem_mem _)
      generalize putRuns (R.take k) = D at *
      obtain ⟨n, hn⟩ := Int.eq_ofNat_of_zero_le (show 0 ≤ R[k].1 by omega)
      have HRB : Hid (runB R[k] = putB n ++ putB (foldN R[k].2)) := by rw [Hid, runB, hn]; rfl
      have hn2 : n ≤ 4398046511 := by omega
      rw [hn] at c1
      generalize R[k].2 = V at *
      have d0 : (wr.alloc (.cells #[.int .i64 n, .int .i64 V] 33)).drew.heap[wr.heap.size]? = _ := alloc_new wr _
      have ho0 : (wr.alloc (.cells #[.int .i64 n, .int .i64 V] 33)).drew.ownsRow base 5 1 u0 (k0 + D.length) (xs ++ D.map byteC) := hownr.alloc _
      have hx0 : Ext wr (wr.alloc (.cells #[.int .i64 n, .int .i64 V] 33)).drew := ((Ext.rf wr).al _).dr
      have hlen1 := Lib.hid (putB_le n)
      have hlen2 := Lib.hid (putB_le (foldN V))
      have hwn : IntKind.u64.wrap (n : Int) = n := by rw [IntKind.wrap_u64]; omega
      clear p1 p2 hn
      go_wp2_with fail
      go_region_held3 (fun w' => w'.cell? ⟨wr.heap.size, 0, none⟩ = some (.int .i64 n) ∧ w'.cell? ⟨wr.heap.size, 1, none⟩ = some (.int .i64 V)) (first | exact ⟨blk d2 0 rfl, blk d2 1 rfl⟩ | exact ⟨blk d1 0 rfl, blk d1 1 rfl⟩ | exact ⟨blk d0 0 rfl, blk d0 1 rfl⟩)
        (first
          | (go_at_call 52; (with_reducible refine (uvar_Put base _ _ _ n _ ho0 (by have := hx0.size; omega) (by omega) (by omega)).mono ?_); rintro e w2 ⟨v1, rfl, ho1, hg2⟩; have d1 := push_keepsT ho0 hg2 d0 (by decide); have hsz2 := hg2.size)
          | (go_at_call 51; (with_reducible refine (uvar_PutInt base _ _ _ V _ ho1 (by have := hx0.size; omega) (by have := hlen1.out; omega) q1 q2).mono ?_); rintro e w3 ⟨v2, rfl, ho2, hg3⟩; have d2 := push_keepsT ho1 hg3 d1 (by decide)))
      have hgf := hgr.tr (((Grow.rf wr u0).extR hx0).tr (hg2.tr hg3))
      clear d0 d1 d2 ho0 ho1 hg2 hg3 hgr hx0 hownr c1 c2
      go_wp2
      go_roundw
      case rel => exact ⟨k + 1, by omega, by go_num, by rw [HP.out, HRB.out, List.length_append, List.length_append, List.map_append, List.map_append]; simpa [Nat.add_assoc] using ho2, hgf⟩
      case measure => simp [intOf]; omega
    · obtain rfl : k = R.length := by omega
      rw [List.take_of_length_le (Nat.le_refl _)] at hownr
      go_wp2
      go_ret
      exact ⟨_, rfl, hownr, hg1.tr hgr⟩

set_option maxHeartbeats 2000000 in
set_option maxRecDepth 20000 in
theorem runsref_Put (ao : Option Addr) (cap : Nat) (l : List Int) (w : World) (hc : Cells w ao (l.map (.int .i64))) (hl : l.length ≤ 4398046511) (hv : ∀ n ∈ l, -9223372036854775808 ≤ n ∧ n ≤ 9223372036854775807) :
    Calls Try.prog 33 #[.slice ao l.length cap] w (RetSl (putRuns (runsOf l)).length ((putRuns (runsOf l)).map byteC) w) := by
  have hcnt := cntOk l
  have hvals : ∀ p ∈ runsOf l, -9223372036854775808 ≤ p.2 ∧ p.2 ≤ 9223372036854775807 := fun p hp => hv _ (runsOf_vals l p hp)
  have HC := Lib.hid hcnt
  have HV := Lib.hid hvals
  clear hcnt hvals hv
  go_enter Try.func33, Try.ntmps33
  go_wp2_with fail
  refine (runsref_Of ao cap l w hc (by omega)).mono ?_
  rintro e w1 ⟨ro, rc, rfl, hR, hx1, hfr⟩
  generalize runsOf l = R at *
  have hRl := HC.out.1
  go_wp2_with fail
  go_loopw [3, 5] (fun u i wr => ∃ k : Nat, k ≤ R.length ∧ i = .int .i64 k ∧ wr.ownsRow w1.heap.size 5 1 u (putRuns (R.take k)).length ((putRuns (R.take k)).map byteC) ∧ Ext w1 wr)
    (fun _ i _ => R.length - (intOf i).toNat)
  case atStart => exact ⟨0, Nat.zero_le _, rfl, World.ownsRow_nil _ _ _ _, Ext.rf _⟩
  case round =>
    obtain ⟨k, hk, rfl, hown, hext⟩ := hrel
    by_cases hlt : k < R.length
    · obtain ⟨b, off, rfl, d1, d2⟩ := hR.pair (k := k) hlt
      have c1 := hext.has d1
      have hple := putRuns_take_le R k
      have HP := Lib.hid (putRuns_take_succ R k hlt)
      obtain ⟨p1, p2⟩ := HC.out.2 R[k] (List.getElem_mem _)
      obtain ⟨q1, q2⟩ := HV.out R[k] (List.getElem_mem _)
      generalize putRuns (R.take k) = D at *
      obtain ⟨n, hn⟩ := Int.eq_ofNat_of_zero_le (show 0 ≤ R[k].1 by omega)
      have HRB : Hid (runB R[k] = putB n ++ putB (foldN R[k].2)) := by rw [Hid, runB, hn]; rfl
      have hn2 : n ≤ 4398046511 := by omega
      rw [hn] at c1 d1
      have hlen1 := putB_le n
      have hlen2 := putB_le (foldN R[k].2)
      have hf2 := foldN_lt q1 q2
      generalize R[k].2 = V at *
      have hwn : IntKind.u64.wrap (n : Int) = n := by rw [IntKind.wrap_u64]; omega
      clear p1 p2 hn
      go_wp2_with fail
      refine (uvarref_Put n _ (by omega)).mono ?_
      rintro e w2 ⟨ao1, cap1, rfl, hc1, hx2⟩
      have hown2 := own_ext hown hx2
      have hext2 := hext.tr hx2
      generalize putB n = B1 at *
      go_wp2_with (at_builtin; (refine wpList_appendAll rfl (.tmp 14) (.tmp 21) 49 rfl w1.heap.size 5 (.int .u8 0) 1 1 Try.underlying49 (by kernel_rfl) rfl (by decide) _ D.length _ ao1 B1.length _ (B1.map byteC) rfl hown2 rfl hc1 (by simp) (by intro u hu; simp only [List.mem_map] at hu; obtain ⟨_, _, rfl⟩ := hu; rfl) (by unfold maxLen; omega) (by omega) hext2.size ?_; intro v' w3 hown3 hgr; have hext3 := hext2.push hown2 (Nat.le_refl _) hgr; have c4 := hext3.has d2; clear hgr hown2 hown hext hx2 c1 d1))
      refine (uvarref_Fold V _ q1 q2).mono ?_
      rintro e w4 ⟨rfl, rfl⟩
      go_wp2_with fail
      refine (uvarref_Put (foldN V) _ hf2).mono ?_
      rintro e w5 ⟨ao2, cap2, rfl, hc2, hx5⟩
      have hown5 := own_ext hown3 hx5
      have hext5 := hext3.tr hx5
      generalize putB (foldN V) = B2 at *
      go_wp2_with (at_builtin; (refine wpList_appendAll rfl (.tmp 23) (.tmp 30) 49 rfl w1.heap.size 5 (.int .u8 0) 1 1 Try.underlying49 (by kernel_rfl) rfl (by decide) _ (D.length + B1.length) _ ao2 B2.length _ (B2.map byteC) rfl hown5 rfl hc2 (by simp) (by intro u hu; simp only [List.mem_map] at hu; obtain ⟨_, _, rfl⟩ := hu; rfl) (by unfold maxLen; omega) (by omega) hext5.size ?_; intro v' w6 hown6 hgr; have hext6 := hext5.push hown5 (Nat.le_refl _) hgr; clear hgr hown5 hown3 hext3 hx5 hext5 c4))
      go_roundw
      case rel => exact ⟨k + 1, by omega, by go_num, by rw [HP.out, HRB.out, List.length_append, List.length_append, List.map_append, List.map_append]; simpa [Nat.add_assoc] using hown6, hext6⟩
      case measure => simp [intOf]; omega
    · obtain rfl : k = R.length := by omega
      rw [List.take_of_length_le (Nat.le_refl _)] at hown
      obtain ⟨ao', cap', rfl, hc', hf'⟩ := own_cells hown
      go_wp2
      go_ret
      exact ⟨ao', cap', rfl, hc', hx1.tr hext, hf'.mono hx1.size⟩
end Go.Proofs.Ytfeddkfpkdjbeaa
