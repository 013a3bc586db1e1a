/- Inline trees: their bytes, the reference's. -/
import Derived.Test.YtofdkhilapmccaaTreeP
namespace Go.Proofs.Ytofdkhilapmccaa
open Go.RowKit

set_option maxHeartbeats 2000000 in
set_option maxRecDepth 20000 in
theorem treeref_Put (ao : Option Addr) (cap : Nat) (l : List NodeT) (w : World) (hc : Cells w ao (l.flatMap nodeC)) (hl : l.length ≤ 4294967296) (hv : ∀ n ∈ l, Node64 n) :
    Calls Try.prog 25 #[.slice ao l.length cap] w (RetSl (putTree l).length ((putTree l).map byteC) w) := by
  have HV := Lib.hid hv
  clear hv
  have hwn : IntKind.u64.wrap (l.length : Int) = l.length := by rw [IntKind.wrap_u64]; omega
  go_enter Try.func25, Try.ntmps25
  go_wp2_with fail
  refine (uvarref_PutO l.length w (by omega)).mono ?_
  rintro e w2 ⟨u, rfl, hown2, hx2⟩
  have hple := putB_le l.length
  have HT : Hid (putTree l = putB l.length ++ l.flatMap putNode) := rfl
  generalize putB l.length = B at *
  go_wp2_with fail
  go_loopw [3, 4] (fun u i wr => ∃ k : Nat, k ≤ l.length ∧ i = .int .i64 k ∧ wr.ownsRow w.heap.size 5 1 u (B ++ (l.take k).flatMap putNode).length ((B ++ (l.take k).flatMap putNode).map byteC) ∧ Ext w wr)
    (fun _ i _ => l.length - (intOf i).toNat)
  case atStart => exact ⟨0, Nat.zero_le _, rfl, by simpa using hown2, hx2⟩
  case round =>
    obtain ⟨k, hk, rfl, hownk, hext⟩ := hrel
    by_cases hlt : k < l.length
    · obtain ⟨b, off, rfl, hcl⟩ := (hc.ext hext).flat (enc := nodeC) (size := 7) (fun _ => rfl) hlt (by decide)
      have HS := Lib.hid (flat_snoc putNode hlt)
      have HN := Lib.hid (node64_mem (HV.out l[k] (List.getElem_mem hlt)))
      have hle : (B ++ (l.take k).flatMap putNode).length ≤ 10 + k * 70 := by
        have := flat_le putNode 70 putNode_le (l.take k)
        rw [List.length_append, List.length_take] at *; have : min k l.length = k := by omega
        rw [this] at *; omega
      generalize l[k] = x at *
      have HD : Hid (B ++ (l.take (k + 1)).flatMap putNode = (B ++ (l.take k).flatMap putNode) ++ putNode x) := by rw [Hid, HS.out, List.append_assoc]
      clear HS
      generalize B ++ (l.take k).flatMap putNode = D at *
      have e0 : wr.cell? ⟨b, off + k * 7, none⟩ = some (.int .i64 x.par) := by exact hcl 0 _ rfl
      have e1 : wr.cell? ⟨b, off + k * 7 + 1, none⟩ = some (.int .i64 x.fn) := by rw [Nat.add_assoc]; exact hcl 1 _ rfl
      have e2 : wr.cell? ⟨b, off + k * 7 + 2, none⟩ = some (.int .i64 x.line) := by rw [Nat.add_assoc]; exact hcl 2 _ rfl
      have e3 : wr.cell? ⟨b, off + k * 7 + 3, none⟩ = some (.int .i64 x.frm) := by rw [Nat.add_assoc]; exact hcl 3 _ rfl
      have e4 : wr.cell? ⟨b, off + k * 7 + 4, none⟩ = some (.int .i64 x.args) := by rw [Nat.add_assoc]; exact hcl 4 _ rfl
      have e5 : wr.cell? ⟨b, off + k * 7 + 5, none⟩ = some (.int .i64 x.upto) := by rw [Nat.add_assoc]; exact hcl 5 _ rfl
      have e6 : wr.cell? ⟨b, off + k * 7 + 6, none⟩ = some (.int .i64 x.res) := by rw [Nat.add_assoc]; exact hcl 6 _ rfl
      clear hcl
      go_upto_region 6 with fail
      have hown3 := hownk.alloc (.cells ([.int .i64 x.par, .int .i64 x.fn, .int .i64 x.line, .int .i64 x.frm, .int .i64 x.args, .int .i64 x.upto, .int .i64 x.res] : List Value).toArray 87)
      obtain ⟨hx0, hz0, hcA⟩ := one_box wr ([.int .i64 x.par, .int .i64 x.fn, .int .i64 x.line, .int .i64 x.frm, .int .i64 x.args, .int .i64 x.upto, .int .i64 x.res] : List Value) 87
      generalize hW1 : wr.alloc (.cells ([.int .i64 x.par, .int .i64 x.fn, .int .i64 x.line, .int .i64 x.frm, .int .i64 x.args, .int .i64 x.upto, .int .i64 x.res] : List Value).toArray 87) = W1 at *
      clear hW1
      have c0 : W1.cell? ⟨wr.heap.size, 0, none⟩ = some (.int .i64 x.par) := by have := hcA.cell _ _ rfl 0 _ rfl; rwa [Nat.zero_add] at this
      have c1 : W1.cell? ⟨wr.heap.size, 1, none⟩ = some (.int .i64 x.fn) := by have := hcA.cell _ _ rfl 1 _ rfl; rwa [Nat.zero_add] at this
      have c2 : W1.cell? ⟨wr.heap.size, 2, none⟩ = some (.int .i64 x.line) := by have := hcA.cell _ _ rfl 2 _ rfl; rwa [Nat.zero_add] at this
      have c3 : W1.cell? ⟨wr.heap.size, 3, none⟩ = some (.int .i64 x.frm) := by have := hcA.cell _ _ rfl 3 _ rfl; rwa [Nat.zero_add] at this
      have c4 : W1.cell? ⟨wr.heap.size, 4, none⟩ = some (.int .i64 x.args) := by have := hcA.cell _ _ rfl 4 _ rfl; rwa [Nat.zero_add] at this
      have c5 : W1.cell? ⟨wr.heap.size, 5, none⟩ = some (.int .i64 x.upto) := by have := hcA.cell _ _ rfl 5 _ rfl; rwa [Nat.zero_add] at this
      have c6 : W1.cell? ⟨wr.heap.size, 6, none⟩ = some (.int .i64 x.res) := by have := hcA.cell _ _ rfl 6 _ rfl; rwa [Nat.zero_add] at this
      clear hcA
      have hext3 := hext.tr hx0
      clear e0 e1 e2 e3 e4 e5 e6 hx0 hownk hext
      go_upto_region 7 with fail
      have hown4 := hown3.alloc (.cells ([.int .i64 x.par, .int .i64 x.fn, .int .i64 x.line, .int .i64 x.frm, .int .i64 x.args, .int .i64 x.upto, .int .i64 x.res] : List Value).toArray 101)
      have hext4 := hext3.al (.cells ([.int .i64 x.par, .int .i64 x.fn, .int .i64 x.line, .int .i64 x.frm, .int .i64 x.args, .int .i64 x.upto, .int .i64 x.res] : List Value).toArray 101)
      have hblk := alloc_new W1 (.cells ((nodeI x).map (.int .i64)).toArray 101)
      change (W1.alloc (.cells ([.int .i64 x.par, .int .i64 x.fn, .int .i64 x.line, .int .i64 x.frm, .int .i64 x.args, .int .i64 x.upto, .int .i64 x.res] : List Value).toArray 101)).heap[W1.heap.size]? = _ at hblk
      generalize W1.alloc (.cells ([.int .i64 x.par, .int .i64 x.fn, .int .i64 x.line, .int .i64 x.frm, .int .i64 x.args, .int .i64 x.upto, .int .i64 x.res] : List Value).toArray 101) = W4 at *
      generalize W1.heap.size = g at *
      clear hown3 hext3 c0 c1 c2 c3 c4 c5 c6 hz0
      go_wp2_with fail
      go_loopw [3, 7] (fun u j wi => ∃ q : Nat, q ≤ 7 ∧ j = .int .i64 q ∧ wi.ownsRow w.heap.size 5 1 u (D ++ ((nodeI x).take q).flatMap putI).length ((D ++ ((nodeI x).take q).flatMap putI).map byteC) ∧ Ext w wi ∧ Hid (wi.heap[g]? = some (.cells ((nodeI x).map (.int .i64)).toArray 101 (0, 0))))
        (fun _ j _ => 7 - (intOf j).toNat)
      case atStart => exact ⟨0, Nat.zero_le _, rfl, by simpa using hown4, hext4, Lib.hid hblk⟩
      case round =>
        clear hown4 hext4 hblk
        obtain ⟨q, hq, rfl, hownq, hextq, hblkq⟩ := hrel
        by_cases hql : q < 7
        · have HS2 := Lib.hid (flat_snoc putI (show q < (nodeI x).length from hql))
          have hqb := HN.out ((nodeI x)[q]'hql) (List.getElem_mem _)
          have hcq : wr.cell? ⟨g, q, none⟩ = some (.int .i64 ((nodeI x)[q]'hql)) := blk hblkq.out q (by simp [show q < (nodeI x).length from hql] <;> rfl)
          generalize (nodeI x)[q]'hql = r at *
          have hr3 := foldN_lt hqb.1 hqb.2
          obtain ⟨hr1, hr2⟩ := hqb
          have HD2 : Hid (D ++ ((nodeI x).take (q + 1)).flatMap putI = (D ++ ((nodeI x).take q).flatMap putI) ++ putI r) := by rw [Hid, HS2.out, List.append_assoc]
          have hle2 : (D ++ ((nodeI x).take q).flatMap putI).length ≤ D.length + 70 := by
            have := flat_le putI 10 putI_le ((nodeI x).take q)
            rw [List.length_append]; rw [List.length_take] at this; omega
          clear HS2
          generalize D ++ ((nodeI x).take q).flatMap putI = Dq at *
          go_wp2_with fail
          refine (uvarref_Fold r _ hr1 hr2).mono ?_
          rintro e w5 ⟨rfl, rfl⟩
          have HPI : Hid (putI r = putB (foldN r)) := rfl
          generalize foldN r = F at *
          go_wp2_with fail
          refine (uvarref_PutO F _ hr3).mono ?_
          rintro e w5 ⟨u5, rfl, ho5, hb5⟩
          have hple5 := putB_le F
          generalize putB F = T at *
          obtain ⟨a5, c5, rfl, hc5, -⟩ := own_cells ho5
          have hown5 := own_ext hownq hb5
          have hext5 := hextq.tr hb5
          have hblk5 := Lib.hid (hb5.blk hblkq.out)
          clear ho5 hb5 hownq hextq hcq
          go_wp2_with (at_builtin; (refine wpList_appendAll rfl (.tmp 41) (.tmp 46) 38 rfl w.heap.size 5 (.int .u8 0) 1 1 Try.underlying38 (by kernel_rfl) rfl (by decide) _ Dq.length _ a5 T.length _ (T.map byteC) rfl hown5 rfl hc5 (by simp) (by intro u hu; simp only [List.mem_map] at hu; obtain ⟨_, _, rfl⟩ := hu; rfl) (by unfold maxLen; omega) (by omega) hext5.size ?_; intro v' w6 hown6 hgr; have hext6 := hext5.push hown5 (Nat.le_refl _) hgr; have hblk6 := Lib.hid (push_keepsT hown5 hgr hblk5.out (by decide)); clear hgr hown5 hext5))
          have HO6 : Hid (w6.ownsRow w.heap.size 5 1 v' (Dq ++ putI r).length ((Dq ++ putI r).map byteC)) := by
            rw [Hid, HPI.out, List.length_append, List.map_append]; exact hown6
          clear hown6
          go_roundw
          case rel => exact ⟨q + 1, by omega, by go_num, by rw [HD2.out]; exact HO6.out, hext6, hblk6⟩
          case measure => simp [intOf]; omega
        · obtain rfl : q = 7 := by omega
          rw [List.take_of_length_le (show (nodeI x).length ≤ 7 from Nat.le_refl _)] at hownq
          have HO6 := Lib.hid hownq
          clear hownq hblkq
          go_wp2_with fail
          go_roundw
          case rel => exact ⟨k + 1, by omega, by go_num, by rw [HD.out]; exact HO6.out, hextq⟩
          case measure => simp [intOf]; omega
    · obtain rfl : k = l.length := by omega
      rw [List.take_of_length_le (Nat.le_refl _)] at hownk
      obtain ⟨ro, rc, rfl, hc', hf'⟩ := own_cells hownk
      clear hownk
      have HC := Lib.hid hc'
      clear hc'
      go_wp2_with fail
      go_ret
      exact ⟨ro, rc, by rw [HT.out] <;> rfl, by rw [HT.out]; exact HC.out, hext, hf'⟩
end Go.Proofs.Ytofdkhilapmccaa
