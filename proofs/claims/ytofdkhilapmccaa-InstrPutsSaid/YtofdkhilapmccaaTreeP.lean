/- Inline trees: their bytes. -/
import Derived.Test.YtofdkhilapmccaaTreeR
import Derived.Test.YtofdkhilapmccaaUvarW
namespace Go.Proofs.Ytofdkhilapmccaa
open Go.RowKit

def putI (n : Int) : List UInt8 := putB (foldN n)
def putNode (n : NodeT) : List UInt8 := (nodeI n).flatMap putI
def putTree (l : List NodeT) : List UInt8 := putB l.length ++ l.flatMap putNode
theorem putI_le (n : Int) : (putI n).length ≤ 10 := putB_le _
theorem flat_le {α : Type} (f : α → List UInt8) (c : Nat) (h : ∀ x, (f x).length ≤ c) (l : List α) : (l.flatMap f).length ≤ l.length * c := by
  induction l with
  | nil => simp
  | cons x l ih => simp only [List.flatMap_cons, List.length_append, List.length_cons, Nat.add_mul, Nat.one_mul]; have := h x; omega
theorem putNode_le (n : NodeT) : (putNode n).length ≤ 70 := flat_le putI 10 putI_le (nodeI n)
theorem putTree_le (l : List NodeT) : (putTree l).length ≤ 10 + l.length * 70 := by
  have h1 := putB_le l.length
  have h2 := flat_le putNode 70 putNode_le l
  rw [putTree, List.length_append]; omega
theorem node64_mem {n : NodeT} (h : Node64 n) : ∀ x ∈ nodeI n, I64 x := by
  obtain ⟨h1, h2, h3, h4, h5, h6, h7⟩ := h
  intro x hx
  simp only [nodeI, List.mem_cons, List.not_mem_nil, or_false] at hx
  rcases hx with rfl | rfl | rfl | rfl | rfl | rfl | rfl <;> assumption
theorem flat_snoc {α β : Type} (f : α → List β) {l : List α} {k : Nat} (h : k < l.length) : (l.take (k + 1)).flatMap f = (l.take k).flatMap f ++ f l[k] := by
  rw [List.take_succ_eq_append_getElem h, List.flatMap_append]; simp

set_option maxHeartbeats 2000000 in
set_option maxRecDepth 20000 in
theorem tree_Put (base : Nat) (v : Value) (k0 : Nat) (xs : List Value) (ao : Option Addr) (cap : Nat) (l : List NodeT) (w : World) (hown : w.ownsRow base 5 1 v k0 xs) (hb : base ≤ w.heap.size) (hk0 : k0 ≤ 4398046511104)
    (hc : Cells w ao (l.flatMap nodeC)) (hl : l.length ≤ 4294967296) (hv : ∀ n ∈ l, Node64 n) (hfr : ∀ b off, l ≠ [] → ao = some ⟨b, off, none⟩ → b < base) :
    Calls Try.prog 24 #[v, .slice ao l.length cap] w (PutRow base v k0 xs (putTree l) w) := by
  have HV := Lib.hid hv
  have HF := Lib.hid hfr
  clear hv hfr
  have hwn : IntKind.u64.wrap (l.length : Int) = l.length := by rw [IntKind.wrap_u64]; omega
  go_enter Try.func24, Try.ntmps24
  go_wp2_with fail
  refine (uvar_Put base v k0 xs l.length w hown hb (by omega) (by omega)).mono ?_
  rintro e w2 ⟨u, rfl, hown2, hg2⟩
  have hple := putB_le l.length
  have hx2 := below_growU (Below.refl base w) hb hown (Nat.le_refl _) hg2
  have hb2 : base ≤ w2.heap.size := Nat.le_trans hb hg2.size
  have HT : Hid (putTree l = putB l.length ++ l.flatMap putNode) := rfl
  generalize putB l.length = B at *
  have HG2 := Lib.hid hg2
  clear hown hg2
  go_wp2_with fail
  go_loopw [0, 16] (fun u i wr => ∃ k : Nat, k ≤ l.length ∧ i = .int .i64 k ∧ wr.ownsRow base 5 1 u (k0 + (B ++ (l.take k).flatMap putNode).length) (xs ++ (B ++ (l.take k).flatMap putNode).map byteC) ∧ Below base w wr ∧ Grow w wr v u ∧ base ≤ wr.heap.size)
    (fun _ i _ => l.length - (intOf i).toNat)
  case atStart => exact ⟨0, Nat.zero_le _, rfl, by simpa using hown2, hx2, HG2.out, hb2⟩
  case round =>
    obtain ⟨k, hk, rfl, hownk, hbk, hgk, hbs⟩ := hrel
    by_cases hlt : k < l.length
    · obtain ⟨b, off, rfl, -⟩ := hc.flat (enc := nodeC) (size := 7) (fun _ => rfl) hlt (by decide)
      obtain ⟨b', off', e', hcl⟩ := (hc.below hbk (HF.out b off (by rintro rfl; simp at hlt) rfl)).flat (enc := nodeC) (size := 7) (fun _ => rfl) hlt (by decide)
      simp only [Option.some.injEq, Addr.mk.injEq, and_true] at e'
      obtain ⟨rfl, rfl⟩ := e'
      have HS := Lib.hid (flat_snoc putNode hlt)
      have HN := Lib.hid (node64_mem (HV.out l[k] (List.getElem_mem hlt)))
      have hle : (B ++ (l.take k).flatMap putNode).length ≤ 10 + k * 70 := by
        have := flat_le putNode 70 putNode_le (l.take k)
        rw [List.length_append, List.length_take] at *; have : min k l.length = k := by omega
        rw [this] at *; omega
      generalize l[k] = x at *
      have HD : Hid (B ++ (l.take (k + 1)).flatMap putNode = (B ++ (l.take k).flatMap putNode) ++ putNode x) := by rw [Hid, HS.out, List.append_assoc]
      clear HS
      generalize B ++ (l.take k).flatMap putNode = D at *
      have e0 : wr.cell? ⟨b, off + k * 7, none⟩ = some (.int .i64 x.par) := by exact hcl 0 _ rfl
      have e1 : wr.cell? ⟨b, off + k * 7 + 1, none⟩ = some (.int .i64 x.fn) := by rw [Nat.add_assoc]; exact hcl 1 _ rfl
      have e2 : wr.cell? ⟨b, off + k * 7 + 2, none⟩ = some (.int .i64 x.line) := by rw [Nat.add_assoc]; exact hcl 2 _ rfl
      have e3 : wr.cell? ⟨b, off + k * 7 + 3, none⟩ = some (.int .i64 x.frm) := by rw [Nat.add_assoc]; exact hcl 3 _ rfl
      have e4 : wr.cell? ⟨b, off + k * 7 + 4, none⟩ = some (.int .i64 x.args) := by rw [Nat.add_assoc]; exact hcl 4 _ rfl
      have e5 : wr.cell? ⟨b, off + k * 7 + 5, none⟩ = some (.int .i64 x.upto) := by rw [Nat.add_assoc]; exact hcl 5 _ rfl
      have e6 : wr.cell? ⟨b, off + k * 7 + 6, none⟩ = some (.int .i64 x.res) := by rw [Nat.add_assoc]; exact hcl 6 _ rfl
      clear hcl
      go_upto_region 5 with fail
      have hown3 := hownk.alloc (.cells ([.int .i64 x.par, .int .i64 x.fn, .int .i64 x.line, .int .i64 x.frm, .int .i64 x.args, .int .i64 x.upto, .int .i64 x.res] : List Value).toArray 87)
      have hbk3 := hbk.alloc hbs (.cells ([.int .i64 x.par, .int .i64 x.fn, .int .i64 x.line, .int .i64 x.frm, .int .i64 x.args, .int .i64 x.upto, .int .i64 x.res] : List Value).toArray 87)
      have hgk3 := hgk.extR ((Ext.rf wr).al (.cells ([.int .i64 x.par, .int .i64 x.fn, .int .i64 x.line, .int .i64 x.frm, .int .i64 x.args, .int .i64 x.upto, .int .i64 x.res] : List Value).toArray 87))
      obtain ⟨hx0, hz0, hcA⟩ := one_box wr ([.int .i64 x.par, .int .i64 x.fn, .int .i64 x.line, .int .i64 x.frm, .int .i64 x.args, .int .i64 x.upto, .int .i64 x.res] : List Value) 87
      generalize hW1 : wr.alloc (.cells ([.int .i64 x.par, .int .i64 x.fn, .int .i64 x.line, .int .i64 x.frm, .int .i64 x.args, .int .i64 x.upto, .int .i64 x.res] : List Value).toArray 87) = W1 at *
      clear hW1
      have c0 : W1.cell? ⟨wr.heap.size, 0, none⟩ = some (.int .i64 x.par) := by have := hcA.cell _ _ rfl 0 _ rfl; rwa [Nat.zero_add] at this
      have c1 : W1.cell? ⟨wr.heap.size, 1, none⟩ = some (.int .i64 x.fn) := by have := hcA.cell _ _ rfl 1 _ rfl; rwa [Nat.zero_add] at this
      have c2 : W1.cell? ⟨wr.heap.size, 2, none⟩ = some (.int .i64 x.line) := by have := hcA.cell _ _ rfl 2 _ rfl; rwa [Nat.zero_add] at this
      have c3 : W1.cell? ⟨wr.heap.size, 3, none⟩ = some (.int .i64 x.frm) := by have := hcA.cell _ _ rfl 3 _ rfl; rwa [Nat.zero_add] at this
      have c4 : W1.cell? ⟨wr.heap.size, 4, none⟩ = some (.int .i64 x.args) := by have := hcA.cell _ _ rfl 4 _ rfl; rwa [Nat.zero_add] at this
      have c5 : W1.cell? ⟨wr.heap.size, 5, none⟩ = some (.int .i64 x.upto) := by have := hcA.cell _ _ rfl 5 _ rfl; rwa [Nat.zero_add] at this
      have c6 : W1.cell? ⟨wr.heap.size, 6, none⟩ = some (.int .i64 x.res) := by have := hcA.cell _ _ rfl 6 _ rfl; rwa [Nat.zero_add] at this
      clear hcA
      have hbs3 : base ≤ W1.heap.size := by have := hx0.size; omega
      clear e0 e1 e2 e3 e4 e5 e6 hx0 hownk hbk hgk
      go_wp2_with fail
      go_loopw [0, 35] (fun u j wi => ∃ q : Nat, q ≤ 7 ∧ j = .int .i64 q ∧ wi.ownsRow base 5 1 u (k0 + (D ++ ((nodeI x).take q).flatMap putI).length) (xs ++ (D ++ ((nodeI x).take q).flatMap putI).map byteC) ∧ Below base w wi ∧ Grow w wi v u ∧ base ≤ wi.heap.size)
        (fun _ j _ => 7 - (intOf j).toNat)
      case atStart => exact ⟨0, Nat.zero_le _, rfl, by simpa using hown3, hbk3, hgk3, hbs3⟩
      case round =>
        clear hown3 hbk3 hgk3 hbs3
        obtain ⟨q, hq, rfl, hownq, hbq, hgq, hbsq⟩ := hrel
        by_cases hql : q < 7
        · have HS2 := Lib.hid (flat_snoc putI (show q < (nodeI x).length from hql))
          have hqb := HN.out ((nodeI x)[q]'hql) (List.getElem_mem _)
          have hi := fun W => run_index_ints (P := Try.prog) (k := .i64) (ki := .i64) (t := 101) (e := 3) (n := 7) Try.underlying101 Try.underlying3 (fun _ => by kernel_rfl) (nodeI x) rfl q hql _ (List.getElem?_eq_getElem (show q < (nodeI x).length from hql)) W
          generalize (nodeI x)[q]'hql = r at *
          obtain ⟨hr1, hr2⟩ := hqb
          have HD2 : Hid (D ++ ((nodeI x).take (q + 1)).flatMap putI = (D ++ ((nodeI x).take q).flatMap putI) ++ putI r) := by rw [Hid, HS2.out, List.append_assoc]
          have hle2 : (D ++ ((nodeI x).take q).flatMap putI).length ≤ D.length + 70 := by
            have := flat_le putI 10 putI_le ((nodeI x).take q)
            rw [List.length_append]; rw [List.length_take] at this; omega
          clear HS2
          generalize D ++ ((nodeI x).take q).flatMap putI = Dq at *
          simp only [nodeI, List.map_cons, List.map_nil] at hi
          go_wp2_with fail
          refine (uvar_PutInt base _ _ _ r _ hownq hbsq (by omega) hr1 hr2).mono ?_
          rintro e w5 ⟨u5, rfl, hown5, hg5⟩
          have hbk5 := below_growU hbq hbsq hownq (Nat.le_refl _) hg5
          have hgk5 := hgq.tr hg5
          have hbs5 : base ≤ w5.heap.size := Nat.le_trans hbsq hg5.size
          have HO5 : Hid (w5.ownsRow base 5 1 u5 (k0 + (Dq ++ putI r).length) (xs ++ (Dq ++ putI r).map byteC)) := by
            rw [Hid, List.length_append, List.map_append, ← List.append_assoc, ← Nat.add_assoc]; exact hown5
          have HG5 := Lib.hid hgk5
          clear hown5 hg5 hgk5 hownq hgq hi
          go_wp2_with fail
          go_roundw
          case rel => exact ⟨q + 1, by omega, by go_num, by rw [HD2.out]; exact HO5.out, hbk5, HG5.out, hbs5⟩
          case measure => simp [intOf]; omega
        · obtain rfl : q = 7 := by omega
          rw [List.take_of_length_le (show (nodeI x).length ≤ 7 from Nat.le_refl _)] at hownq
          have HO6 := Lib.hid hownq
          have HG6 := Lib.hid hgq
          clear hownq hgq
          go_wp2_with fail
          go_roundw
          case rel => exact ⟨k + 1, by omega, by go_num, by rw [HD.out]; exact HO6.out, hbq, HG6.out, hbsq⟩
          case measure => simp [intOf]; omega
    · obtain rfl : k = l.length := by omega
      rw [List.take_of_length_le (Nat.le_refl _)] at hownk
      obtain ⟨ro, rc, rfl⟩ := own_form hownk
      have HO6 := Lib.hid hownk
      have HG6 := Lib.hid hgk
      clear hownk hgk
      go_wp2_with fail
      go_ret
      exact ⟨_, rfl, by rw [HT.out]; exact HO6.out, HG6.out⟩
end Go.Proofs.Ytofdkhilapmccaa
