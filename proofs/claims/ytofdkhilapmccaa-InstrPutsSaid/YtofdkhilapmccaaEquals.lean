/- Whether two slices of structs, or of arrays, are the same: slices.Equal and the references' loops. -/
import Derived.Test.YtofdkhilapmccaaData
import Derived.Test.YtofdkhilapmccaaStructQ
namespace Go.Proofs.Ytofdkhilapmccaa
open Go.RowKit


set_option maxHeartbeats 2000000 in
set_option maxRecDepth 20000 in
theorem node_Equal (ao bo : Option Addr) (ca cb : Nat) (l m : List NodeT) (w : World) (hl : Cells w ao (l.flatMap nodeC)) (hm : Cells w bo (m.flatMap nodeC)) (hlen : l.length ≤ 17592186044416) (hmen : m.length ≤ 17592186044416) :
    Calls Try.prog 72 #[.slice ao l.length ca, .slice bo m.length cb] w fun e w' => e = .returned (.bool (decide (l = m))) ∧ Ext w w' := by
  by_cases hlm : l.length = m.length
  · have HLM := Lib.hid hlm
    have t0 : ((l.length : Int) != (m.length : Int)) = false := by simp [hlm]
    clear hlm
    go_enter Try.func72, Try.ntmps72
    go_wp2
    go_loopw [13] (fun i wr => ∃ k : Nat, k ≤ l.length ∧ i = .int .i64 k ∧ Ext w wr ∧ Hid (∀ j < k, l[j]? = m[j]?))
      (fun i _ => l.length - (intOf i).toNat)
    case atStart => exact ⟨0, Nat.zero_le _, rfl, Ext.rf w, Lib.hid (by intro j hj; omega)⟩
    case round =>
      obtain ⟨k, hk, rfl, hext, hsame⟩ := hrel
      by_cases hlt : k < l.length
      · have hlt2 : k < m.length := by rw [← HLM.out]; exact hlt
        obtain ⟨b, off, rfl, hc⟩ := (hl.ext hext).flat (enc := nodeC) (size := 7) (fun _ => rfl) hlt (by decide)
        obtain ⟨b', off', rfl, hd⟩ := (hm.ext hext).flat (enc := nodeC) (size := 7) (fun _ => rfl) hlt2 (by decide)
        have i1 : (0 : Int) ≤ k := by omega
        have i2 : (k : Int) < l.length := by omega
        have i3 : (k : Int) < m.length := by omega
        have HP : Hid (l[k]? = some l[k]) := List.getElem?_eq_getElem hlt
        have HQ : Hid (m[k]? = some m[k]) := List.getElem?_eq_getElem hlt2
        generalize l[k] = p at *
        generalize m[k] = q at *
        have c0 : wr.cell? ⟨b, off + k * 7, none⟩ = some (.int .i64 p.par) := by exact hc 0 _ rfl
        have c1 : wr.cell? ⟨b, off + k * 7 + 1, none⟩ = some (.int .i64 p.fn) := by rw [Nat.add_assoc]; exact hc 1 _ rfl
        have c2 : wr.cell? ⟨b, off + k * 7 + 2, none⟩ = some (.int .i64 p.line) := by rw [Nat.add_assoc]; exact hc 2 _ rfl
        have c3 : wr.cell? ⟨b, off + k * 7 + 3, none⟩ = some (.int .i64 p.frm) := by rw [Nat.add_assoc]; exact hc 3 _ rfl
        have c4 : wr.cell? ⟨b, off + k * 7 + 4, none⟩ = some (.int .i64 p.args) := by rw [Nat.add_assoc]; exact hc 4 _ rfl
        have c5 : wr.cell? ⟨b, off + k * 7 + 5, none⟩ = some (.int .i64 p.upto) := by rw [Nat.add_assoc]; exact hc 5 _ rfl
        have c6 : wr.cell? ⟨b, off + k * 7 + 6, none⟩ = some (.int .i64 p.res) := by rw [Nat.add_assoc]; exact hc 6 _ rfl
        have d0 : wr.cell? ⟨b', off' + k * 7, none⟩ = some (.int .i64 q.par) := by exact hd 0 _ rfl
        have d1 : wr.cell? ⟨b', off' + k * 7 + 1, none⟩ = some (.int .i64 q.fn) := by rw [Nat.add_assoc]; exact hd 1 _ rfl
        have d2 : wr.cell? ⟨b', off' + k * 7 + 2, none⟩ = some (.int .i64 q.line) := by rw [Nat.add_assoc]; exact hd 2 _ rfl
        have d3 : wr.cell? ⟨b', off' + k * 7 + 3, none⟩ = some (.int .i64 q.frm) := by rw [Nat.add_assoc]; exact hd 3 _ rfl
        have d4 : wr.cell? ⟨b', off' + k * 7 + 4, none⟩ = some (.int .i64 q.args) := by rw [Nat.add_assoc]; exact hd 4 _ rfl
        have d5 : wr.cell? ⟨b', off' + k * 7 + 5, none⟩ = some (.int .i64 q.upto) := by rw [Nat.add_assoc]; exact hd 5 _ rfl
        have d6 : wr.cell? ⟨b', off' + k * 7 + 6, none⟩ = some (.int .i64 q.res) := by rw [Nat.add_assoc]; exact hd 6 _ rfl
        clear hc hd
        have hq : ∀ W, (binOp .neq 87 (.agg #[.int .i64 p.par, .int .i64 p.fn, .int .i64 p.line, .int .i64 p.frm, .int .i64 p.args, .int .i64 p.upto, .int .i64 p.res]) (.agg #[.int .i64 q.par, .int .i64 q.fn, .int .i64 q.line, .int .i64 q.frm, .int .i64 q.args, .int .i64 q.upto, .int .i64 q.res])).run Try.prog W = .ok (.bool (!decide (p = q))) W := fun W => by
          have h := run_neq_ints (P := Try.prog) (k := .i64) (t := 87) (n := 7) (by decide) (by kernel_rfl) W (nodeI p) (nodeI q) rfl rfl
          simp only [nodeI_eq] at h
          exact h
        by_cases hpq : p = q
        · have HE : Hid (p = q) := hpq
          have hdq : (!decide (p = q)) = false := by simp [hpq]
          clear hpq
          go_wp2
          go_quiet (fail)
          go_wp2
          go_roundw
          case rel => exact ⟨k + 1, by omega, by go_num, hext.drN _, Lib.hid (by
            intro j hj
            rcases Nat.lt_succ_iff_lt_or_eq.1 hj with h | rfl
            · exact hsame.out j h
            · rw [HP.out, HQ.out, HE.out])⟩
          case measure => simp [intOf]; omega
        · have HE : Hid (l ≠ m) := fun e => hpq (by have := HP.out; rw [e, HQ.out] at this; exact (Option.some.inj this).symm)
          have hdq : (!decide (p = q)) = true := by simp [hpq]
          clear hpq
          go_wp2
          go_quiet (fail)
          go_wp2
          go_ret
          exact ⟨by simp [HE.out], hext.drN _⟩
      · have HR : Hid (l = m) := by
          refine List.ext_getElem? fun j => ?_
          by_cases h : j < k
          · exact hsame.out j h
          · rw [List.getElem?_eq_none (by omega), List.getElem?_eq_none (by have := HLM.out; omega)]
        clear hsame
        go_wp2
        go_ret
        exact ⟨by simp [HR.out], hext⟩
  · have t0 : ((l.length : Int) != (m.length : Int)) = true := by rw [bne_iff_ne]; omega
    have HR : Hid (l ≠ m) := fun e => hlm (by rw [e])
    clear hlm
    go_enter Try.func72, Try.ntmps72
    go_wp2
    go_ret
    exact ⟨by simp [HR.out], Ext.rf _⟩


set_option maxHeartbeats 2000000 in
set_option maxRecDepth 20000 in
theorem noderef_Same (ao bo : Option Addr) (ca cb : Nat) (l m : List NodeT) (w : World) (hl : Cells w ao (l.flatMap nodeC)) (hm : Cells w bo (m.flatMap nodeC)) (hlen : l.length ≤ 17592186044416) (hmen : m.length ≤ 17592186044416) :
    Calls Try.prog 55 #[.slice ao l.length ca, .slice bo m.length cb] w fun e w' => e = .returned (.bool (decide (l = m))) ∧ Ext w w' := by
  by_cases hlm : l.length = m.length
  · have HLM := Lib.hid hlm
    have t0 : ((l.length : Int) != (m.length : Int)) = false := by simp [hlm]
    clear hlm
    go_enter Try.func55, Try.ntmps55
    go_wp2
    go_loopw [5] (fun i wr => ∃ k : Nat, k ≤ l.length ∧ i = .int .i64 k ∧ Ext w wr ∧ Hid (∀ j < k, l[j]? = m[j]?))
      (fun i _ => l.length - (intOf i).toNat)
    case atStart => exact ⟨0, Nat.zero_le _, rfl, Ext.rf w, Lib.hid (by intro j hj; omega)⟩
    case round =>
      obtain ⟨k, hk, rfl, hext, hsame⟩ := hrel
      by_cases hlt : k < l.length
      · have hlt2 : k < m.length := by rw [← HLM.out]; exact hlt
        obtain ⟨b, off, rfl, hc⟩ := (hl.ext hext).flat (enc := nodeC) (size := 7) (fun _ => rfl) hlt (by decide)
        obtain ⟨b', off', rfl, hd⟩ := (hm.ext hext).flat (enc := nodeC) (size := 7) (fun _ => rfl) hlt2 (by decide)
        have i1 : (0 : Int) ≤ k := by omega
        have i2 : (k : Int) < l.length := by omega
        have i3 : (k : Int) < m.length := by omega
        have HP : Hid (l[k]? = some l[k]) := List.getElem?_eq_getElem hlt
        have HQ : Hid (m[k]? = some m[k]) := List.getElem?_eq_getElem hlt2
        generalize l[k] = p at *
        generalize m[k] = q at *
        have c0 : wr.cell? ⟨b, off + k * 7, none⟩ = some (.int .i64 p.par) := by exact hc 0 _ rfl
        have c1 : wr.cell? ⟨b, off + k * 7 + 1, none⟩ = some (.int .i64 p.fn) := by rw [Nat.add_assoc]; exact hc 1 _ rfl
        have c2 : wr.cell? ⟨b, off + k * 7 + 2, none⟩ = some (.int .i64 p.line) := by rw [Nat.add_assoc]; exact hc 2 _ rfl
        have c3 : wr.cell? ⟨b, off + k * 7 + 3, none⟩ = some (.int .i64 p.frm) := by rw [Nat.add_assoc]; exact hc 3 _ rfl
        have c4 : wr.cell? ⟨b, off + k * 7 + 4, none⟩ = some (.int .i64 p.args) := by rw [Nat.add_assoc]; exact hc 4 _ rfl
        have c5 : wr.cell? ⟨b, off + k * 7 + 5, none⟩ = some (.int .i64 p.upto) := by rw [Nat.add_assoc]; exact hc 5 _ rfl
        have c6 : wr.cell? ⟨b, off + k * 7 + 6, none⟩ = some (.int .i64 p.res) := by rw [Nat.add_assoc]; exact hc 6 _ rfl
        have d0 : wr.cell? ⟨b', off' + k * 7, none⟩ = some (.int .i64 q.par) := by exact hd 0 _ rfl
        have d1 : wr.cell? ⟨b', off' + k * 7 + 1, none⟩ = some (.int .i64 q.fn) := by rw [Nat.add_assoc]; exact hd 1 _ rfl
        have d2 : wr.cell? ⟨b', off' + k * 7 + 2, none⟩ = some (.int .i64 q.line) := by rw [Nat.add_assoc]; exact hd 2 _ rfl
        have d3 : wr.cell? ⟨b', off' + k * 7 + 3, none⟩ = some (.int .i64 q.frm) := by rw [Nat.add_assoc]; exact hd 3 _ rfl
        have d4 : wr.cell? ⟨b', off' + k * 7 + 4, none⟩ = some (.int .i64 q.args) := by rw [Nat.add_assoc]; exact hd 4 _ rfl
        have d5 : wr.cell? ⟨b', off' + k * 7 + 5, none⟩ = some (.int .i64 q.upto) := by rw [Nat.add_assoc]; exact hd 5 _ rfl
        have d6 : wr.cell? ⟨b', off' + k * 7 + 6, none⟩ = some (.int .i64 q.res) := by rw [Nat.add_assoc]; exact hd 6 _ rfl
        clear hc hd
        have hq : ∀ W, (binOp .neq 87 (.agg #[.int .i64 p.par, .int .i64 p.fn, .int .i64 p.line, .int .i64 p.frm, .int .i64 p.args, .int .i64 p.upto, .int .i64 p.res]) (.agg #[.int .i64 q.par, .int .i64 q.fn, .int .i64 q.line, .int .i64 q.frm, .int .i64 q.args, .int .i64 q.upto, .int .i64 q.res])).run Try.prog W = .ok (.bool (!decide (p = q))) W := fun W => by
          have h := run_neq_ints (P := Try.prog) (k := .i64) (t := 87) (n := 7) (by decide) (by kernel_rfl) W (nodeI p) (nodeI q) rfl rfl
          simp only [nodeI_eq] at h
          exact h
        by_cases hpq : p = q
        · have HE : Hid (p = q) := hpq
          have hdq : (!decide (p = q)) = false := by simp [hpq]
          clear hpq
          go_wp2
          go_quiet (fail)
          go_wp2
          go_roundw
          case rel => exact ⟨k + 1, by omega, by go_num, hext.drN _, Lib.hid (by
            intro j hj
            rcases Nat.lt_succ_iff_lt_or_eq.1 hj with h | rfl
            · exact hsame.out j h
            · rw [HP.out, HQ.out, HE.out])⟩
          case measure => simp [intOf]; omega
        · have HE : Hid (l ≠ m) := fun e => hpq (by have := HP.out; rw [e, HQ.out] at this; exact (Option.some.inj this).symm)
          have hdq : (!decide (p = q)) = true := by simp [hpq]
          clear hpq
          go_wp2
          go_quiet (fail)
          go_wp2
          go_ret
          exact ⟨by simp [HE.out], hext.drN _⟩
      · have HR : Hid (l = m) := by
          refine List.ext_getElem? fun j => ?_
          by_cases h : j < k
          · exact hsame.out j h
          · rw [List.getElem?_eq_none (by omega), List.getElem?_eq_none (by have := HLM.out; omega)]
        clear hsame
        go_wp2
        go_ret
        exact ⟨by simp [HR.out], hext⟩
  · have t0 : ((l.length : Int) != (m.length : Int)) = true := by rw [bne_iff_ne]; omega
    have HR : Hid (l ≠ m) := fun e => hlm (by rw [e])
    clear hlm
    go_enter Try.func55, Try.ntmps55
    go_wp2
    go_ret
    exact ⟨by simp [HR.out], Ext.rf _⟩


set_option maxHeartbeats 2000000 in
set_option maxRecDepth 20000 in
theorem set_Equal (ao bo : Option Addr) (ca cb : Nat) (l m : List SetT) (w : World) (hl : Cells w ao (l.flatMap setC)) (hm : Cells w bo (m.flatMap setC)) (hlen : l.length ≤ 17592186044416) (hmen : m.length ≤ 17592186044416) :
    Calls Try.prog 73 #[.slice ao l.length ca, .slice bo m.length cb] w fun e w' => e = .returned (.bool (decide (l = m))) ∧ Ext w w' := by
  by_cases hlm : l.length = m.length
  · have HLM := Lib.hid hlm
    have t0 : ((l.length : Int) != (m.length : Int)) = false := by simp [hlm]
    clear hlm
    go_enter Try.func73, Try.ntmps73
    go_wp2
    go_loopw [13] (fun i wr => ∃ k : Nat, k ≤ l.length ∧ i = .int .i64 k ∧ Ext w wr ∧ Hid (∀ j < k, l[j]? = m[j]?))
      (fun i _ => l.length - (intOf i).toNat)
    case atStart => exact ⟨0, Nat.zero_le _, rfl, Ext.rf w, Lib.hid (by intro j hj; omega)⟩
    case round =>
      obtain ⟨k, hk, rfl, hext, hsame⟩ := hrel
      by_cases hlt : k < l.length
      · have hlt2 : k < m.length := by rw [← HLM.out]; exact hlt
        obtain ⟨b, off, rfl, hc⟩ := (hl.ext hext).flat (enc := setC) (size := 4) (fun _ => rfl) hlt (by decide)
        obtain ⟨b', off', rfl, hd⟩ := (hm.ext hext).flat (enc := setC) (size := 4) (fun _ => rfl) hlt2 (by decide)
        have i1 : (0 : Int) ≤ k := by omega
        have i2 : (k : Int) < l.length := by omega
        have i3 : (k : Int) < m.length := by omega
        have HP : Hid (l[k]? = some l[k]) := List.getElem?_eq_getElem hlt
        have HQ : Hid (m[k]? = some m[k]) := List.getElem?_eq_getElem hlt2
        generalize l[k] = p at *
        generalize m[k] = q at *
        have c0 : wr.cell? ⟨b, off + k * 4, none⟩ = some (.int .u64 p.a) := by exact hc 0 _ rfl
        have c1 : wr.cell? ⟨b, off + k * 4 + 1, none⟩ = some (.int .u64 p.b) := by rw [Nat.add_assoc]; exact hc 1 _ rfl
        have c2 : wr.cell? ⟨b, off + k * 4 + 2, none⟩ = some (.int .u64 p.c) := by rw [Nat.add_assoc]; exact hc 2 _ rfl
        have c3 : wr.cell? ⟨b, off + k * 4 + 3, none⟩ = some (.int .u64 p.d) := by rw [Nat.add_assoc]; exact hc 3 _ rfl
        have d0 : wr.cell? ⟨b', off' + k * 4, none⟩ = some (.int .u64 q.a) := by exact hd 0 _ rfl
        have d1 : wr.cell? ⟨b', off' + k * 4 + 1, none⟩ = some (.int .u64 q.b) := by rw [Nat.add_assoc]; exact hd 1 _ rfl
        have d2 : wr.cell? ⟨b', off' + k * 4 + 2, none⟩ = some (.int .u64 q.c) := by rw [Nat.add_assoc]; exact hd 2 _ rfl
        have d3 : wr.cell? ⟨b', off' + k * 4 + 3, none⟩ = some (.int .u64 q.d) := by rw [Nat.add_assoc]; exact hd 3 _ rfl
        clear hc hd
        have hq : ∀ W, (binOp .neq 43 (.agg #[.int .u64 p.a, .int .u64 p.b, .int .u64 p.c, .int .u64 p.d]) (.agg #[.int .u64 q.a, .int .u64 q.b, .int .u64 q.c, .int .u64 q.d])).run Try.prog W = .ok (.bool (!decide (p = q))) W := fun W => by
          have h := run_neq_arr (P := Try.prog) (k := .u64) (t := 43) (e := 41) (n := 4) Try.underlying43 Try.underlying41 (fun _ => by kernel_rfl) W (setI p) (setI q) rfl rfl
          simp only [setI_eq] at h
          exact h
        by_cases hpq : p = q
        · have HE : Hid (p = q) := hpq
          have hdq : (!decide (p = q)) = false := by simp [hpq]
          clear hpq
          go_wp2
          go_quiet (fail)
          go_wp2
          go_roundw
          case rel => exact ⟨k + 1, by omega, by go_num, hext.drN _, Lib.hid (by
            intro j hj
            rcases Nat.lt_succ_iff_lt_or_eq.1 hj with h | rfl
            · exact hsame.out j h
            · rw [HP.out, HQ.out, HE.out])⟩
          case measure => simp [intOf]; omega
        · have HE : Hid (l ≠ m) := fun e => hpq (by have := HP.out; rw [e, HQ.out] at this; exact (Option.some.inj this).symm)
          have hdq : (!decide (p = q)) = true := by simp [hpq]
          clear hpq
          go_wp2
          go_quiet (fail)
          go_wp2
          go_ret
          exact ⟨by simp [HE.out], hext.drN _⟩
      · have HR : Hid (l = m) := by
          refine List.ext_getElem? fun j => ?_
          by_cases h : j < k
          · exact hsame.out j h
          · rw [List.getElem?_eq_none (by omega), List.getElem?_eq_none (by have := HLM.out; omega)]
        clear hsame
        go_wp2
        go_ret
        exact ⟨by simp [HR.out], hext⟩
  · have t0 : ((l.length : Int) != (m.length : Int)) = true := by rw [bne_iff_ne]; omega
    have HR : Hid (l ≠ m) := fun e => hlm (by rw [e])
    clear hlm
    go_enter Try.func73, Try.ntmps73
    go_wp2
    go_ret
    exact ⟨by simp [HR.out], Ext.rf _⟩


set_option maxHeartbeats 2000000 in
set_option maxRecDepth 20000 in
theorem setref_Same (ao bo : Option Addr) (ca cb : Nat) (l m : List SetT) (w : World) (hl : Cells w ao (l.flatMap setC)) (hm : Cells w bo (m.flatMap setC)) (hlen : l.length ≤ 17592186044416) (hmen : m.length ≤ 17592186044416) :
    Calls Try.prog 76 #[.slice ao l.length ca, .slice bo m.length cb] w fun e w' => e = .returned (.bool (decide (l = m))) ∧ Ext w w' := by
  by_cases hlm : l.length = m.length
  · have HLM := Lib.hid hlm
    have t0 : ((l.length : Int) != (m.length : Int)) = false := by simp [hlm]
    clear hlm
    go_enter Try.func76, Try.ntmps76
    go_wp2
    go_loopw [5] (fun i wr => ∃ k : Nat, k ≤ l.length ∧ i = .int .i64 k ∧ Ext w wr ∧ Hid (∀ j < k, l[j]? = m[j]?))
      (fun i _ => l.length - (intOf i).toNat)
    case atStart => exact ⟨0, Nat.zero_le _, rfl, Ext.rf w, Lib.hid (by intro j hj; omega)⟩
    case round =>
      obtain ⟨k, hk, rfl, hext, hsame⟩ := hrel
      by_cases hlt : k < l.length
      · have hlt2 : k < m.length := by rw [← HLM.out]; exact hlt
        obtain ⟨b, off, rfl, hc⟩ := (hl.ext hext).flat (enc := setC) (size := 4) (fun _ => rfl) hlt (by decide)
        obtain ⟨b', off', rfl, hd⟩ := (hm.ext hext).flat (enc := setC) (size := 4) (fun _ => rfl) hlt2 (by decide)
        have i1 : (0 : Int) ≤ k := by omega
        have i2 : (k : Int) < l.length := by omega
        have i3 : (k : Int) < m.length := by omega
        have HP : Hid (l[k]? = some l[k]) := List.getElem?_eq_getElem hlt
        have HQ : Hid (m[k]? = some m[k]) := List.getElem?_eq_getElem hlt2
        generalize l[k] = p at *
        generalize m[k] = q at *
        have c0 : wr.cell? ⟨b, off + k * 4, none⟩ = some (.int .u64 p.a) := by exact hc 0 _ rfl
        have c1 : wr.cell? ⟨b, off + k * 4 + 1, none⟩ = some (.int .u64 p.b) := by rw [Nat.add_assoc]; exact hc 1 _ rfl
        have c2 : wr.cell? ⟨b, off + k * 4 + 2, none⟩ = some (.int .u64 p.c) := by rw [Nat.add_assoc]; exact hc 2 _ rfl
        have c3 : wr.cell? ⟨b, off + k * 4 + 3, none⟩ = some (.int .u64 p.d) := by rw [Nat.add_assoc]; exact hc 3 _ rfl
        have d0 : wr.cell? ⟨b', off' + k * 4, none⟩ = some (.int .u64 q.a) := by exact hd 0 _ rfl
        have d1 : wr.cell? ⟨b', off' + k * 4 + 1, none⟩ = some (.int .u64 q.b) := by rw [Nat.add_assoc]; exact hd 1 _ rfl
        have d2 : wr.cell? ⟨b', off' + k * 4 + 2, none⟩ = some (.int .u64 q.c) := by rw [Nat.add_assoc]; exact hd 2 _ rfl
        have d3 : wr.cell? ⟨b', off' + k * 4 + 3, none⟩ = some (.int .u64 q.d) := by rw [Nat.add_assoc]; exact hd 3 _ rfl
        clear hc hd
        have hq : ∀ W, (binOp .neq 43 (.agg #[.int .u64 p.a, .int .u64 p.b, .int .u64 p.c, .int .u64 p.d]) (.agg #[.int .u64 q.a, .int .u64 q.b, .int .u64 q.c, .int .u64 q.d])).run Try.prog W = .ok (.bool (!decide (p = q))) W := fun W => by
          have h := run_neq_arr (P := Try.prog) (k := .u64) (t := 43) (e := 41) (n := 4) Try.underlying43 Try.underlying41 (fun _ => by kernel_rfl) W (setI p) (setI q) rfl rfl
          simp only [setI_eq] at h
          exact h
        by_cases hpq : p = q
        · have HE : Hid (p = q) := hpq
          have hdq : (!decide (p = q)) = false := by simp [hpq]
          clear hpq
          go_wp2
          go_quiet (fail)
          go_wp2
          go_roundw
          case rel => exact ⟨k + 1, by omega, by go_num, hext.drN _, Lib.hid (by
            intro j hj
            rcases Nat.lt_succ_iff_lt_or_eq.1 hj with h | rfl
            · exact hsame.out j h
            · rw [HP.out, HQ.out, HE.out])⟩
          case measure => simp [intOf]; omega
        · have HE : Hid (l ≠ m) := fun e => hpq (by have := HP.out; rw [e, HQ.out] at this; exact (Option.some.inj this).symm)
          have hdq : (!decide (p = q)) = true := by simp [hpq]
          clear hpq
          go_wp2
          go_quiet (fail)
          go_wp2
          go_ret
          exact ⟨by simp [HE.out], hext.drN _⟩
      · have HR : Hid (l = m) := by
          refine List.ext_getElem? fun j => ?_
          by_cases h : j < k
          · exact hsame.out j h
          · rw [List.getElem?_eq_none (by omega), List.getElem?_eq_none (by have := HLM.out; omega)]
        clear hsame
        go_wp2
        go_ret
        exact ⟨by simp [HR.out], hext⟩
  · have t0 : ((l.length : Int) != (m.length : Int)) = true := by rw [bne_iff_ne]; omega
    have HR : Hid (l ≠ m) := fun e => hlm (by rw [e])
    clear hlm
    go_enter Try.func76, Try.ntmps76
    go_wp2
    go_ret
    exact ⟨by simp [HR.out], Ext.rf _⟩


set_option maxHeartbeats 2000000 in
set_option maxRecDepth 20000 in
theorem instr_Equal (ao bo : Option Addr) (ca cb : Nat) (l m : List InstrT) (w : World) (hl : Cells w ao (l.flatMap pairC)) (hm : Cells w bo (m.flatMap pairC)) (hlen : l.length ≤ 17592186044416) (hmen : m.length ≤ 17592186044416) :
    Calls Try.prog 70 #[.slice ao l.length ca, .slice bo m.length cb] w fun e w' => e = .returned (.bool (decide (l = m))) ∧ Ext w w' := by
  by_cases hlm : l.length = m.length
  · have HLM := Lib.hid hlm
    have t0 : ((l.length : Int) != (m.length : Int)) = false := by simp [hlm]
    clear hlm
    go_enter Try.func70, Try.ntmps70
    go_wp2
    go_loopw [13] (fun i wr => ∃ k : Nat, k ≤ l.length ∧ i = .int .i64 k ∧ Ext w wr ∧ Hid (∀ j < k, l[j]? = m[j]?))
      (fun i _ => l.length - (intOf i).toNat)
    case atStart => exact ⟨0, Nat.zero_le _, rfl, Ext.rf w, Lib.hid (by intro j hj; omega)⟩
    case round =>
      obtain ⟨k, hk, rfl, hext, hsame⟩ := hrel
      by_cases hlt : k < l.length
      · have hlt2 : k < m.length := by rw [← HLM.out]; exact hlt
        obtain ⟨b, off, rfl, hc⟩ := (hl.ext hext).flat (enc := pairC) (size := 2) (fun _ => rfl) hlt (by decide)
        obtain ⟨b', off', rfl, hd⟩ := (hm.ext hext).flat (enc := pairC) (size := 2) (fun _ => rfl) hlt2 (by decide)
        have i1 : (0 : Int) ≤ k := by omega
        have i2 : (k : Int) < l.length := by omega
        have i3 : (k : Int) < m.length := by omega
        have HP : Hid (l[k]? = some l[k]) := List.getElem?_eq_getElem hlt
        have HQ : Hid (m[k]? = some m[k]) := List.getElem?_eq_getElem hlt2
        generalize l[k] = p at *
        generalize m[k] = q at *
        have c0 : wr.cell? ⟨b, off + k * 2, none⟩ = some (.int .i64 p.1) := by exact hc 0 _ rfl
        have c1 : wr.cell? ⟨b, off + k * 2 + 1, none⟩ = some (.int .i64 p.2) := by rw [Nat.add_assoc]; exact hc 1 _ rfl
        have d0 : wr.cell? ⟨b', off' + k * 2, none⟩ = some (.int .i64 q.1) := by exact hd 0 _ rfl
        have d1 : wr.cell? ⟨b', off' + k * 2 + 1, none⟩ = some (.int .i64 q.2) := by rw [Nat.add_assoc]; exact hd 1 _ rfl
        clear hc hd
        have hq : ∀ W, (binOp .neq 49 (.agg #[.int .i64 p.1, .int .i64 p.2]) (.agg #[.int .i64 q.1, .int .i64 q.2])).run Try.prog W = .ok (.bool (!decide (p = q))) W := fun W => by
          have h := run_neq_ints (P := Try.prog) (k := .i64) (t := 49) (n := 2) (by decide) (by kernel_rfl) W (instrI p) (instrI q) rfl rfl
          simp only [instrI_eq] at h
          exact h
        by_cases hpq : p = q
        · have HE : Hid (p = q) := hpq
          have hdq : (!decide (p = q)) = false := by simp [hpq]
          clear hpq
          go_wp2
          go_quiet (fail)
          go_wp2
          go_roundw
          case rel => exact ⟨k + 1, by omega, by go_num, hext.drN _, Lib.hid (by
            intro j hj
            rcases Nat.lt_succ_iff_lt_or_eq.1 hj with h | rfl
            · exact hsame.out j h
            · rw [HP.out, HQ.out, HE.out])⟩
          case measure => simp [intOf]; omega
        · have HE : Hid (l ≠ m) := fun e => hpq (by have := HP.out; rw [e, HQ.out] at this; exact (Option.some.inj this).symm)
          have hdq : (!decide (p = q)) = true := by simp [hpq]
          clear hpq
          go_wp2
          go_quiet (fail)
          go_wp2
          go_ret
          exact ⟨by simp [HE.out], hext.drN _⟩
      · have HR : Hid (l = m) := by
          refine List.ext_getElem? fun j => ?_
          by_cases h : j < k
          · exact hsame.out j h
          · rw [List.getElem?_eq_none (by omega), List.getElem?_eq_none (by have := HLM.out; omega)]
        clear hsame
        go_wp2
        go_ret
        exact ⟨by simp [HR.out], hext⟩
  · have t0 : ((l.length : Int) != (m.length : Int)) = true := by rw [bne_iff_ne]; omega
    have HR : Hid (l ≠ m) := fun e => hlm (by rw [e])
    clear hlm
    go_enter Try.func70, Try.ntmps70
    go_wp2
    go_ret
    exact ⟨by simp [HR.out], Ext.rf _⟩


set_option maxHeartbeats 2000000 in
set_option maxRecDepth 20000 in
theorem instrref_Code (ao bo : Option Addr) (ca cb : Nat) (l m : List InstrT) (w : World) (hl : Cells w ao (l.flatMap pairC)) (hm : Cells w bo (m.flatMap pairC)) (hlen : l.length ≤ 17592186044416) (hmen : m.length ≤ 17592186044416) :
    Calls Try.prog 75 #[.slice ao l.length ca, .slice bo m.length cb] w fun e w' => e = .returned (.bool (decide (l = m))) ∧ Ext w w' := by
  by_cases hlm : l.length = m.length
  · have HLM := Lib.hid hlm
    have t0 : ((l.length : Int) != (m.length : Int)) = false := by simp [hlm]
    clear hlm
    go_enter Try.func75, Try.ntmps75
    go_wp2
    go_loopw [5] (fun i wr => ∃ k : Nat, k ≤ l.length ∧ i = .int .i64 k ∧ Ext w wr ∧ Hid (∀ j < k, l[j]? = m[j]?))
      (fun i _ => l.length - (intOf i).toNat)
    case atStart => exact ⟨0, Nat.zero_le _, rfl, Ext.rf w, Lib.hid (by intro j hj; omega)⟩
    case round =>
      obtain ⟨k, hk, rfl, hext, hsame⟩ := hrel
      by_cases hlt : k < l.length
      · have hlt2 : k < m.length := by rw [← HLM.out]; exact hlt
        obtain ⟨b, off, rfl, hc⟩ := (hl.ext hext).flat (enc := pairC) (size := 2) (fun _ => rfl) hlt (by decide)
        obtain ⟨b', off', rfl, hd⟩ := (hm.ext hext).flat (enc := pairC) (size := 2) (fun _ => rfl) hlt2 (by decide)
        have i1 : (0 : Int) ≤ k := by omega
        have i2 : (k : Int) < l.length := by omega
        have i3 : (k : Int) < m.length := by omega
        have HP : Hid (l[k]? = some l[k]) := List.getElem?_eq_getElem hlt
        have HQ : Hid (m[k]? = some m[k]) := List.getElem?_eq_getElem hlt2
        generalize l[k] = p at *
        generalize m[k] = q at *
        have c0 : wr.cell? ⟨b, off + k * 2, none⟩ = some (.int .i64 p.1) := by exact hc 0 _ rfl
        have c1 : wr.cell? ⟨b, off + k * 2 + 1, none⟩ = some (.int .i64 p.2) := by rw [Nat.add_assoc]; exact hc 1 _ rfl
        have d0 : wr.cell? ⟨b', off' + k * 2, none⟩ = some (.int .i64 q.1) := by exact hd 0 _ rfl
        have d1 : wr.cell? ⟨b', off' + k * 2 + 1, none⟩ = some (.int .i64 q.2) := by rw [Nat.add_assoc]; exact hd 1 _ rfl
        clear hc hd
        have hq : ∀ W, (binOp .neq 49 (.agg #[.int .i64 p.1, .int .i64 p.2]) (.agg #[.int .i64 q.1, .int .i64 q.2])).run Try.prog W = .ok (.bool (!decide (p = q))) W := fun W => by
          have h := run_neq_ints (P := Try.prog) (k := .i64) (t := 49) (n := 2) (by decide) (by kernel_rfl) W (instrI p) (instrI q) rfl rfl
          simp only [instrI_eq] at h
          exact h
        by_cases hpq : p = q
        · have HE : Hid (p = q) := hpq
          have hdq : (!decide (p = q)) = false := by simp [hpq]
          clear hpq
          go_wp2
          go_quiet (fail)
          go_wp2
          go_roundw
          case rel => exact ⟨k + 1, by omega, by go_num, hext.drN _, Lib.hid (by
            intro j hj
            rcases Nat.lt_succ_iff_lt_or_eq.1 hj with h | rfl
            · exact hsame.out j h
            · rw [HP.out, HQ.out, HE.out])⟩
          case measure => simp [intOf]; omega
        · have HE : Hid (l ≠ m) := fun e => hpq (by have := HP.out; rw [e, HQ.out] at this; exact (Option.some.inj this).symm)
          have hdq : (!decide (p = q)) = true := by simp [hpq]
          clear hpq
          go_wp2
          go_quiet (fail)
          go_wp2
          go_ret
          exact ⟨by simp [HE.out], hext.drN _⟩
      · have HR : Hid (l = m) := by
          refine List.ext_getElem? fun j => ?_
          by_cases h : j < k
          · exact hsame.out j h
          · rw [List.getElem?_eq_none (by omega), List.getElem?_eq_none (by have := HLM.out; omega)]
        clear hsame
        go_wp2
        go_ret
        exact ⟨by simp [HR.out], hext⟩
  · have t0 : ((l.length : Int) != (m.length : Int)) = true := by rw [bne_iff_ne]; omega
    have HR : Hid (l ≠ m) := fun e => hlm (by rw [e])
    clear hlm
    go_enter Try.func75, Try.ntmps75
    go_wp2
    go_ret
    exact ⟨by simp [HR.out], Ext.rf _⟩

end Go.Proofs.Ytofdkhilapmccaa
