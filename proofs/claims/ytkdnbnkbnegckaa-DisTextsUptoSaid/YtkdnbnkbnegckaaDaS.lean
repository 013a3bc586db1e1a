/- The texts of programs: what the lifted functions come to. -/
import Derived.Test.YtkdnbnkbnegckaaDa
import Derived.Test.YtkdnbnkbnegckaaLfS
namespace Go.Proofs.Ytkdnbnkbnegckaa
open Go.RowKit
set_option maxRecDepth 20000
abbrev Nd := Int × (Int × (Int × (Int × (Int × (Int × Int)))))
abbrev St := Int × (Int × (Int × Int))
abbrev Fn := List UInt8 × (Bool × (List Int × (List Int × (List Int × (List Int × (List (Int × Int) × (List Int × (List Nd × (List Int × List St)))))))))
def atL (l : List Int) (i : Nat) : Int := l[i]?.getD 0
def instT (lines : List Int) (p : (Int × Int) × Nat) : List UInt8 := decB (atL lines p.2) ++ 32 :: (textI p.1 ++ [10])
def codeT (lines : List Int) (code : List (Int × Int)) : List UInt8 := code.zipIdx.flatMap (instT lines)
def headT (name : List UInt8) (inner : Bool) (outer params results locals : List Int) : List UInt8 := [102, 117, 110, 99] ++ 32 :: (name ++ 32 :: (textB params ++ 32 :: (textB results ++ 32 :: (textB locals ++ (if inner = true then 32 :: textB outer else [])))))
def funcT (f : Fn) : List UInt8 := headT f.1 f.2.1 f.2.2.1 f.2.2.2.1 f.2.2.2.2.1 f.2.2.2.2.2.1 ++ 10 :: (codeT f.2.2.2.2.2.2.2.1 f.2.2.2.2.2.2.1 ++ [101, 110, 100, 10])
theorem textB_le (l : List Int) : (textB l).length ≤ l.length + 1 := by
  unfold textB
  split <;> simp
theorem headT_le {name : List UInt8} {inner : Bool} {outer params results locals : List Int} : (headT name inner outer params results locals).length ≤ name.length + outer.length + params.length + results.length + locals.length + 20 := by
  have h1 := textB_le outer
  have h2 := textB_le params
  have h3 := textB_le results
  have h4 := textB_le locals
  unfold headT
  cases inner <;> simp <;> omega
/-- The lists are no longer than there is room for. -/
def RoomF (name : List UInt8) (outer params results locals : List Int) : Prop := name.length ≤ 100000000 ∧ outer.length ≤ 1000000 ∧ params.length ≤ 1000000 ∧ results.length ≤ 1000000 ∧ locals.length ≤ 1000000
section
variable {name : List UInt8} {inner : Bool} {outer params results locals lines at' : List Int} {code : List (Int × Int)} {nodes : List Nd} {live : List St}
theorem sp_sText {l : List Int} (h : l.length ≤ 1000000) : S_sig_Text l = some (textB l, ()) := by simp [S_sig_Text, h]
theorem sp_rsText {l : List Int} (h : l.length ≤ 1000000) : S_ref11_Text l = some (textB l, ()) := by simp [S_ref11_Text, h]
theorem sp_join {l : List (List UInt8)} {s : List UInt8} (h0 : 1 ≤ l.length) (h : l.length ≤ 1000000) (h2 : (Lib.join l s).length ≤ 140737488355328) : S_strings_Join l s = some (Lib.join l s, ()) := by simp [S_strings_Join, h0, h, h2]
theorem join5 (a b c d e s : List UInt8) : Lib.join [a, b, c, d, e] s = a ++ s ++ (b ++ s ++ (c ++ s ++ (d ++ s ++ e))) := by simp [Lib.join]
theorem join6 (a b c d e f s : List UInt8) : Lib.join [a, b, c, d, e, f] s = a ++ s ++ (b ++ s ++ (c ++ s ++ (d ++ s ++ (e ++ s ++ f)))) := by simp [Lib.join]
theorem sp_head (h : RoomF name outer params results locals) : S_dis_Head name inner outer params results locals code lines nodes at' live = some (headT name inner outer params results locals, ()) := by
  obtain ⟨h0, h1, h2, h3, h4⟩ := h
  refine u_dis_Head (N := 0) ?_
  have hr : room 5 1 16 = true := by decide +kernel
  have hl := headT_le (name := name) (inner := inner) (outer := outer) (params := params) (results := results) (locals := locals)
  cases inner with
  | true =>
    have e : Lib.join [[102, 117, 110, 99], name, textB params, textB results, textB locals, textB outer] [32] = headT name true outer params results locals := by rw [join6]; simp [headT]
    have hJ := sp_join (l := [[102, 117, 110, 99], name, textB params, textB results, textB locals, textB outer]) (s := [32]) (by simp) (by simp) (by rw [e]; omega)
    rw [e] at hJ
    simp [M_dis_Head, sp_sText h1, sp_sText h2, sp_sText h3, sp_sText h4, hr, encL_cons, hJ]
  | false =>
    have e : Lib.join [[102, 117, 110, 99], name, textB params, textB results, textB locals] [32] = headT name false outer params results locals := by rw [join5]; simp [headT]
    have hJ := sp_join (l := [[102, 117, 110, 99], name, textB params, textB results, textB locals]) (s := [32]) (by simp) (by simp) (by rw [e]; omega)
    rw [e] at hJ
    simp [M_dis_Head, sp_sText h1, sp_sText h2, sp_sText h3, sp_sText h4, hr, encL_cons, hJ]
theorem sp_rHead (h : RoomF name outer params results locals) : S_ref18_Head name inner outer params results locals code lines nodes at' live = some (headT name inner outer params results locals, ()) := by
  obtain ⟨h0, h1, h2, h3, h4⟩ := h
  have t1 := textB_le outer
  have t2 := textB_le params
  have t3 := textB_le results
  have t4 := textB_le locals
  refine u_ref18_Head (N := 0) ?_
  cases inner <;> simp [M_ref18_Head, sp_rsText h1, sp_rsText h2, sp_rsText h3, sp_rsText h4, headT] <;> omega
end
/-- A loop that lays one thing after the other. -/
theorem flatMap_le {α : Type} {g : α → List UInt8} {c : Nat} : ∀ {l : List α}, (∀ x ∈ l, (g x).length ≤ c) → (l.flatMap g).length ≤ l.length * c
  | [], _ => by simp
  | x :: l, h => by
    have h1 := h x (by simp)
    have h2 := flatMap_le (l := l) (c := c) fun y hy => h y (by simp [hy])
    simp only [List.flatMap_cons, List.length_append, List.length_cons, Nat.succ_mul]
    omega
theorem iter_lay {α β : Type} {l : List α} {g : α → List UInt8} {c : Nat} {b : List UInt8} {fin : Option β} {f : List UInt8 × (Int × Unit) → (List UInt8 × (Int × Unit) → Option β) → Option β} {N : Nat} (hN : l.length < N) (hl : l.length ≤ 1000000000) (hc : ∀ x ∈ l, (g x).length ≤ c)
    (hf : ∀ (k : Nat) acc again, (hk : k < l.length) → acc.length ≤ b.length + l.length * c → f (acc, ((k : Int), ())) again = again (acc ++ g l[k], (wrp .i64 ((k : Int) + 1), ()))) (he : ∀ again, f (b ++ l.flatMap g, ((l.length : Int), ())) again = fin) : iter f N (b, (0, ())) = fin := by
  refine iter_to (fun d => l.length - d.2.1.toNat) (fun d => ∃ k : Nat, d = (b ++ (l.take k).flatMap g, ((k : Int), ())) ∧ k ≤ l.length) ?_ _ _ ⟨0, by simp, Nat.zero_le _⟩ (by simpa using hN)
  rintro _ again ⟨k, rfl, hk⟩ ih
  by_cases h : k < l.length
  · have hw : wrp .i64 ((k : Int) + 1) = (k : Int) + 1 := wi64 (by omega) (by omega)
    have h1 := flatMap_le (l := l.take k) (g := g) (c := c) fun x hx => hc x (List.mem_of_mem_take hx)
    have h2 : (l.take k).length * c ≤ l.length * c := Nat.mul_le_mul_right _ (by simp; omega)
    rw [hf k _ again h (by simp only [List.length_append]; omega), hw]
    refine ih _ ⟨k + 1, ?_, h⟩ (by simp; omega)
    rw [List.take_succ_eq_append_getElem h, List.flatMap_append, List.flatMap_singleton, List.append_assoc]
    rfl
  · have : k = l.length := by omega
    subst this
    rw [List.take_of_length_le (Nat.le_refl _)]
    exact he again
def I64s (n : Int) : Prop := -9223372036854775808 ≤ n ∧ n ≤ 9223372036854775807
theorem textI_le {p : Int × Int} (h : I64s p.2) : (textI p).length ≤ 32 := by
  have h1 := opNameL_len p.1
  have h2 := decB_len h.1 h.2
  unfold textI
  split
  · split
    · omega
    · simp
      omega
  · simp
theorem instT_le {lines : List Int} {p : (Int × Int) × Nat} (hl : ∀ v ∈ lines, I64s v) (h : I64s p.1.2) : (instT lines p).length ≤ 60 := by
  have h1 : I64s (atL lines p.2) := by
    unfold atL
    cases hq : lines[p.2]? with
    | none => exact ⟨by decide, by decide⟩
    | some v => exact hl v (List.mem_of_getElem? hq)
  have h2 := decB_len h1.1 h1.2
  have h3 := textI_le h
  simp only [instT, List.length_append, List.length_cons, List.length_nil]
  omega
theorem atL_ok {lines : List Int} {i : Nat} (hl : ∀ v ∈ lines, I64s v) : I64s (atL lines i) := by
  unfold atL
  cases hq : lines[i]? with
  | none => exact ⟨by decide, by decide⟩
  | some v => exact hl v (List.mem_of_getElem? hq)
theorem sp_rAt {l : List Int} {i : Nat} : S_ref12_At l (i : Int) = some (atL l i, ()) := by
  refine u_ref12_At (N := 0) ?_
  by_cases h : i < l.length
  · simp [M_ref12_At, show ¬(i : Int) < 0 by omega, show ¬(l.length : Int) ≤ i by omega, atL, h]
  · simp [M_ref12_At, show ¬(i : Int) < 0 by omega, show (l.length : Int) ≤ i by omega, atL, List.getElem?_eq_none (show l.length ≤ i by omega)]
theorem sp_lAt {l : List Int} {i : Nat} : S_lines_At l (i : Int) = some (atL l i, ()) := by
  refine u_lines_At (N := 0) ?_
  by_cases h : i < l.length
  · simp [M_lines_At, show ¬(i : Int) < 0 by omega, show ¬(l.length : Int) ≤ i by omega, atL, h]
  · simp [M_lines_At, show ¬(i : Int) < 0 by omega, show (l.length : Int) ≤ i by omega, atL, List.getElem?_eq_none (show l.length ≤ i by omega)]
theorem sp_rDig {n : Int} (h : I64s n) : S_ref05_Digits n = some (decB n, ()) := by simp [S_ref05_Digits, h.1, h.2]
theorem sp_rInstr {n m : Int} (h : I64s m) : S_ref10_Text n m = some (textI (n, m), ()) := by simp [S_ref10_Text, h.1, h.2]
theorem codeT_le {lines : List Int} {code : List (Int × Int)} (hl : ∀ v ∈ lines, I64s v) (hc : ∀ p ∈ code, I64s p.2) : (codeT lines code).length ≤ code.length * 60 := by
  have := flatMap_le (l := code.zipIdx) (g := instT lines) (c := 60) fun x hx => instT_le hl (hc x.1 (by
    obtain ⟨i, hi, e⟩ := List.mem_iff_getElem.1 hx
    rw [List.getElem_zipIdx] at e
    rw [← e]
    exact List.getElem_mem _))
  rwa [List.length_zipIdx] at this
section
variable {name : List UInt8} {inner : Bool} {outer params results locals lines at' : List Int} {code : List (Int × Int)} {nodes : List Nd} {live : List St}
theorem sp_rFunc (h : RoomF name outer params results locals) (hn : code.length ≤ 1000000) (hl : ∀ v ∈ lines, I64s v) (hc : ∀ p ∈ code, I64s p.2) : S_ref18_Func name inner outer params results locals code lines nodes at' live = some (funcT (name, inner, outer, params, results, locals, code, lines, nodes, at', live), ()) := by
  have hh := headT_le (name := name) (inner := inner) (outer := outer) (params := params) (results := results) (locals := locals)
  have hH := sp_rHead (inner := inner) (code := code) (lines := lines) (nodes := nodes) (at' := at') (live := live) h
  obtain ⟨h0, h1, h2, h3, h4⟩ := h
  refine u_ref18_Func (N := code.length + 1) ?_
  simp [M_ref18_Func, hH]
  refine ⟨by omega, ?_⟩
  refine iter_lay (b := headT name inner outer params results locals ++ [10]) (l := code.zipIdx) (g := instT lines) (c := 60) (by simp) (by simp; omega) (fun x hx => instT_le hl (hc x.1 (by
    obtain ⟨i, hi, e⟩ := List.mem_iff_getElem.1 hx
    rw [List.getElem_zipIdx] at e
    rw [← e]
    exact List.getElem_mem _))) ?_ ?_
  · intro k acc again hk ha
    rw [List.length_zipIdx] at hk ha
    have hcm := hc code[k] (List.getElem_mem hk)
    have hA := atL_ok (i := k) hl
    have a1 := decB_len hA.1 hA.2
    have a2 : (textI (code[k].1, code[k].2)).length ≤ 32 := textI_le hcm
    rw [List.length_append, List.length_singleton] at ha
    simp [hk, bnd_get hk, sp_rAt, sp_rDig hA, sp_rInstr hcm, List.getElem_zipIdx, instT]
    rw [if_pos (by omega), if_pos (by omega), if_pos (by omega), if_pos (by omega)]
  · intro again
    have hle := codeT_le hl hc
    have hle2 : (code.zipIdx.flatMap (instT lines)).length ≤ code.length * 60 := hle
    generalize hC : code.zipIdx.flatMap (instT lines) = C at *
    simp [funcT, codeT, hC]
    omega
end
def textT (fs : List Fn) : List UInt8 := fs.flatMap funcT
/-- A function whose text is made. -/
def OkT (f : Fn) : Prop := RoomF f.1 f.2.2.1 f.2.2.2.1 f.2.2.2.2.1 f.2.2.2.2.2.1 ∧ f.2.2.2.2.2.2.1.length ≤ 100000 ∧ (∀ v ∈ f.2.2.2.2.2.2.2.1, I64s v) ∧ ∀ p ∈ f.2.2.2.2.2.2.1, I64s p.2
theorem funcT_le {f : Fn} (h : OkT f) : (funcT f).length ≤ 200000000 := by
  obtain ⟨⟨h0, h1, h2, h3, h4⟩, hn, hl, hc⟩ := h
  have a1 := headT_le (name := f.1) (inner := f.2.1) (outer := f.2.2.1) (params := f.2.2.2.1) (results := f.2.2.2.2.1) (locals := f.2.2.2.2.2.1)
  have a2 := codeT_le hl hc
  simp only [funcT, List.length_append, List.length_cons, List.length_nil]
  omega
theorem sp_rText {fs : List Fn} (h : ∀ f ∈ fs, OkT f) (hn : fs.length ≤ 1000000) : S_ref18_Text fs = some (textT fs, ()) := by
  refine u_ref18_Text (N := fs.length + 1) ?_
  simp [M_ref18_Text]
  refine iter_lay (b := []) (l := fs) (g := funcT) (c := 200000000) (by omega) (by omega) (fun x hx => funcT_le (h x hx)) ?_ ?_
  · intro k acc again hk ha
    have ho := h fs[k] (List.getElem_mem hk)
    have hf := funcT_le ho
    have hF : S_ref18_Func fs[k].1 fs[k].2.1 fs[k].2.2.1 fs[k].2.2.2.1 fs[k].2.2.2.2.1 fs[k].2.2.2.2.2.1 fs[k].2.2.2.2.2.2.1 fs[k].2.2.2.2.2.2.2.1 fs[k].2.2.2.2.2.2.2.2.1 fs[k].2.2.2.2.2.2.2.2.2.1 fs[k].2.2.2.2.2.2.2.2.2.2 = some (funcT fs[k], ()) := sp_rFunc (inner := fs[k].2.1) ho.1 (Nat.le_trans ho.2.1 (by decide)) ho.2.2.1 ho.2.2.2
    simp at ha
    simp [hk, bnd_get hk, hF]
    omega
  · intro again
    simp [textT]
end Go.Proofs.Ytkdnbnkbnegckaa
