/- What functions come to: templates, and contracts. What functions come to: templates, and contracts. Functions, lifted: what the program comes to by them. All lifted functions. Functions, lifted: what the program comes to by them. All lifted functions. The reference's Can of programs: what the lifted functions come to. The document's answer's taking of a function. What functions come to: templates, and contracts. Functions, lifted: what the program comes to by them. All lifted functions. What functions come to: templates, and contracts. Functions, lifted: what the program comes to by them. All lifted functions. How a function that came in is opened, as the second machine's data. The law FileSame: what it comes to. What is read off bytes is read off longer bytes as well. The law FileCuts: what it comes to. file.Copy and the reference's Decode: what they come to. The law FileBack: what it comes to. FileBack: every input, by the walk of the law. -/
import Derived.Test.YtkdnbnkbnegckaaGreatAnw
import Derived.Test.YtkdnbnkbnegckaaGreatEnd
import Derived.Test.YtkdnbnkbnegckaaGreatLpA
import Derived.Test.YtkdnbnkbnegckaaGreatDed
import Derived.Test.YtkdnbnkbnegckaaGreatSpO
import Derived.ProofKit
import Derived.OpenShut
import Derived.ShutString
import Derived.SizedLaws
import Derived.Deep.Slices
namespace Go.Proofs.YtkdnbnkbnegckaaGreat
open Go.RowKit
set_option maxRecDepth 100000
def i_file_Copy : Tpl := ⟨[], [], [(.agg, [.hole (.sl 11 tF)])]⟩
def o_file_Copy : Tpl := ⟨[], [], [(.agg, [.hole (.sl 11 tF)])]⟩
noncomputable def S_file_Copy (a0 : LF) : Option (LF × Unit) := Sof Tryz.prog annX plansX 32 i_file_Copy o_file_Copy (a0, ())
noncomputable def c_file_Copy : Ctr := ⟨32, i_file_Copy, o_file_Copy, fun d => S_file_Copy d.1⟩
theorem k_file_Copy : (c_file_Copy).ok Tryz.prog annX plansX := ctr_ok (tin := i_file_Copy) (tout := o_file_Copy)
def i_ref02_End : Tpl := ⟨[], [], [(.agg, [.hole (.sl 1 tY), .hole tI])]⟩
def o_ref02_End : Tpl := ⟨[], [], [(.one, [.hole tI])]⟩
noncomputable def S_ref02_End (a0 : LB) (a1 : Int) : Option (Int × Unit) := Sof Tryz.prog annX plansX 82 i_ref02_End o_ref02_End (a0, (a1, ()))
end Go.Proofs.YtkdnbnkbnegckaaGreat
namespace Go.Proofs.YtkdnbnkbnegckaaGreat
open Go.RowKit
set_option maxRecDepth 100000
def i_law16_FileBack : Tpl := ⟨[], [], [(.agg, [.hole (.sl 11 tF)])]⟩
def o_law16_FileBack : Tpl := ⟨[], [], [(.one, [.hole .bool])]⟩
noncomputable def S_law16_FileBack (a0 : LF) : Option (Bool × Unit) := Sof Tryz.prog annY plansX 9 i_law16_FileBack o_law16_FileBack (a0, ())
end Go.Proofs.YtkdnbnkbnegckaaGreat
namespace Go.Proofs.YtkdnbnkbnegckaaGreat
open Go.RowKit
set_option maxRecDepth 100000
set_option linter.unusedVariables false
noncomputable def M_law16_FileBack (N : Nat) (l_0 : LF) : Option (Bool × Unit) :=
 joinK (δ := (Bool × Unit)) (dF l_0 <| fun l1 =>
  bnd (S_law16_Small l1) <| fun p2 =>
  cnd (notB p2.1)
   (qS (eF l_0) <|
   leftK (true, ()))
   (dF l_0 <| fun l3 =>
   bnd (S_ref16_Can l3) <| fun p4 =>
   qS (eF l_0) <|
   leftK ((notB (eqI p4.1 0)), ())))
 <| fun p5 =>
 cnd p5.1
  (bnd (S_law16_lives) <| fun p6 =>
  some (p6.1, ()))
  (dF l_0 <| fun l7 =>
  bnd (S_file_EncodeY l7) <| fun p8 =>
  dY p8.1 <| fun l9 =>
  bnd (S_file_Decode l9) <| fun p10 =>
  cnd (eqI p8.2.1 0)
   (cnd (eqI p10.2.1 0)
    (dF p10.1 <| fun l11 =>
    dF l_0 <| fun l12 =>
    bnd (S_ref16_Same l11 l12) <| fun p13 =>
    cnd p13.1
     (dF l_0 <| fun l14 =>
     bnd (S_file_Copy l14) <| fun p15 =>
     dF p15.1 <| fun l16 =>
     dF l_0 <| fun l17 =>
     bnd (S_ref16_Same l16 l17) <| fun p18 =>
     cnd p18.1
      (dF p10.1 <| fun l19 =>
      dF l_0 <| fun l20 =>
      bnd (S_file_Same l19 l20) <| fun p21 =>
      cnd p21.1
       (bnd (S_law16_lives) <| fun p22 =>
       some (p22.1, ()))
       (some (false, ())))
      (some (false, ())))
     (some (false, ())))
    (some (false, ())))
   (some (false, ())))
noncomputable def q_law16_FileBack : Lift := ⟨tyX, look2 .todo (α := LoopAs) (.n 9 [(1008195, (.as ⟨[], [[.fix]], (.one, [.junk]) :: (.one, [.stat (.ptr 0 0)]) :: rp 12 (.one, [.junk]) ((.one, [.hole .bool]) :: rp 36 (.one, [.junk]) ([]))⟩))] .o .o), [c_law16_Small, c_ref16_Can, c_file_EncodeY, c_file_Decode, c_law16_lives, c_ref16_Same, c_file_Copy, c_file_Same], bsY⟩
theorem u_law16_FileBack {N : Nat} {a0 : LF} {q : (Bool × Unit)} (h : M_law16_FileBack N a0 = some q) : S_law16_FileBack a0 = some q :=
 Sof_of (Q := q_law16_FileBack) (N := N) (n := 3) (f := 9) (tin := i_law16_FileBack) (tout := o_law16_FileBack) (d := (a0, ())) (all1Y (up k_law16_Small rfl fun _ => by kernel_rfl) (all1Y (up k_ref16_Can rfl fun _ => by kernel_rfl) (all1Y k_file_EncodeY (all1Y k_file_Decode (all1Y k_law16_lives (all1Y (up k_ref16_Same rfl fun _ => by kernel_rfl) (all1Y (up k_file_Copy rfl fun _ => by kernel_rfl) (all1Y (up k_file_Same rfl fun _ => by kernel_rfl) all0Y)))))))) bs_okY (by kernel_rfl) (by kernel_rfl) (by kernel_rfl) (Eq.trans (b := M_law16_FileBack N a0) (by kernel_rfl) h)

end Go.Proofs.YtkdnbnkbnegckaaGreat

namespace Go.Proofs.YtkdnbnkbnegckaaGreat
open Go.RowKit
set_option maxRecDepth 100000
set_option linter.unusedVariables false
noncomputable def M_file_Copy (N : Nat) (l_0 : LF) : Option (LF × Unit) :=
 decL tF [] <| fun l1 =>
 dF l_0 <| fun l2 =>
 qS (eF l_0) <|
 qI (vlen (eF l_0)) <|
 iter (fun (d3 : (LF × (LF × (Int × Unit)))) again4 =>
  cnd (ltI d3.2.2.1 (vlen (eF l_0)))
   (chk (leI 0 d3.2.2.1) <|
   getE tF (eF l_0) (natI d3.2.2.1) <| fun p5 =>
   dI p5.2.2.1 <| fun l6 =>
   dI p5.2.2.2.1 <| fun l7 =>
   dI p5.2.2.2.2.1 <| fun l8 =>
   dI p5.2.2.2.2.2.1 <| fun l9 =>
   dC p5.2.2.2.2.2.2.1 <| fun l10 =>
   dI p5.2.2.2.2.2.2.2.1 <| fun l11 =>
   dN p5.2.2.2.2.2.2.2.2.1 <| fun l12 =>
   dI p5.2.2.2.2.2.2.2.2.2.1 <| fun l13 =>
   dS p5.2.2.2.2.2.2.2.2.2.2 <| fun l14 =>
   bnd (S_fnc_Copy p5.1 p5.2.1 l6 l7 l8 l9 l10 l11 l12 l13 l14) <| fun p15 =>
   qN (vnum (eF d3.1)) <|
   chk (room (vnum (eF d3.1)) (vnum (vcut [[(C.v (Go.Value.string (ByteArray.mk (Array.mk p15.1)))), (C.v (Go.Value.bool p15.2.1)), (C.fz 1 (eI p15.2.2.1)), (C.fz 1 (eI p15.2.2.2.1)), (C.fz 1 (eI p15.2.2.2.2.1)), (C.fz 1 (eI p15.2.2.2.2.2.1)), (C.fz 2 (eC p15.2.2.2.2.2.2.1)), (C.fz 1 (eI p15.2.2.2.2.2.2.2.1)), (C.fz 7 (eN p15.2.2.2.2.2.2.2.2.1)), (C.fz 1 (eI p15.2.2.2.2.2.2.2.2.2.1)), (C.fz 4 (eS p15.2.2.2.2.2.2.2.2.2.2.1))]] 0 1)) 240) <|
   decL tF (vapp (eF d3.1) (vcut [[(C.v (Go.Value.string (ByteArray.mk (Array.mk p15.1)))), (C.v (Go.Value.bool p15.2.1)), (C.fz 1 (eI p15.2.2.1)), (C.fz 1 (eI p15.2.2.2.1)), (C.fz 1 (eI p15.2.2.2.2.1)), (C.fz 1 (eI p15.2.2.2.2.2.1)), (C.fz 2 (eC p15.2.2.2.2.2.2.1)), (C.fz 1 (eI p15.2.2.2.2.2.2.2.1)), (C.fz 7 (eN p15.2.2.2.2.2.2.2.2.1)), (C.fz 1 (eI p15.2.2.2.2.2.2.2.2.2.1)), (C.fz 4 (eS p15.2.2.2.2.2.2.2.2.2.2.1))]] 0 1)) <| fun l16 =>
   dF d3.2.1 <| fun l17 =>
   chk (eqN (addN (vnum (eF d3.1)) (vnum (vcut [[(C.v (Go.Value.string (ByteArray.mk (Array.mk p15.1)))), (C.v (Go.Value.bool p15.2.1)), (C.fz 1 (eI p15.2.2.1)), (C.fz 1 (eI p15.2.2.2.1)), (C.fz 1 (eI p15.2.2.2.2.1)), (C.fz 1 (eI p15.2.2.2.2.2.1)), (C.fz 2 (eC p15.2.2.2.2.2.2.1)), (C.fz 1 (eI p15.2.2.2.2.2.2.2.1)), (C.fz 7 (eN p15.2.2.2.2.2.2.2.2.1)), (C.fz 1 (eI p15.2.2.2.2.2.2.2.2.2.1)), (C.fz 4 (eS p15.2.2.2.2.2.2.2.2.2.2.1))]] 0 1))) (vnum (vapp (eF d3.1) (vcut [[(C.v (Go.Value.string (ByteArray.mk (Array.mk p15.1)))), (C.v (Go.Value.bool p15.2.1)), (C.fz 1 (eI p15.2.2.1)), (C.fz 1 (eI p15.2.2.2.1)), (C.fz 1 (eI p15.2.2.2.2.1)), (C.fz 1 (eI p15.2.2.2.2.2.1)), (C.fz 2 (eC p15.2.2.2.2.2.2.1)), (C.fz 1 (eI p15.2.2.2.2.2.2.2.1)), (C.fz 7 (eN p15.2.2.2.2.2.2.2.2.1)), (C.fz 1 (eI p15.2.2.2.2.2.2.2.2.2.1)), (C.fz 4 (eS p15.2.2.2.2.2.2.2.2.2.2.1))]] 0 1)))) <|
   qS (eF l_0) <|
   qI (vlen (eF l_0)) <|
   again4 (l16, (l17, ((wrp .i64 (addI d3.2.2.1 1)), ()))))
   (chk (leN (addN 0 (vnum (eF d3.1))) (vnum (eF d3.1))) <|
   decL tF (vcut (eF d3.1) 0 (vnum (eF d3.1))) <| fun l18 =>
   some (l18, ()))) N (l1, (l2, (0, ())))
noncomputable def q_file_Copy : Lift := ⟨tyX, look2 .todo (α := LoopAs) (.n 32 [(3, (.as ⟨[.mu 31 11 tF], [[.hole (.sl 11 tF)], [.stat (.c (.v (.slice none 0 0)))], [.own 0]], (.one, [.junk]) :: (.one, [.junk]) :: (.one, [.stat (.ptr 1 0)]) :: (.one, [.stat (.ptr 2 0)]) :: (.one, [.junk]) :: (.one, [.junk]) :: (.one, [.junk]) :: (.one, [.fix]) :: (.one, [.fix]) :: (.one, [.hole tI]) :: rp 12 (.one, [.junk]) ([])⟩))] .o .o), [c_fnc_Copy], bsX⟩
theorem u_file_Copy {N : Nat} {a0 : LF} {q : (LF × Unit)} (h : M_file_Copy N a0 = some q) : S_file_Copy a0 = some q :=
 Sof_of (Q := q_file_Copy) (N := N) (n := 3) (f := 32) (tin := i_file_Copy) (tout := o_file_Copy) (d := (a0, ())) (all1 k_fnc_Copy all0) bs_ok (by kernel_rfl) (by kernel_rfl) (by kernel_rfl) (Eq.trans (b := M_file_Copy N a0) (by kernel_rfl) h)

noncomputable def M_ref02_End (N : Nat) (l_0 : LB) (n_1 : Int) : Option (Int × Unit) :=
 joinK (δ := Unit) (cnd (eqI n_1 0)
   (cnd (ltI 0 (vlen (eY l_0)))
    (rightK <| some (4, ()))
    (qS (eY l_0) <|
    qI n_1 <|
    leftK ()))
   (qS (eY l_0) <|
   qI n_1 <|
   leftK ()))
 <| fun x1 =>
 some (n_1, ())
noncomputable def q_ref02_End : Lift := ⟨tyX, look2 .todo (α := LoopAs) (.n 82 [(1012292, (.as ⟨[], [[.fix, .fix]], (.one, [.junk]) :: (.one, [.stat (.ptr 0 0)]) :: rp 12 (.one, [.junk]) ([])⟩))] .o .o), [], bsX⟩
theorem u_ref02_End {N : Nat} {a0 : LB} {a1 : Int} {q : (Int × Unit)} (h : M_ref02_End N a0 a1 = some q) : S_ref02_End a0 a1 = some q :=
 Sof_of (Q := q_ref02_End) (N := N) (n := 3) (f := 82) (tin := i_ref02_End) (tout := o_ref02_End) (d := (a0, (a1, ()))) all0 bs_ok (by kernel_rfl) (by kernel_rfl) (by kernel_rfl) (Eq.trans (b := M_ref02_End N a0 a1) (by kernel_rfl) h)
end Go.Proofs.YtkdnbnkbnegckaaGreat

namespace Go.Proofs.YtkdnbnkbnegckaaGreat
open Go.RowKit
set_option maxRecDepth 20000
theorem sp_Names {fs : List Fn} (hl : fs.length ≤ 1000000) : S_ref16_Names fs = some (fs.map (·.1), ()) := by
  refine u_ref16_Names (N := fs.length + 1) ?_
  simp [M_ref16_Names]
  refine iter_to (fun d => fs.length - d.2.1.toNat) (fun d => ∃ k : Nat, d = ((fs.take k).map (·.1), (k : Int), ()) ∧ k ≤ fs.length) ?_ _ _ ⟨0, by simp, Nat.zero_le _⟩ (by simp)
  rintro _ again ⟨k, rfl, hk⟩ ih
  by_cases h : k < fs.length
  · have hw : wrp .i64 ((k : Int) + 1) = (k : Int) + 1 := wi64 (by omega) (by omega)
    have hr := room_t (a := k) (b := 1) (c := 16) (by omega) (by omega)
    have hm : min k fs.length = k := by omega
    have := ih ((fs.take (k + 1)).map (·.1), (k : Int) + 1, ()) ⟨k + 1, rfl, h⟩ (by simp; omega)
    have e : (fs.take k).map (·.1) ++ [fs[k].1] = (fs.take (k + 1)).map (·.1) := by rw [List.take_succ_eq_append_getElem h, List.map_append]; rfl
    rw [← e] at this
    simpa [h, bnd_get h, hw, hr, hm] using this
  · have : k = fs.length := by omega
    subst this
    simp
/-- Where a text comes first. -/
def findI : List (List UInt8) → List UInt8 → Nat → Int
  | [], _, _ => -1
  | x :: l, y, i => if x = y then i else findI l y (i + 1)
theorem sp_Find5 {l : List (List UInt8)} {y : List UInt8} (hl : l.length ≤ 1000000) : S_ref05_Find l y = some (findI l y 0, ()) := by
  refine u_ref05_Find (N := l.length + 1) ?_
  simp [M_ref05_Find]
  refine iter_to (fun d => l.length - d.1.toNat) (fun d => ∃ k : Nat, d = ((k : Int), ()) ∧ k ≤ l.length ∧ findI l y 0 = findI (l.drop k) y k) ?_ _ _ ⟨0, rfl, Nat.zero_le _, rfl⟩ (by simp)
  rintro _ again ⟨k, rfl, hk, hf⟩ ih
  by_cases h : k < l.length
  · have hw : wrp .i64 ((k : Int) + 1) = (k : Int) + 1 := wi64 (by omega) (by omega)
    rw [List.drop_eq_getElem_cons h, findI] at hf
    by_cases he : l[k] = y
    · rw [if_pos he] at hf
      rw [hf]
      simp [h, bnd_get h, he]
    · rw [if_neg he] at hf
      have := ih ((k : Int) + 1, ()) ⟨k + 1, rfl, h, hf⟩ (by simp; omega)
      simpa [h, bnd_get h, hw, he] using this
  · have : k = l.length := by omega
    subst this
    rw [hf]
    simp [findI]
theorem findI_at : ∀ {l : List (List UInt8)} {i k : Nat} (h : k < l.length), (∀ j (hj : j < k), l[j] ≠ l[k]) → findI l l[k] i = ((i + k : Nat) : Int)
  | x :: l, i, 0, h, _ => by simp [findI]
  | x :: l, i, k + 1, h, hh => by
    have h1 : x ≠ l[k]'(by simpa using h) := by simpa using hh 0 (by omega)
    show (if x = l[k]'(by simpa using h) then _ else findI l (l[k]'(by simpa using h)) (i + 1)) = _
    rw [if_neg h1, findI_at (by simpa using h) fun j hj => by simpa using hh (j + 1) (by omega)]
    omega
theorem findI_before : ∀ {l : List (List UInt8)} {i j k : Nat} (h : k < l.length) (hj : j < k), l[j]'(by omega) = l[k] → findI l l[k] i < ((i + k : Nat) : Int)
  | x :: l, i, j, 0, h, hj, _ => by omega
  | x :: l, i, j, k + 1, h, hj, he => by
    show (if x = l[k]'(by simpa using h) then (i : Int) else findI l (l[k]'(by simpa using h)) (i + 1)) < _
    by_cases hx : x = l[k]'(by simpa using h)
    · rw [if_pos hx]; omega
    · rw [if_neg hx]
      cases j with
      | zero => exact absurd (by simpa using he) hx
      | succ j =>
        have := findI_before (i := i + 1) (j := j) (k := k) (l := l) (by simpa using h) (by omega) (by simpa using he)
        omega
theorem sp_Unlike5 {l : List (List UInt8)} (hl : l.length ≤ 1000000) : S_ref05_Unlike l = some (decide l.Nodup, ()) := by
  refine u_ref05_Unlike (N := l.length + 1) ?_
  simp [M_ref05_Unlike]
  refine iter_to (fun d => l.length - d.1.toNat) (fun d => ∃ k : Nat, d = ((k : Int), ()) ∧ k ≤ l.length ∧ ∀ i j (hi : i < k) (hj : j < i) (hk : i < l.length), l[j] ≠ l[i]) ?_ _ _ ⟨0, rfl, Nat.zero_le _, fun i j hi => by omega⟩ (by simp)
  rintro _ again ⟨k, rfl, hk, hf⟩ ih
  by_cases h : k < l.length
  · have hw : wrp .i64 ((k : Int) + 1) = (k : Int) + 1 := wi64 (by omega) (by omega)
    by_cases hd : ∃ j, ∃ hj : j < k, l[j] = l[k]
    · obtain ⟨j, hj, he⟩ := hd
      have h1 := findI_before (i := 0) h hj he
      have hn : ¬l.Nodup := fun hn => by
        have := (List.nodup_iff_pairwise_ne.1 hn)
        exact (List.pairwise_iff_getElem.1 this j k (by omega) h hj) he
      have h2 : ¬findI l l[k] 0 = (k : Int) := by omega
      simp [h, bnd_get h, sp_Find5 hl, h2, hn]
    · have h1 := findI_at (i := 0) h fun j hj he => hd ⟨j, hj, he⟩
      have h2 : findI l l[k] 0 = (k : Int) := by rw [h1, Nat.zero_add]
      have := ih ((k : Int) + 1, ()) ⟨k + 1, rfl, h, fun i j hi hj hk2 he => by
        by_cases e : i = k
        · subst e; exact hd ⟨j, hj, he⟩
        · exact hf i j (by omega) hj hk2 he⟩ (by simp; omega)
      simpa [h, bnd_get h, hw, sp_Find5 hl, h2] using this
  · have : k = l.length := by omega
    subst this
    have hn : l.Nodup := List.nodup_iff_pairwise_ne.2 (List.pairwise_iff_getElem.2 fun i j hi hj hij => hf j i hj hij hj)
    simp [hn]
theorem sp_rfileCan {fs : List Fn} (hl : ∀ f ∈ fs, LenV f) (hn : fs.length ≤ 1000000) : S_ref16_Can fs = some (canP fs, ()) := by
  refine u_ref16_Can (N := fs.length + 1) ?_
  by_cases h1 : fs.length < 1
  · have h2 : (fs.length : Int) < 1 := by omega
    simp [M_ref16_Can, canP, h1, h2]
  have h2 : ¬(fs.length : Int) < 1 := by omega
  by_cases h3 : 40 < fs.length
  · have h4 : (40 : Int) < (fs.length : Int) := by omega
    simp [M_ref16_Can, canP, h1, h2, h3, h4]
  have h4 : ¬(40 : Int) < (fs.length : Int) := by omega
  simp [M_ref16_Can, canP, h1, h2, h3, h4]
  refine iter_to (fun d => fs.length - d.1.toNat) (fun d => ∃ k : Nat, d = ((k : Int), ()) ∧ k ≤ fs.length ∧ firstE fs = firstE (fs.drop k)) ?_ _ _ ⟨0, rfl, Nat.zero_le _, rfl⟩ (by simp)
  rintro _ again ⟨k, rfl, hk, hf⟩ ih
  by_cases h : k < fs.length
  · have hw : wrp .i64 ((k : Int) + 1) = (k : Int) + 1 := wi64 (by omega) (by omega)
    obtain ⟨g1, g2, g3⟩ := hl fs[k] (List.getElem_mem h)
    have hC : S_ref15_Can fs[k].1 fs[k].2.1 fs[k].2.2.1 fs[k].2.2.2.1 fs[k].2.2.2.2.1 fs[k].2.2.2.2.2.1 fs[k].2.2.2.2.2.2.1 fs[k].2.2.2.2.2.2.2.1 fs[k].2.2.2.2.2.2.2.2.1 fs[k].2.2.2.2.2.2.2.2.2.1 fs[k].2.2.2.2.2.2.2.2.2.2 = some (canV fs[k], ()) := sp_rCan (inner := fs[k].2.1) g1 g2
    have hd : fs.drop k = fs[k] :: fs.drop (k + 1) := List.drop_eq_getElem_cons h
    rw [hd, firstE] at hf
    by_cases hz : canV fs[k] = 0
    · rw [if_pos hz] at hf
      rw [hz] at hC
      have := ih ((k : Int) + 1, ()) ⟨k + 1, rfl, h, hf⟩ (by simp; omega)
      simpa [h, bnd_get h, hw, hC] using this
    · rw [if_neg hz] at hf
      have hf2 : ¬firstE fs = 0 := by rw [hf]; exact hz
      rw [if_neg hf2, hf]
      simp [h, bnd_get h, hC, hz]
  · have : k = fs.length := by omega
    subst this
    have hf0 : firstE fs = 0 := by rw [hf]; simp [firstE]
    by_cases hnd : (fs.map (·.1)).Nodup <;> simp [sp_Names hn, sp_Unlike5 (l := fs.map (·.1)) (by rw [List.length_map]; exact hn), hf0, hnd]
end Go.Proofs.YtkdnbnkbnegckaaGreat
namespace Go.Proofs.YtkdnbnkbnegckaaGreat
open Go.RowKit
set_option maxRecDepth 8000
set_option maxHeartbeats 4000000
def RfF (o : Option (List UInt8 × (Bool × (List Int × (List Int × (List Int × (List Int × (List (Int × Int) × (List Int × (List Nd × (List Int × (List St × (List UInt8 × (Int × Unit)))))))))))))) (p : Pr Fn) : Prop :=
  match p with
  | .ok ((name, inner, outer, params, results, locals, code, lines, nodes, at', live), l') => o = some (name, inner, outer, params, results, locals, code, lines, nodes, at', live, l', 0, ())
  | .error e => e ≠ 0 ∧ ∃ l', o = some ([], false, [], [], [], [], [], [], [], [], [], l', e, ())
theorem RfF.of {f g : Option (List UInt8 × (Bool × (List Int × (List Int × (List Int × (List Int × (List (Int × Int) × (List Int × (List Nd × (List Int × (List St × (List UInt8 × (Int × Unit)))))))))))))} {p : Pr Fn} (h : RfF f p) (hu : ∀ q, f = some q → g = some q) : RfF g p := by
  cases p with
  | ok x => exact hu _ h
  | error e => exact ⟨h.1, h.2.choose, hu _ h.2.choose_spec⟩
end Go.Proofs.YtkdnbnkbnegckaaGreat
namespace Go.Proofs.YtkdnbnkbnegckaaGreat
open Go.RowKit
set_option maxRecDepth 100000
end Go.Proofs.YtkdnbnkbnegckaaGreat
namespace Go.Proofs.YtkdnbnkbnegckaaGreat
open Go.RowKit
set_option maxRecDepth 100000
set_option linter.unusedVariables false
end Go.Proofs.YtkdnbnkbnegckaaGreat

namespace Go.Proofs.YtkdnbnkbnegckaaGreat
open Go.RowKit
set_option maxRecDepth 100000
end Go.Proofs.YtkdnbnkbnegckaaGreat
namespace Go.Proofs.YtkdnbnkbnegckaaGreat
open Go.RowKit
set_option maxRecDepth 100000
set_option linter.unusedVariables false
end Go.Proofs.YtkdnbnkbnegckaaGreat

namespace Go.Proofs.YtkdnbnkbnegckaaGreat
open Go.RowKit Go.WideShapes
set_option maxRecDepth 20000
theorem opensD_types : OpensD Tryz.prog 25 (.sl 1 tI) := opensD_sl (by' := 8) Tryz.underlying25 (by kernel_rfl) (by kernel_rfl) rfl (by decide) (by decide) (opensD_i64 Tryz.underlying110)
theorem opensD_ints : OpensD Tryz.prog 27 (.sl 1 tI) := opensD_sl (by' := 8) Tryz.underlying27 (by kernel_rfl) (by kernel_rfl) rfl (by decide) (by decide) (opensD_i64 Tryz.underlying3)
theorem opensD_instr : OpensD Tryz.prog 78 tC := opensD_struct Tryz.underlying78 (by kernel_rfl) (opensFD_cons rfl (by kernel_rfl) (opensD_i64 Tryz.underlying76) (opensFD_one rfl (by kernel_rfl) (opensD_i64 Tryz.underlying3)))
theorem opensD_node : OpensD Tryz.prog 115 tN :=
  have hi : OpensD Tryz.prog 3 tI := opensD_i64 Tryz.underlying3
  opensD_struct Tryz.underlying115 (by kernel_rfl) (opensFD_cons rfl (by kernel_rfl) hi (opensFD_cons rfl (by kernel_rfl) hi (opensFD_cons rfl (by kernel_rfl) hi (opensFD_cons rfl (by kernel_rfl) hi (opensFD_cons rfl (by kernel_rfl) hi (opensFD_cons rfl (by kernel_rfl) hi (opensFD_one rfl (by kernel_rfl) hi)))))))
theorem opensD_set : OpensD Tryz.prog 118 tS := opensD_arr4 Tryz.underlying118 Tryz.underlying102 (by kernel_rfl) (by kernel_rfl)
theorem opensD_code : OpensD Tryz.prog 26 (.sl 2 tC) := opensD_sl (by' := 16) Tryz.underlying26 (by kernel_rfl) (by kernel_rfl) rfl (by decide) (by decide) opensD_instr
theorem opensD_nodes : OpensD Tryz.prog 28 (.sl 7 tN) := opensD_sl (by' := 56) Tryz.underlying28 (by kernel_rfl) (by kernel_rfl) rfl (by decide) (by decide) opensD_node
theorem opensD_sets : OpensD Tryz.prog 29 (.sl 4 tS) := opensD_sl (by' := 32) Tryz.underlying29 (by kernel_rfl) (by kernel_rfl) rfl (by decide) (by decide) opensD_set
theorem opensD_func : OpensD Tryz.prog 31 FnD :=
  opensD_struct Tryz.underlying31 (by kernel_rfl) (opensFD_cons rfl (by kernel_rfl) (opensD_str Tryz.underlying9) (opensFD_cons rfl (by kernel_rfl) (opensD_bool Tryz.underlying4) (opensFD_cons rfl (by kernel_rfl) opensD_types (opensFD_cons rfl (by kernel_rfl) opensD_types (opensFD_cons rfl (by kernel_rfl) opensD_types (opensFD_cons rfl (by kernel_rfl) opensD_types
    (opensFD_cons rfl (by kernel_rfl) opensD_code (opensFD_cons rfl (by kernel_rfl) opensD_ints (opensFD_cons rfl (by kernel_rfl) opensD_nodes (opensFD_cons rfl (by kernel_rfl) opensD_ints (opensFD_one rfl (by kernel_rfl) opensD_sets)))))))))))
end Go.Proofs.YtkdnbnkbnegckaaGreat
namespace Go.Proofs.YtkdnbnkbnegckaaGreat
open Go.RowKit
set_option maxRecDepth 20000
/-- Data of a program. -/
abbrev PrD : Ty := .sl 11 FnD
theorem opensD_prog : OpensD Tryz.prog 51 PrD :=
  opensD_struct Tryz.underlying51 (by kernel_rfl) (opensFD_one rfl (by kernel_rfl) (opensD_sl (by' := 240) Tryz.underlying49 (by kernel_rfl) (by kernel_rfl) rfl (by decide) (by decide) opensD_func))
theorem okP_fn {p : List Fn} (h : OkD PrD p) : ∀ f ∈ p, f.1.length ≤ 140737488351232 ∧ BoundV f ∧ DatV f := fun f hf => by
  obtain ⟨name, inner, outer, params, results, locals, code, lines, nodes, at', live⟩ := f
  obtain ⟨h1, h2, h3, h4, h5, h6⟩ := okD_dat (h.2 _ hf)
  exact ⟨h1, ⟨h2, h3, h4, h5⟩, h6⟩
theorem small_fn {p : List Fn} (h : OkD PrD p) (hs : smallsB p = true) : p.length ≤ 50 ∧ ∀ f ∈ p, LenV f := by
  obtain ⟨h1, h2⟩ := smallsB_len hs
  exact ⟨h1, fun f hf => h2 f hf (okP_fn h f hf).1⟩
end Go.Proofs.YtkdnbnkbnegckaaGreat
namespace Go.Proofs.YtkdnbnkbnegckaaGreat
open Go.RowKit
end Go.Proofs.YtkdnbnkbnegckaaGreat
namespace Go.Proofs.YtkdnbnkbnegckaaGreat
open Go.RowKit
set_option maxRecDepth 20000
end Go.Proofs.YtkdnbnkbnegckaaGreat
namespace Go.Proofs.YtkdnbnkbnegckaaGreat
open Go.RowKit
set_option maxRecDepth 20000
theorem sp_fileCopy {l : List Fn} (hl : ∀ f ∈ l, LenV f) (hn : l.length ≤ 1000000) : S_file_Copy l = some (l, ()) := by
  refine u_file_Copy (N := l.length + 1) ?_
  simp [M_file_Copy]
  refine iter_to (fun d => l.length - d.2.2.1.toNat) (fun d => ∃ k : Nat, d = (l.take k, l, (k : Int), ()) ∧ k ≤ l.length) ?_ _ _ ⟨0, by simp, Nat.zero_le _⟩ (by simp)
  rintro _ again ⟨k, rfl, hk⟩ ih
  by_cases h : k < l.length
  · have hw : wrp .i64 ((k : Int) + 1) = (k : Int) + 1 := wi64 (by omega) (by omega)
    have hr := room_t (a := k) (b := 1) (c := 240) (by omega) (by omega)
    have hm : min k l.length = k := by omega
    obtain ⟨g1, g2, g3⟩ := hl l[k] (List.getElem_mem h)
    have hC : S_fnc_Copy l[k].1 l[k].2.1 l[k].2.2.1 l[k].2.2.2.1 l[k].2.2.2.2.1 l[k].2.2.2.2.2.1 l[k].2.2.2.2.2.2.1 l[k].2.2.2.2.2.2.2.1 l[k].2.2.2.2.2.2.2.2.1 l[k].2.2.2.2.2.2.2.2.2.1 l[k].2.2.2.2.2.2.2.2.2.2 = some (l[k].1, l[k].2.1, l[k].2.2.1, l[k].2.2.2.1, l[k].2.2.2.2.1, l[k].2.2.2.2.2.1, l[k].2.2.2.2.2.2.1, l[k].2.2.2.2.2.2.2.1, l[k].2.2.2.2.2.2.2.2.1, l[k].2.2.2.2.2.2.2.2.2.1, l[k].2.2.2.2.2.2.2.2.2.2, ()) := sp_Copy (name := l[k].1) (inner := l[k].2.1) g2
    have e : l.take k ++ [(l[k].1, l[k].2.1, l[k].2.2.1, l[k].2.2.2.1, l[k].2.2.2.2.1, l[k].2.2.2.2.2.1, l[k].2.2.2.2.2.2.1, l[k].2.2.2.2.2.2.2.1, l[k].2.2.2.2.2.2.2.2.1, l[k].2.2.2.2.2.2.2.2.2.1, l[k].2.2.2.2.2.2.2.2.2.2)] = l.take (k + 1) := by rw [List.take_succ_eq_append_getElem h]
    simp [h, bnd_get h, hw, hr, hm, hC]
    rw [e]
    exact ih (l.take (k + 1), l, (k : Int) + 1, ()) ⟨k + 1, rfl, h⟩ (by simp; omega)
  · have : k = l.length := by omega
    subst this
    simp
@[simp] theorem sp_rEnd {l : List UInt8} {e : Int} : S_ref02_End l e = some ((if e = 0 ∧ l ≠ [] then 4 else e), ()) := by
  refine u_ref02_End (N := 0) ?_
  by_cases h : e = 0
  · cases l <;> simp [M_ref02_End, h]
  · simp [M_ref02_End, h]
end Go.Proofs.YtkdnbnkbnegckaaGreat
namespace Go.Proofs.YtkdnbnkbnegckaaGreat
open Go.RowKit
set_option maxRecDepth 20000
theorem law_FileBack {p : List Fn} (hp : OkD PrD p) : S_law16_FileBack p = some (true, ()) := by
  refine u_law16_FileBack (N := 0) ?_
  have hS := sp_Small16 fun f hf => (okP_fn hp f hf).2.1
  cases h1 : smallsB p with
  | false => rw [h1] at hS; simp [M_law16_FileBack, hS, S_law16_lives]
  | true =>
    rw [h1] at hS
    obtain ⟨g1, g2⟩ := small_fn hp h1
    have hC := sp_rfileCan g2 (by omega)
    by_cases hz : canP p = 0
    case neg => simp [M_law16_FileBack, hS, hC, hz, S_law16_lives]
    have hd : ∀ f ∈ p, DatV f := fun f hf => (okP_fn hp f hf).2.2
    have hE := sp_Encode g2 hd (by omega)
    have hD := decode_encode hz hd
    have hL := encodeR_le hz
    rw [show (encodeR p).2 = 0 by rw [encodeR, if_pos hz]] at hE
    have hR : decodeR (encodeR p).1 = (p, 0) := by rw [decodeR, hD]
    have hd1 := sp_Decode (b := (encodeR p).1) (by omega)
    rw [hR] at hd1
    have a1 := sp_ref16Same (m := p) g2 (by omega)
    have a2 := sp_fileSame (m := p) g2 (by omega)
    rw [eqD_s] at a1 a2
    have a3 := sp_fileCopy g2 (by omega)
    simp [M_law16_FileBack, hS, hC, hz, hE, hd1, a1, a2, a3, S_law16_lives]
theorem FileBack_walk (x0 : Data PrD) (cs0 : List Value) (w : World) (hx0 : DatR PrD w cs0 x0) :
    Calls Tryz.prog 9 #[.agg cs0.toArray] w fun e w' => e = .returned (.bool true) ∧ Ext w w' := by
  refine law_walkY (args0 := [argA PrD x0]) (law_FileBack hx0.2) (by kernel_rfl) rfl rfl fun i t v h1 h2 => ?_
  match i with
  | 0 =>
    cases h1
    cases h2
    exact rep_argA hx0
  | i + 1 => simp at h1
end Go.Proofs.YtkdnbnkbnegckaaGreat
namespace Go.Proofs.YtkdnbnkbnegckaaGreat.fileBack
open Go.ChangeShapes Go.WideShapes Go.ChangeAt Go.RowKit
open Go.ChangeMaps (open_string shut_string)
set_option linter.unusedVariables false

theorem own : ownKnob Tryz.prog.godebug = none := by kernel_rfl
theorem laidOut : laidOutB Tryz.prog = true := by kernel_rfl

set_option maxRecDepth 100000 in
theorem lifted (os : Os) (started : os.Started) (H : Type) (enc : TypeId × Value → H) :
    ReturnsInHanded {} Tryz.checked os 9 .any (Rows.fileBackSpec.pre6 enc Tryz.prog Tryz.f9 Rows.fileBackRow.domain false) (Rows.fileBackSpec.post enc Tryz.prog Tryz.f9 false true false false) := by
  refine returnsInHanded_of_change_sized (C := Tryz.checked) own started (by kernel_rfl) Tryz.func9
    (ChangeSpec.witness6 (enc := enc) (C := Tryz.checked) false ⟨#[], #[.agg #[.slice none 0 0]], []⟩ 8 (by kernel_rfl) (by kernel_rfl) (by kernel_rfl) (by kernel_rfl)) ?_
  intro W base args ds gs before hval0 hW hcnd hsz0 hholds
  have hval : ∀ (j : Nat) t v, Tryz.f9.params[j]? = some t → args[j]? = some v → Value.okWide Tryz.prog W .any base t v := hval0
  have hsz : (DataW.weightsEach Tryz.prog (Tryz.f9.params.toList ++ Rows.fileBackSpec.plain.varTypes Tryz.prog) (ds ++ gs)).all (· ≤ reachBytes) = true := hsz0
  have hW' := hW
  obtain ⟨p, q, hA0, hV, rfl, hfz, hnd⟩ := hW
  have hA : DataW.TrodAll enc Tryz.prog W 0 (fun _ => true) true Tryz.f9.params.toList args.toList ds p := hA0
  rw [Tryz.params9] at hA hval hsz
  obtain ⟨v0, vs0, d0, ds0, p0, q0, hargs, rfl, rfl, h0, r0⟩ := trodAll_cons hA
  obtain ⟨rfl, rfl, rfl⟩ := trodAll_nil r0
  obtain rfl : args = #[v0] := by cases args; simp_all
  obtain ⟨rfl, rfl⟩ := trodVars_none hV
  have k0 := h0
  have lt0 : ∀ x ∈ p0, x.block < W.heap.size := by obtain ⟨m, hm⟩ := k0; exact DataW.trod_lt m _ _ _ hm
  obtain ⟨cs0, rfl, _⟩ := okWide_struct Tryz.underlying51 (hval 0 51 v0 rfl rfl)
  obtain ⟨z0, w0⟩ := open_d opensD_prog hsz (j := 0) rfl rfl h0
  clear hA0 hval0
  refine (FileBack_walk (w := W) (x0 := z0) (cs0 := cs0.toList) (hx0 := w0)).mono fun e W' ⟨he, bel⟩ => ?_
  subst he
  exact ⟨_, rfl, _, _, _, [], _, [], hW', trodAll_mk1 (shut_bool Tryz.underlying4 _), (trodAll_cons_mk (Below.trod laidOut (by kernel_rfl) (of_decide_eq_true (by kernel_rfl)) k0 bel.b lt0) trodAll_mk0), rfl, bel.b.frame _, fun h => by cases h⟩

theorem FileBack_holds : Rows.FileBackSaid :=
  OpenClaim.holds_of_wide 9 Tryz.f9 rfl rfl rfl rfl rfl rfl rfl ⟨rfl, rfl, rfl, rfl, rfl⟩ rfl rfl rfl rfl rfl (by kernel_rfl) Tryz.func9 (by kernel_rfl)
    (of_decide_eq_true (by kernel_rfl)) (by unfold Func.isWrapper; first | (rw [if_pos (by decide +kernel)]; kernel_rfl) | (rw [if_neg (by decide +kernel)]; exact ⟨rfl, rfl⟩))
    (fun os started H enc _ => lifted os started H enc)
end Go.Proofs.YtkdnbnkbnegckaaGreat.fileBack

namespace Go.Proofs.YtkdnbnkbnegckaaGreat
theorem FileBack_proved : Rows.FileBackSaid := fileBack.FileBack_holds
#print axioms FileBack_proved
end Go.Proofs.YtkdnbnkbnegckaaGreat
