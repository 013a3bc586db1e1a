/- Functions, lifted: what the program comes to by them. Functions, lifted: what the program comes to by them. All lifted functions. The number that bytes begin with: what the lifted functions come to. Cursors: what the lifted functions come to, as a parser. -/
import Derived.Test.YtkdnbnkbnegckaaGreatLwA
import Derived.Test.YtkdnbnkbnegckaaGreatLw1
import Derived.Test.YtkdnbnkbnegckaaGreatLw2
import Derived.Test.YtkdnbnkbnegckaaGreatLw4
import Derived.Test.YtkdnbnkbnegckaaGreatLw5
import Derived.Test.YtkdnbnkbnegckaaGreatLw7
import Derived.Test.YtkdnbnkbnegckaaGreatLw8
import Derived.Test.YtkdnbnkbnegckaaGreatLw9
import Derived.Test.YtkdnbnkbnegckaaGreatLw10
import Derived.Test.YtkdnbnkbnegckaaGreatLw11
import Derived.Test.YtkdnbnkbnegckaaGreatLfS
import Derived.Test.YtkdnbnkbnegckaaGreatClo
import Derived.Laws.DeepNot64
namespace Go.Proofs.YtkdnbnkbnegckaaGreat
open Go.RowKit
set_option maxRecDepth 100000
set_option linter.unusedVariables false
noncomputable def M_fnc_tables_1 (N : Nat) (l_0 : LB) (b_1 : Bool) (l_2 : LI) (l_3 : LI) (l_4 : LI) (l_5 : LI) (l_6 : LC) (l_7 : LI) (l_8 : LN) (l_9 : LI) (l_10 : LS) (n_11 : Int) : Option (LB × (Bool × (LI × (LI × (LI × (LI × (LC × (LI × (LN × (LI × (LS × (Bool × Unit)))))))))))) :=
 cnd (ltI n_11 0)
  (dI l_2 <| fun l1 =>
  dI l_3 <| fun l2 =>
  dI l_4 <| fun l3 =>
  dI l_5 <| fun l4 =>
  dC l_6 <| fun l5 =>
  dI l_7 <| fun l6 =>
  dN l_8 <| fun l7 =>
  dI l_9 <| fun l8 =>
  dS l_10 <| fun l9 =>
  some (l_0, (b_1, (l1, (l2, (l3, (l4, (l5, (l6, (l7, (l8, (l9, (true, ())))))))))))))
  (dI l_2 <| fun l10 =>
  dI l_3 <| fun l11 =>
  dI l_4 <| fun l12 =>
  dI l_5 <| fun l13 =>
  dC l_6 <| fun l14 =>
  dI l_7 <| fun l15 =>
  dN l_8 <| fun l16 =>
  dI l_9 <| fun l17 =>
  dS l_10 <| fun l18 =>
  some (l_0, (b_1, (l10, (l11, (l12, (l13, (l14, (l15, (l16, (l17, (l18, ((leI (vlen (eN l_8)) n_11), ())))))))))))))
noncomputable def q_fnc_tables_1 : Lift := ⟨tyX, look2 .todo (α := LoopAs) (.o), [], bsX⟩
theorem u_fnc_tables_1 {N : Nat} {a0 : LB} {a1 : Bool} {a2 : LI} {a3 : LI} {a4 : LI} {a5 : LI} {a6 : LC} {a7 : LI} {a8 : LN} {a9 : LI} {a10 : LS} {a11 : Int} {q : (LB × (Bool × (LI × (LI × (LI × (LI × (LC × (LI × (LN × (LI × (LS × (Bool × Unit))))))))))))} (h : M_fnc_tables_1 N a0 a1 a2 a3 a4 a5 a6 a7 a8 a9 a10 a11 = some q) : S_fnc_tables_1 a0 a1 a2 a3 a4 a5 a6 a7 a8 a9 a10 a11 = some q :=
 Sof_of (Q := q_fnc_tables_1) (N := N) (n := 3) (f := 153) (tin := i_fnc_tables_1) (tout := o_fnc_tables_1) (d := (a0, (a1, (a2, (a3, (a4, (a5, (a6, (a7, (a8, (a9, (a10, (a11, ()))))))))))))) all0 bs_ok (by kernel_rfl) (by kernel_rfl) (by kernel_rfl) (Eq.trans (b := M_fnc_tables_1 N a0 a1 a2 a3 a4 a5 a6 a7 a8 a9 a10 a11) (by kernel_rfl) h)

noncomputable def M_maps_Right (N : Nat) (l_0 : LS) (n_1 : Int) : Option (Bool × Unit) :=
 qS (eS l_0) <|
 qI n_1 <|
 qS (eS l_0) <|
 qI (vlen (eS l_0)) <|
 iter (fun (d1 : (Int × Unit)) again2 =>
  cnd (ltI d1.1 (vlen (eS l_0)))
   (chk (leI 0 d1.1) <|
   getE tS (eS l_0) (natI d1.1) <| fun p3 =>
   bnd (S_slots_Below p3.1 p3.2.1 p3.2.2.1 p3.2.2.2 n_1) <| fun p4 =>
   cnd (notB p4.1)
    (some (false, ()))
    (qS (eS l_0) <|
    qI n_1 <|
    qS (eS l_0) <|
    qI (vlen (eS l_0)) <|
    again2 ((wrp .i64 (addI d1.1 1)), ())))
   (some ((leI (vlen (eS l_0)) 2000), ()))) N (0, ())
noncomputable def q_maps_Right : Lift := ⟨tyX, look2 .todo (α := LoopAs) (.n 154 [(2, (.as ⟨[], [], (.one, [.fix]) :: (.one, [.fix]) :: rp 5 (.one, [.junk]) ((.one, [.fix]) :: (.one, [.fix]) :: (.one, [.hole tI]) :: rp 11 (.one, [.junk]) ([]))⟩))] .o .o), [c_slots_Below], bsX⟩
theorem u_maps_Right {N : Nat} {a0 : LS} {a1 : Int} {q : (Bool × Unit)} (h : M_maps_Right N a0 a1 = some q) : S_maps_Right a0 a1 = some q :=
 Sof_of (Q := q_maps_Right) (N := N) (n := 3) (f := 154) (tin := i_maps_Right) (tout := o_maps_Right) (d := (a0, (a1, ()))) (all1 k_slots_Below all0) bs_ok (by kernel_rfl) (by kernel_rfl) (by kernel_rfl) (Eq.trans (b := M_maps_Right N a0 a1) (by kernel_rfl) h)

noncomputable def M_fnc_tables (N : Nat) (l_0 : LB) (b_1 : Bool) (l_2 : LI) (l_3 : LI) (l_4 : LI) (l_5 : LI) (l_6 : LC) (l_7 : LI) (l_8 : LN) (l_9 : LI) (l_10 : LS) : Option (Bool × Unit) :=
 dI l_2 <| fun l1 =>
 dI l_3 <| fun l2 =>
 dI l_4 <| fun l3 =>
 dI l_5 <| fun l4 =>
 dC l_6 <| fun l5 =>
 dI l_7 <| fun l6 =>
 dN l_8 <| fun l7 =>
 dI l_9 <| fun l8 =>
 dS l_10 <| fun l9 =>
 bnd (S_fnc_Bare l_0 b_1 l1 l2 l3 l4 l5 l6 l7 l8 l9) <| fun p10 =>
 cnd p10.1
  (some (true, ()))
  (dN l_8 <| fun l11 =>
  bnd (S_tree_Right l11) <| fun p12 =>
  cnd p12.1
   (cnd (eqI (vlen (eI l_9)) (vlen (eC l_6)))
    (cnd (eqI (vlen (eS l_10)) (vlen (eC l_6)))
     (dI l_2 <| fun l13 =>
     dI l_3 <| fun l14 =>
     dI l_4 <| fun l15 =>
     dI l_5 <| fun l16 =>
     dC l_6 <| fun l17 =>
     dI l_7 <| fun l18 =>
     dN l_8 <| fun l19 =>
     dI l_9 <| fun l20 =>
     dS l_10 <| fun l21 =>
     dI l_9 <| fun l22 =>
     bnd (S_slices_ContainsFunc_int_int_t l_0 b_1 l13 l14 l15 l16 l17 l18 l19 l20 l21 l22) <| fun p23 =>
     cnd (notB p23.2.2.2.2.2.2.2.2.2.2.2.1)
      (dI p23.2.2.1 <| fun l24 =>
      dI p23.2.2.2.1 <| fun l25 =>
      dI p23.2.2.2.2.1 <| fun l26 =>
      dI p23.2.2.2.2.2.1 <| fun l27 =>
      dC p23.2.2.2.2.2.2.1 <| fun l28 =>
      dI p23.2.2.2.2.2.2.2.1 <| fun l29 =>
      dN p23.2.2.2.2.2.2.2.2.1 <| fun l30 =>
      dI p23.2.2.2.2.2.2.2.2.2.1 <| fun l31 =>
      dS p23.2.2.2.2.2.2.2.2.2.2.1 <| fun l32 =>
      bnd (S_fnc_many p23.1 p23.2.1 l24 l25 l26 l27 l28 l29 l30 l31 l32) <| fun p33 =>
      dS p23.2.2.2.2.2.2.2.2.2.2.1 <| fun l34 =>
      bnd (S_maps_Right l34 p33.1) <| fun p35 =>
      some (p35.1, ()))
      (some (false, ())))
     (some (false, ())))
    (some (false, ())))
   (some (false, ())))
noncomputable def q_fnc_tables : Lift := ⟨tyX, look2 .todo (α := LoopAs) (.n 169 [(2, (.as ⟨[], [], (.one, [.fix]) :: (.one, [.stat (.clo false 151 [])]) :: rp 5 (.one, [.junk]) ((.one, [.fix]) :: (.one, [.hole tI]) :: rp 10 (.one, [.junk]) ([]))⟩))] .o .o), [c_fnc_many, c_tree_Right, c_slices_ContainsFunc_int_int_t, c_fnc_Bare, c_maps_Right], bsX⟩
theorem u_fnc_tables {N : Nat} {a0 : LB} {a1 : Bool} {a2 : LI} {a3 : LI} {a4 : LI} {a5 : LI} {a6 : LC} {a7 : LI} {a8 : LN} {a9 : LI} {a10 : LS} {q : (Bool × Unit)} (h : M_fnc_tables N a0 a1 a2 a3 a4 a5 a6 a7 a8 a9 a10 = some q) : S_fnc_tables a0 a1 a2 a3 a4 a5 a6 a7 a8 a9 a10 = some q :=
 Sof_of (Q := q_fnc_tables) (N := N) (n := 3) (f := 107) (tin := i_fnc_tables) (tout := o_fnc_tables) (d := (a0, (a1, (a2, (a3, (a4, (a5, (a6, (a7, (a8, (a9, (a10, ())))))))))))) (all1 k_fnc_many (all1 k_tree_Right (all1 k_slices_ContainsFunc_int_int_t (all1 k_fnc_Bare (all1 k_maps_Right all0))))) bs_ok (by kernel_rfl) (by kernel_rfl) (by kernel_rfl) (Eq.trans (b := M_fnc_tables N a0 a1 a2 a3 a4 a5 a6 a7 a8 a9 a10) (by kernel_rfl) h)

noncomputable def M_fnc_Can (N : Nat) (l_0 : LB) (b_1 : Bool) (l_2 : LI) (l_3 : LI) (l_4 : LI) (l_5 : LI) (l_6 : LC) (l_7 : LI) (l_8 : LN) (l_9 : LI) (l_10 : LS) : Option (Int × Unit) :=
 bnd (S_names_May l_0) <| fun p1 =>
 cnd (notB p1.1)
  (some (7, ()))
  (dI l_2 <| fun l2 =>
  dI l_3 <| fun l3 =>
  dI l_4 <| fun l4 =>
  dI l_5 <| fun l5 =>
  dC l_6 <| fun l6 =>
  dI l_7 <| fun l7 =>
  dN l_8 <| fun l8 =>
  dI l_9 <| fun l9 =>
  dS l_10 <| fun l10 =>
  bnd (S_fnc_types l_0 b_1 l2 l3 l4 l5 l6 l7 l8 l9 l10) <| fun p11 =>
  cnd (notB p11.1)
   (some (9, ()))
   (joinK (δ := (Bool × Unit)) (dI l_2 <| fun l12 =>
    dI l_3 <| fun l13 =>
    dI l_4 <| fun l14 =>
    dI l_5 <| fun l15 =>
    dC l_6 <| fun l16 =>
    dI l_7 <| fun l17 =>
    dN l_8 <| fun l18 =>
    dI l_9 <| fun l19 =>
    dS l_10 <| fun l20 =>
    bnd (S_fnc_many l_0 b_1 l12 l13 l14 l15 l16 l17 l18 l19 l20) <| fun p21 =>
    cnd (ltI 256 p21.1)
     (qB (ByteArray.mk (Array.mk l_0)) <|
     qO b_1 <|
     qS (eI l_2) <|
     qS (eI l_3) <|
     qS (eI l_4) <|
     qS (eI l_5) <|
     qS (eC l_6) <|
     qS (eI l_7) <|
     qS (eN l_8) <|
     qS (eI l_9) <|
     qS (eS l_10) <|
     qI (vlen (eC l_6)) <|
     leftK (true, ()))
     (cnd (ltI (vlen (eC l_6)) 1)
      (qB (ByteArray.mk (Array.mk l_0)) <|
      qO b_1 <|
      qS (eI l_2) <|
      qS (eI l_3) <|
      qS (eI l_4) <|
      qS (eI l_5) <|
      qS (eC l_6) <|
      qS (eI l_7) <|
      qS (eN l_8) <|
      qS (eI l_9) <|
      qS (eS l_10) <|
      qI (vlen (eC l_6)) <|
      leftK (true, ()))
      (qB (ByteArray.mk (Array.mk l_0)) <|
      qO b_1 <|
      qS (eI l_2) <|
      qS (eI l_3) <|
      qS (eI l_4) <|
      qS (eI l_5) <|
      qS (eC l_6) <|
      qS (eI l_7) <|
      qS (eN l_8) <|
      qS (eI l_9) <|
      qS (eS l_10) <|
      qI (vlen (eC l_6)) <|
      leftK ((ltI 2000 (vlen (eC l_6))), ()))))
   <| fun p22 =>
   cnd p22.1
    (some (6, ()))
    (qS (eC l_6) <|
    qI (vlen (eC l_6)) <|
    iter (fun (d23 : (Int × Unit)) again24 =>
     cnd (ltI d23.1 (vlen (eC l_6)))
      (chk (leI 0 d23.1) <|
      getE tC (eC l_6) (natI d23.1) <| fun p25 =>
      bnd (S_fnc_Can_1 p25.1 p25.2) <| fun p26 =>
      cnd p26.1
       (cnd (leI 0 d23.1)
        (some (8, ()))
        (joinK (δ := (Bool × Unit)) (cnd (notB (eqI (vlen (eI l_7)) (vlen (eC l_6))))
          (qB (ByteArray.mk (Array.mk l_0)) <|
          qO b_1 <|
          qS (eI l_2) <|
          qS (eI l_3) <|
          qS (eI l_4) <|
          qS (eI l_5) <|
          qS (eC l_6) <|
          qS (eI l_7) <|
          qS (eN l_8) <|
          qS (eI l_9) <|
          qS (eS l_10) <|
          leftK (true, ()))
          (dI l_7 <| fun l27 =>
          bnd (S_lines_Right l27) <| fun p28 =>
          qB (ByteArray.mk (Array.mk l_0)) <|
          qO b_1 <|
          qS (eI l_2) <|
          qS (eI l_3) <|
          qS (eI l_4) <|
          qS (eI l_5) <|
          qS (eC l_6) <|
          qS (eI l_7) <|
          qS (eN l_8) <|
          qS (eI l_9) <|
          qS (eS l_10) <|
          leftK ((notB p28.1), ())))
        <| fun p29 =>
        cnd p29.1
         (some (19, ()))
         (dI l_2 <| fun l30 =>
         dI l_3 <| fun l31 =>
         dI l_4 <| fun l32 =>
         dI l_5 <| fun l33 =>
         dC l_6 <| fun l34 =>
         dI l_7 <| fun l35 =>
         dN l_8 <| fun l36 =>
         dI l_9 <| fun l37 =>
         dS l_10 <| fun l38 =>
         bnd (S_fnc_tables l_0 b_1 l30 l31 l32 l33 l34 l35 l36 l37 l38) <| fun p39 =>
         cnd (notB p39.1)
          (some (14, ()))
          (some (0, ())))))
       (qS (eC l_6) <|
       qI (vlen (eC l_6)) <|
       again24 ((wrp .i64 (addI d23.1 1)), ())))
      (joinK (δ := (Bool × Unit)) (cnd (notB (eqI (vlen (eI l_7)) (vlen (eC l_6))))
        (qB (ByteArray.mk (Array.mk l_0)) <|
        qO b_1 <|
        qS (eI l_2) <|
        qS (eI l_3) <|
        qS (eI l_4) <|
        qS (eI l_5) <|
        qS (eC l_6) <|
        qS (eI l_7) <|
        qS (eN l_8) <|
        qS (eI l_9) <|
        qS (eS l_10) <|
        leftK (true, ()))
        (dI l_7 <| fun l40 =>
        bnd (S_lines_Right l40) <| fun p41 =>
        qB (ByteArray.mk (Array.mk l_0)) <|
        qO b_1 <|
        qS (eI l_2) <|
        qS (eI l_3) <|
        qS (eI l_4) <|
        qS (eI l_5) <|
        qS (eC l_6) <|
        qS (eI l_7) <|
        qS (eN l_8) <|
        qS (eI l_9) <|
        qS (eS l_10) <|
        leftK ((notB p41.1), ())))
      <| fun p42 =>
      cnd p42.1
       (some (19, ()))
       (dI l_2 <| fun l43 =>
       dI l_3 <| fun l44 =>
       dI l_4 <| fun l45 =>
       dI l_5 <| fun l46 =>
       dC l_6 <| fun l47 =>
       dI l_7 <| fun l48 =>
       dN l_8 <| fun l49 =>
       dI l_9 <| fun l50 =>
       dS l_10 <| fun l51 =>
       bnd (S_fnc_tables l_0 b_1 l43 l44 l45 l46 l47 l48 l49 l50 l51) <| fun p52 =>
       cnd (notB p52.1)
        (some (14, ()))
        (some (0, ()))))) N (0, ()))))
noncomputable def q_fnc_Can : Lift := ⟨tyX, look2 .todo (α := LoopAs) (.n 150 [(2, (.as ⟨[], [], (.one, [.fix]) :: (.one, [.stat (.clo false 102 [])]) :: rp 5 (.one, [.junk]) ((.one, [.fix]) :: (.one, [.hole tI]) :: rp 10 (.one, [.junk]) ([]))⟩))] (.n 53 [(1032777, (.as ⟨[], [[.fix, .fix, .fix, .fix, .fix, .fix, .fix, .fix, .fix, .fix, .fix]], (.one, [.junk]) :: (.one, [.stat (.ptr 0 0)]) :: (.one, [.junk]) :: (.one, [.stat (.clo false 102 [])]) :: (.one, [.fix]) :: rp 12 (.one, [.junk]) ((.one, [.hole .bool]) :: rp 32 (.one, [.junk]) ([]))⟩)), (1049165, (.as ⟨[], [[.fix, .fix, .fix, .fix, .fix, .fix, .fix, .fix, .fix, .fix, .fix]], (.one, [.junk]) :: (.one, [.stat (.ptr 0 0)]) :: rp 32 (.one, [.junk]) ((.one, [.hole .bool]) :: rp 15 (.one, [.junk]) ([]))⟩))] .o .o) .o), [c_names_May, c_fnc_many, c_fnc_Can_1, c_fnc_types, c_lines_Right, c_fnc_tables], bsX⟩
theorem u_fnc_Can {N : Nat} {a0 : LB} {a1 : Bool} {a2 : LI} {a3 : LI} {a4 : LI} {a5 : LI} {a6 : LC} {a7 : LI} {a8 : LN} {a9 : LI} {a10 : LS} {q : (Int × Unit)} (h : M_fnc_Can N a0 a1 a2 a3 a4 a5 a6 a7 a8 a9 a10 = some q) : S_fnc_Can a0 a1 a2 a3 a4 a5 a6 a7 a8 a9 a10 = some q :=
 Sof_of (Q := q_fnc_Can) (N := N) (n := 3) (f := 53) (tin := i_fnc_Can) (tout := o_fnc_Can) (d := (a0, (a1, (a2, (a3, (a4, (a5, (a6, (a7, (a8, (a9, (a10, ())))))))))))) (all1 k_names_May (all1 k_fnc_many (all1 k_fnc_Can_1 (all1 k_fnc_types (all1 k_lines_Right (all1 k_fnc_tables all0)))))) bs_ok (by kernel_rfl) (by kernel_rfl) (by kernel_rfl) (Eq.trans (b := M_fnc_Can N a0 a1 a2 a3 a4 a5 a6 a7 a8 a9 a10) (by kernel_rfl) h)

end Go.Proofs.YtkdnbnkbnegckaaGreat
namespace Go.Proofs.YtkdnbnkbnegckaaGreat
open Go.RowKit
set_option maxRecDepth 100000
set_option linter.unusedVariables false
end Go.Proofs.YtkdnbnkbnegckaaGreat

namespace Go.Proofs.YtkdnbnkbnegckaaGreat
open Go.RowKit

theorem pow7 (i : Nat) : 2 ^ (7 * (i + 1)) = 2 ^ (7 * i) * 128 := by rw [Nat.mul_add, Nat.pow_add]
theorem sp_ref01_Get {l : List UInt8} (hl : l.length ≤ 140737488351232) : S_ref01_Get l = some (((getB l).1 : Int), (((getB l).2.1 : Int), ((getB l).2.2, ()))) := by
  refine u_ref01_Get (N := l.length + 1) ?_
  unfold M_ref01_Get
  simp
  refine iter_to (fun d => l.length - d.2.2.1.toNat) (fun d => ∃ k n : Nat, d = ((n : Int), (((2 ^ (7 * k) : Nat) : Int), ((k : Int), ()))) ∧ k ≤ l.length ∧ k ≤ 9 ∧ n < 2 ^ (7 * k) ∧ getB l = getG k n (l.drop k)) ?_ _ _ ⟨0, 0, rfl, Nat.zero_le _, by decide, by decide, rfl⟩ (by simp)
  rintro _ again ⟨k, n, rfl, h1, h2, h3, h4⟩ ih
  by_cases hlt : k < l.length
  · have hs := getB_step hlt h4
    have hc := l[k].toNat_lt
    have hg : l[k]? = some l[k] := List.getElem?_eq_getElem hlt
    have hp := pow7 k
    have hp9 : 2 ^ (7 * k) ≤ 9223372036854775808 := Nat.le_trans (Nat.pow_le_pow_right (by decide) (show 7 * k ≤ 63 by omega)) (by decide)
    have hp8 : k ≠ 9 → 2 ^ (7 * k) ≤ 72057594037927936 := fun h => Nat.le_trans (Nat.pow_le_pow_right (by decide) (show 7 * k ≤ 56 by omega)) (by decide)
    obtain ⟨c, hu, hcn⟩ : ∃ c : Nat, u8I l[k] = c ∧ l[k].toNat = c := ⟨_, rfl, rfl⟩
    rw [hcn] at hs hc
    generalize hP : 2 ^ (7 * k) = P at *
    by_cases hA : k = 9 ∧ 1 < c
    · obtain ⟨rfl, hA⟩ := hA
      simp [hg, hu, hs.1 rfl hA, show (1 : Int) < c by omega, show (9 : Int) < l.length by omega]
    · have hA' : k = 9 → c ≤ 1 := by omega
      have hA2 : ¬((k : Int) = 9 ∧ (1 : Int) < c) := by omega
      have ht : (c : Int).tmod 128 = ((c % 128 : Nat) : Int) := by rw [Int.tmod_eq_emod_of_nonneg (by omega)]; omega
      simp [hg, hu, hlt, hA2, ht]
      by_cases hB : 128 ≤ c
      · have hk9 : k ≠ 9 := by omega
        have h8 := hp8 hk9
        have hle : (c - 128) * P ≤ 127 * P := Nat.mul_le_mul_right _ (by omega)
        rw [if_neg (show ¬(c : Int) < 128 by omega)]
        have e1 : c % 128 = c - 128 := by omega
        have e2 : (((c : Int) % 128) * P) = (((c - 128) * P : Nat) : Int) := by rw [show (c : Int) % 128 = ((c - 128 : Nat) : Int) by omega, Int.natCast_mul]
        simp (disch := omega) only [e2, wu64, wi64]
        refine ih _ ⟨k + 1, n + (c - 128) * P, ?_, by omega, by omega, by rw [hp]; omega, hs.2.1 hA' hB⟩ (by simp; omega)
        simp [hp]
      · rw [if_pos (show (c : Int) < 128 by omega)]
        by_cases hC : c = 0 ∧ 0 < k
        · rw [if_pos hC, hs.2.2.1 hA' (by omega) hC.1 hC.2]; rfl
        · rw [if_neg hC, hs.2.2.2 hA' (by omega) (by omega)]
          have hle : c * P < 18446744073709551616 - n := by
            by_cases h9 : k = 9
            · have : c * P ≤ 1 * P := Nat.mul_le_mul_right _ (hA' h9)
              omega
            · have := hp8 h9
              have : c * P ≤ 127 * P := Nat.mul_le_mul_right _ (by omega)
              omega
          have e2 : (((c : Int) % 128) * P) = ((c * P : Nat) : Int) := by rw [show (c : Int) % 128 = (c : Int) by omega, Int.natCast_mul]
          simp (disch := omega) only [e2, wu64, wi64]
          simp
  · have e : k = l.length := by omega
    subst e
    rw [h4]
    simp [getG]
theorem sp_uvar_Get {l : List UInt8} (hl : l.length ≤ 140737488351232) : S_uvar_Get l = some (((getB l).1 : Int), (((getB l).2.1 : Int), ((getB l).2.2, ()))) := by
  refine u_uvar_Get (N := l.length + 1) ?_
  unfold M_uvar_Get
  simp
  refine iter_join (fun d => l.length - d.2.2.2.1.toNat) (fun d => ∃ k n : Nat, d = ((n : Int), (3, (0, ((k : Int), ())))) ∧ k ≤ l.length ∧ k ≤ 9 ∧ n < 2 ^ (7 * k) ∧ getB l = getG k n (l.drop k)) ?_ _ _ ⟨0, 0, rfl, Nat.zero_le _, by decide, by decide, rfl⟩ (by simp)
  rintro _ again ⟨k, n, rfl, h1, h2, h3, h4⟩ ih
  by_cases hlt : k < l.length
  · have hs := getB_step hlt h4
    have hc := l[k].toNat_lt
    have hg : l[k]? = some l[k] := List.getElem?_eq_getElem hlt
    have hp := pow7 k
    have hp9 : 2 ^ (7 * k) ≤ 9223372036854775808 := Nat.le_trans (Nat.pow_le_pow_right (by decide) (show 7 * k ≤ 63 by omega)) (by decide)
    have hp8 : k ≠ 9 → 2 ^ (7 * k) ≤ 72057594037927936 := fun h => Nat.le_trans (Nat.pow_le_pow_right (by decide) (show 7 * k ≤ 56 by omega)) (by decide)
    obtain ⟨c, hu, hcn⟩ : ∃ c : Nat, u8I l[k] = c ∧ l[k].toNat = c := ⟨_, rfl, rfl⟩
    rw [hcn] at hs hc
    by_cases hA : k = 9 ∧ 1 < c
    · obtain ⟨rfl, hA⟩ := hA
      simp [hg, hu, hs.1 rfl hA, show (1 : Int) < c by omega, show (9 : Int) < l.length by omega]
    · have hA' : k = 9 → c ≤ 1 := by omega
      have hA2 : ¬((k : Int) = 9 ∧ (1 : Int) < c) := by omega
      simp [hg, hu, hlt, hA2]
      have s7 : ∀ a : Int, shlI .u64 a (7 * (k : Int)) = a * 2 ^ (7 * k) := fun a => by
        have e : min (7 * (k : Int)).toNat 64 = 7 * k := by omega
        simp only [shlI, IntKind.bits, e]
      by_cases hB : 128 ≤ c
      · have hk9 : k ≠ 9 := by omega
        have h8 := hp8 hk9
        have hle : (c - 128) * 2 ^ (7 * k) ≤ 127 * 2 ^ (7 * k) := Nat.mul_le_mul_right _ (by omega)
        have hO : bitI .or .u64 (n : Int) (wrp .u64 (wrp .u64 (bitI .andNot .u8 (c : Int) 128) * 2 ^ (7 * k))) = ((n + (c - 128) * 2 ^ (7 * k) : Nat) : Int) := by
          rw [show wrp .u64 (bitI .andNot .u8 (c : Int) 128) = ((c - 128 : Nat) : Int) from andNot128 hB hc]
          exact getOr h3 (by omega)
        rw [if_pos (show (128 : Int) ≤ c by omega)]
        simp (disch := omega) only [wi64, s7, hO]
        rw [if_pos (by omega)]
        exact ih _ ⟨k + 1, n + (c - 128) * 2 ^ (7 * k), rfl, by omega, by omega, by rw [hp]; omega, hs.2.1 hA' hB⟩ (by simp; omega)
      · rw [if_neg (show ¬(128 : Int) ≤ c by omega)]
        by_cases hC : c = 0 ∧ 0 < k
        · rw [if_pos hC, hs.2.2.1 hA' (by omega) hC.1 hC.2]; rfl
        · rw [if_neg hC, hs.2.2.2 hA' (by omega) (by omega)]
          have hle : n + c * 2 ^ (7 * k) < 18446744073709551616 := by
            by_cases h9 : k = 9
            · have : c * 2 ^ (7 * k) ≤ 1 * 2 ^ (7 * k) := Nat.mul_le_mul_right _ (hA' h9)
              omega
            · have := hp8 h9
              have : c * 2 ^ (7 * k) ≤ 127 * 2 ^ (7 * k) := Nat.mul_le_mul_right _ (by omega)
              omega
          have hO : bitI .or .u64 (n : Int) (wrp .u64 ((c : Int) * 2 ^ (7 * k))) = ((n + c * 2 ^ (7 * k) : Nat) : Int) := getOr h3 hle
          simp (disch := omega) only [wi64, wu64, s7, hO]
          rw [if_pos (by omega)]
          simp
  · have e : k = l.length := by omega
    subst e
    rw [h4]
    simp [getG]
end Go.Proofs.YtkdnbnkbnegckaaGreat
namespace Go.Proofs.YtkdnbnkbnegckaaGreat
open Go.RowKit

/-- A parser: what bytes begin with, and the bytes behind; or what is wrong. -/
abbrev Pr (α : Type) := Except Int (α × List UInt8)
/-- What a function of the program, that takes from a cursor, comes to (T: results of any shape). -/
def ImT {α : Type} (r : Option (List UInt8 × (Bool × (Int × α)))) (p : Pr α) (z : α) : Prop :=
  match p with
  | .ok (a, l) => r = some (l, (true, (0, a)))
  | .error e => e ≠ 0 ∧ ∃ l, r = some (l, (true, (e, z)))
def Im {α : Type} (r : Option (List UInt8 × (Bool × (Int × (α × Unit))))) (p : Pr α) (z : α) : Prop :=
  match p with
  | .ok (a, l) => r = some (l, (true, (0, (a, ()))))
  | .error e => e ≠ 0 ∧ ∃ l, r = some (l, (true, (e, (z, ()))))
/-- What a function of the document's answer comes to. -/
def Rf {α : Type} (r : Option (α × (List UInt8 × (Int × Unit)))) (p : Pr α) : Prop :=
  match p with
  | .ok (a, l) => r = some (a, (l, (0, ())))
  | .error e => e ≠ 0 ∧ ∃ a l, r = some (a, (l, (e, ())))
/-! Errors, and what a cursor has -/
@[simp] theorem sp_Err {l : List UInt8} {e : Int} : S_cursor_Cursor_Err l true e = some (l, (true, (e, (e, ())))) := u_cursor_Cursor_Err (N := 0) (by simp [M_cursor_Cursor_Err])
@[simp] theorem sp_Fail {l : List UInt8} {e x : Int} : S_cursor_Cursor_Fail l true e x = some (l, (true, ((if e = 0 then x else e), ()))) := u_cursor_Cursor_Fail (N := 0) (by simp [M_cursor_Cursor_Fail]; split <;> simp)
@[simp] theorem sp_Left {l : List UInt8} {e : Int} : S_cursor_Cursor_Left l true e = some (l, (true, (e, ((if e = 0 then (l.length : Int) else 0), ())))) := u_cursor_Cursor_Left (N := 0) (by simp [M_cursor_Cursor_Left]; split <;> simp_all)
@[simp] theorem sp_rfail {l : List UInt8} {e x : Int} : S_ref02_fail l e x = some (l, ((if e = 0 then x else e), ())) := u_ref02_fail (N := 0) (by simp [M_ref02_fail]; split <;> simp)
@[simp] theorem sp_rFail {l : List UInt8} {e x : Int} : S_ref02_Fail l e x = some (l, ((if e = 0 then x else e), ())) := u_ref02_Fail (N := 0) (by simp [M_ref02_Fail])
@[simp] theorem sp_rLeft {l : List UInt8} {e : Int} : S_ref02_Left l e = some ((if e = 0 then (l.length : Int) else 0), ()) := u_ref02_Left (N := 0) (by simp [M_ref02_Left]; split <;> simp_all)
theorem sp_New {l : List UInt8} (hl : l.length ≤ 140737488351232) : S_cursor_New l = some (l, (true, (0, ()))) := u_cursor_New (N := 0) (by simp [M_cursor_New, S_slices_Clone_byte_byte, hl])

/-! Numbers -/
def bitsP (l : List UInt8) : Pr Int := if (getB l).2.2 = 0 then .ok (((getB l).1 : Int), l.drop (getB l).2.1) else .error (getB l).2.2
abbrev Len (l : List UInt8) : Prop := l.length ≤ 140737488351232
theorem bitsP_lt {l l' : List UInt8} {u : Int} (h : bitsP l = .ok (u, l')) : 0 ≤ u ∧ u < 18446744073709551616 := by
  obtain ⟨h1, _⟩ := getB_ok l
  unfold bitsP at h
  split at h
  · simp only [Except.ok.injEq, Prod.mk.injEq] at h; omega
  · cases h
theorem bitsP_len {l l' : List UInt8} {x : Int} (h : bitsP l = .ok (x, l')) : l'.length ≤ l.length := by
  unfold bitsP at h
  split at h
  · simp only [Except.ok.injEq, Prod.mk.injEq] at h; obtain ⟨_, rfl⟩ := h; simp
  · cases h
theorem im_Bits {l : List UInt8} (hl : Len l) : Im (S_cursor_Cursor_Bits l true 0) (bitsP l) 0 := by
  obtain ⟨h1, h2, h3, h4⟩ := getB_ok l
  unfold bitsP
  split
  · rename_i h
    refine u_cursor_Cursor_Bits (N := 0) ?_
    simp [M_cursor_Cursor_Bits, sp_uvar_Get hl, h, h2]
  · rename_i h
    refine ⟨h, l, u_cursor_Cursor_Bits (N := 0) ?_⟩
    simp [M_cursor_Cursor_Bits, sp_uvar_Get hl, h, h4 h]
theorem ime_Bits {l : List UInt8} {e : Int} (he : e ≠ 0) : S_cursor_Cursor_Bits l true e = some (l, (true, (e, (0, ())))) := by
  refine u_cursor_Cursor_Bits (N := 0) ?_
  simp [M_cursor_Cursor_Bits, he]
theorem rf_Bits {l : List UInt8} (hl : Len l) : Rf (S_ref02_Bits l 0) (bitsP l) := by
  obtain ⟨h1, h2, h3, h4⟩ := getB_ok l
  unfold bitsP
  split
  · rename_i h
    refine u_ref02_Bits (N := 0) ?_
    simp [M_ref02_Bits, sp_ref01_Get hl, h, h2]
  · rename_i h
    refine ⟨h, 0, l, u_ref02_Bits (N := 0) ?_⟩
    simp [M_ref02_Bits, sp_ref01_Get hl, h, h4 h]
theorem rfe_Bits {l : List UInt8} {e : Int} (he : e ≠ 0) : S_ref02_Bits l e = some (0, (l, (e, ()))) := by
  refine u_ref02_Bits (N := 0) ?_
  simp [M_ref02_Bits, he]
/-- A number with its sign at the lowest bit, back. -/
def unfoldI (u : Nat) : Int := if u % 2 = 1 then -((u / 2 : Nat) : Int) - 1 else (u / 2 : Nat)

theorem unfold_bits {u : Nat} (hu : u < 18446744073709551616) : bits .xor .i64 ((u : Int) / 2) (wrap64 (-wrap64 (bits .and .u64 (u : Int) 1))) = unfoldI u := by
  have e1 : bits .and .u64 (u : Int) 1 = ((u % 2 : Nat) : Int) := by
    have := u64_and_nat u 1 hu (by decide)
    rw [Nat.and_one_is_mod] at this
    exact this
  have e2 : (u : Int) / 2 = ((u / 2 : Nat) : Int) := by omega
  rw [e1, e2]
  unfold unfoldI
  by_cases h : u % 2 = 1
  · rw [if_pos h, h]
    have e3 : wrap64 (-wrap64 ((1 : Nat) : Int)) = -1 := by unfold wrap64; omega
    rw [e3]
    have h2 := i64_not (u / 2) (by omega)
    have h3 : bits .xor .i64 ((u / 2 : Nat) : Int) (-1) = bits .xor .i64 (-1) ((u / 2 : Nat) : Int) := by
      show IntKind.i64.wrap ((BitVec.ofInt 64 _ ^^^ BitVec.ofInt 64 _).toNat : Int) = IntKind.i64.wrap ((BitVec.ofInt 64 _ ^^^ BitVec.ofInt 64 _).toNat : Int)
      rw [BitVec.xor_comm]
    rw [h3, h2]; omega
  · rw [if_neg h, show u % 2 = 0 by omega]
    have e3 : wrap64 (-wrap64 ((0 : Nat) : Int)) = 0 := by unfold wrap64; omega
    rw [e3]
    show IntKind.i64.wrap ((BitVec.ofInt 64 ((u / 2 : Nat) : Int) ^^^ BitVec.ofInt 64 0).toNat : Int) = _
    have : (BitVec.ofInt 64 ((u / 2 : Nat) : Int) ^^^ BitVec.ofInt 64 0) = BitVec.ofInt 64 ((u / 2 : Nat) : Int) := by
      rw [show BitVec.ofInt 64 0 = 0#64 from rfl, BitVec.xor_zero]
    rw [this, BitVec.ofInt_natCast, BitVec.toNat_ofNat, IntKind.wrap_i64]
    omega
theorem sp_Unfold {u : Int} (h0 : 0 ≤ u) (h1 : u < 18446744073709551616) : S_uvar_Unfold u = some (unfoldI u.toNat, ()) := by
  refine u_uvar_Unfold (N := 0) ?_
  obtain ⟨n, rfl⟩ := Int.eq_ofNat_of_zero_le h0
  have e := unfold_bits (u := n) (by omega)
  have e1 : shrI .u64 (n : Int) 1 = (n : Int) / 2 := by
    show (n : Int).fdiv (2 ^ min (1 : Int).toNat 64) = _
    rw [show (2 : Int) ^ min (1 : Int).toNat 64 = 2 from rfl, Int.fdiv_eq_ediv_of_nonneg _ (by decide)]
  have e2 : ∀ x, wrp .i64 x = wrap64 x := fun x => by rw [wrp, IntKind.wrap_i64, wrap64]
  simp [M_uvar_Unfold, e1]
  rw [wi64 (n := (n : Int) / 2) (by omega) (by omega), e2, e2]
  exact e
theorem sp_rUnfold {u : Int} (h0 : 0 ≤ u) (h1 : u < 18446744073709551616) : S_ref01_Unfold u = some (unfoldI u.toNat, ()) := by
  refine u_ref01_Unfold (N := 0) ?_
  obtain ⟨n, rfl⟩ := Int.eq_ofNat_of_zero_le h0
  have e1 : ((n : Nat) : Int).tmod 2 = ((n % 2 : Nat) : Int) := by rw [Int.tmod_eq_emod_of_nonneg (by omega)]; omega
  have e2 : ((n : Nat) : Int).tdiv 2 = ((n / 2 : Nat) : Int) := by rw [Int.tdiv_eq_ediv_of_nonneg (by omega)]; omega
  simp [M_ref01_Unfold, e1, e2, unfoldI]
  by_cases h : n % 2 = 1
  · rw [if_pos (by omega), if_pos h]
    simp (disch := omega) only [wu64, wi64]
  · rw [if_neg (by omega), if_neg h]
    simp (disch := omega) only [wu64, wi64]
/-- With its sign. -/
def intP (l : List UInt8) : Pr Int :=
  match bitsP l with
  | .ok (u, l) => .ok (unfoldI u.toNat, l)
  | .error e => .error e
theorem im_Int {l : List UInt8} (hl : Len l) : Im (S_cursor_Cursor_Int l true 0) (intP l) 0 := by
  have hb := im_Bits hl
  unfold intP
  cases h : bitsP l with
  | ok p =>
    obtain ⟨u, l'⟩ := p
    obtain ⟨h1, h2⟩ := bitsP_lt h
    rw [h] at hb
    refine u_cursor_Cursor_Int (N := 0) ?_
    simp [M_cursor_Cursor_Int, show S_cursor_Cursor_Bits l true 0 = _ from hb, sp_Unfold h1 h2]
  | error e =>
    rw [h] at hb
    obtain ⟨he, l', hb⟩ := hb
    refine ⟨he, l', u_cursor_Cursor_Int (N := 0) ?_⟩
    simp [M_cursor_Cursor_Int, hb, sp_Unfold (u := 0) (by omega) (by omega), unfoldI]
theorem ime_Int {l : List UInt8} {e : Int} (he : e ≠ 0) : S_cursor_Cursor_Int l true e = some (l, (true, (e, (0, ())))) := by
  refine u_cursor_Cursor_Int (N := 0) ?_
  simp [M_cursor_Cursor_Int, ime_Bits he, sp_Unfold (u := 0) (by omega) (by omega), unfoldI]
theorem rf_Int {l : List UInt8} (hl : Len l) : Rf (S_ref02_Int l 0) (intP l) := by
  have hb := rf_Bits hl
  unfold intP
  cases h : bitsP l with
  | ok p =>
    obtain ⟨u, l'⟩ := p
    obtain ⟨h1, h2⟩ := bitsP_lt h
    rw [h] at hb
    refine u_ref02_Int (N := 0) ?_
    simp [M_ref02_Int, show S_ref02_Bits l 0 = _ from hb, sp_rUnfold h1 h2]
  | error e =>
    rw [h] at hb
    obtain ⟨he, a, l', hb⟩ := hb
    refine ⟨he, 0, l', u_ref02_Int (N := 0) ?_⟩
    simp [M_ref02_Int, hb, he]
theorem rfe_Int {l : List UInt8} {e : Int} (he : e ≠ 0) : S_ref02_Int l e = some (0, (l, (e, ()))) := by
  refine u_ref02_Int (N := 0) ?_
  simp [M_ref02_Int, rfe_Bits he, he]

/-- At most so many. -/
def numP (m : Int) (l : List UInt8) : Pr Int :=
  match bitsP l with
  | .ok (u, l) => if m < u then .error 6 else .ok (u, l)
  | .error e => .error e
theorem im_Num {l : List UInt8} {m : Int} (hl : Len l) (h0 : 0 ≤ m) (hm : m < 9223372036854775808) : Im (S_cursor_Cursor_Num l true 0 m) (numP m l) 0 := by
  have hb := im_Bits hl
  unfold numP
  cases h : bitsP l with
  | ok p =>
    obtain ⟨u, l'⟩ := p
    obtain ⟨h1, h2⟩ := bitsP_lt h
    rw [h] at hb
    simp only
    split
    · refine ⟨by decide, l', u_cursor_Cursor_Num (N := 0) ?_⟩
      simp [M_cursor_Cursor_Num, show S_cursor_Cursor_Bits l true 0 = _ from hb]
      simp (disch := omega) [wu64, *]
    · refine u_cursor_Cursor_Num (N := 0) ?_
      simp [M_cursor_Cursor_Num, show S_cursor_Cursor_Bits l true 0 = _ from hb]
      simp (disch := omega) [wu64, wi64, *]
  | error e =>
    rw [h] at hb
    obtain ⟨he, l', hb⟩ := hb
    refine ⟨he, l', u_cursor_Cursor_Num (N := 0) ?_⟩
    simp [M_cursor_Cursor_Num, hb, he]
theorem ime_Num {l : List UInt8} {e m : Int} (he : e ≠ 0) : S_cursor_Cursor_Num l true e m = some (l, (true, (e, (0, ())))) := by
  refine u_cursor_Cursor_Num (N := 0) ?_
  simp [M_cursor_Cursor_Num, ime_Bits he, he]
theorem rf_Num {l : List UInt8} {m : Int} (hl : Len l) (h0 : 0 ≤ m) (hm : m < 9223372036854775808) : Rf (S_ref02_Num l 0 m) (numP m l) := by
  have hb := rf_Bits hl
  unfold numP
  cases h : bitsP l with
  | ok p =>
    obtain ⟨u, l'⟩ := p
    obtain ⟨h1, h2⟩ := bitsP_lt h
    rw [h] at hb
    simp only
    split
    · refine ⟨by decide, 0, l, u_ref02_Num (N := 0) ?_⟩
      simp [M_ref02_Num, show S_ref02_Bits l 0 = _ from hb]
      simp (disch := omega) [wu64, *]
    · refine u_ref02_Num (N := 0) ?_
      simp [M_ref02_Num, show S_ref02_Bits l 0 = _ from hb]
      simp (disch := omega) [wu64, wi64, *]
  | error e =>
    rw [h] at hb
    obtain ⟨he, a, l', hb⟩ := hb
    refine ⟨he, wrp .i64 a, l', u_ref02_Num (N := 0) ?_⟩
    simp [M_ref02_Num, hb, he]
theorem rfe_Num {l : List UInt8} {e m : Int} (he : e ≠ 0) : S_ref02_Num l e m = some (0, (l, (e, ()))) := by
  refine u_ref02_Num (N := 0) ?_
  simp [M_ref02_Num, rfe_Bits he, he]
theorem numP_ok {m u : Int} {l l' : List UInt8} (h : numP m l = .ok (u, l')) : 0 ≤ u ∧ u ≤ m ∧ l'.length ≤ l.length := by
  unfold numP at h
  split at h
  · rename_i u0 l0 hb
    split at h
    · cases h
    · simp only [Except.ok.injEq, Prod.mk.injEq] at h
      obtain ⟨rfl, rfl⟩ := h
      exact ⟨(bitsP_lt hb).1, by omega, bitsP_len hb⟩
  · cases h

/-! Bytes and texts -/
def byteP : List UInt8 → Pr UInt8
  | [] => .error 3
  | x :: l => .ok (x, l)
theorem im_Byte {l : List UInt8} : Im (S_cursor_Cursor_Byte l true 0) (byteP l) 0 := by
  cases l with
  | nil => exact ⟨by decide, [], u_cursor_Cursor_Byte (N := 0) (by simp [M_cursor_Cursor_Byte])⟩
  | cons x l =>
    refine u_cursor_Cursor_Byte (N := 0) ?_
    simp [M_cursor_Cursor_Byte, show ¬((l.length : Int) + 1 = 0) by omega, show (1 : Int) ≤ l.length + 1 by omega]
theorem ime_Byte {l : List UInt8} {e : Int} (he : e ≠ 0) : S_cursor_Cursor_Byte l true e = some (l, (true, (e, (0, ())))) := by
  refine u_cursor_Cursor_Byte (N := 0) ?_
  simp [M_cursor_Cursor_Byte, he]
theorem rf_Byte {l : List UInt8} : Rf (S_ref02_Byte l 0) (byteP l) := by
  cases l with
  | nil => exact ⟨by decide, 0, [], u_ref02_Byte (N := 0) (by simp [M_ref02_Byte])⟩
  | cons x l =>
    refine u_ref02_Byte (N := 0) ?_
    simp [M_ref02_Byte, show ¬((l.length : Int) + 1 = 0) by omega, show (1 : Int) ≤ l.length + 1 by omega]
theorem rfe_Byte {l : List UInt8} {e : Int} (he : e ≠ 0) : S_ref02_Byte l e = some (0, (l, (e, ()))) := by
  refine u_ref02_Byte (N := 0) ?_
  simp [M_ref02_Byte, he]
def textP (m : Int) (l : List UInt8) : Pr (List UInt8) :=
  match numP m l with
  | .ok (u, l) => if (l.length : Int) < u then .error 3 else .ok (l.take u.toNat, l.drop u.toNat)
  | .error e => .error e
theorem im_Text {l : List UInt8} {m : Int} (hl : Len l) (h0 : 0 ≤ m) (hm : m < 9223372036854775808) : Im (S_cursor_Cursor_Text l true 0 m) (textP m l) [] := by
  have hb := im_Num hl h0 hm
  unfold textP
  cases h : numP m l with
  | ok p =>
    obtain ⟨u, l'⟩ := p
    obtain ⟨h1, h2, h3⟩ := numP_ok h
    rw [h] at hb
    simp only
    split
    · refine ⟨by decide, l', u_cursor_Cursor_Text (N := 0) ?_⟩
      simp [M_cursor_Cursor_Text, show S_cursor_Cursor_Num l true 0 m = _ from hb, *]
    · rename_i hu
      obtain ⟨n, rfl⟩ := Int.eq_ofNat_of_zero_le h1
      have hn : n ≤ l'.length := by omega
      refine u_cursor_Cursor_Text (N := 0) ?_
      simp [M_cursor_Cursor_Text, show S_cursor_Cursor_Num l true 0 m = _ from hb, hn]
  | error e =>
    rw [h] at hb
    obtain ⟨he, l', hb⟩ := hb
    refine ⟨he, l', u_cursor_Cursor_Text (N := 0) ?_⟩
    simp [M_cursor_Cursor_Text, hb, he]
theorem rf_Text {l : List UInt8} {m : Int} (hl : Len l) (h0 : 0 ≤ m) (hm : m < 9223372036854775808) : Rf (S_ref02_Text l 0 m) (textP m l) := by
  have hb := rf_Num hl h0 hm
  unfold textP
  cases h : numP m l with
  | ok p =>
    obtain ⟨u, l'⟩ := p
    obtain ⟨h1, h2, h3⟩ := numP_ok h
    rw [h] at hb
    simp only
    split
    · refine ⟨by decide, [], l', u_ref02_Text (N := 0) ?_⟩
      simp [M_ref02_Text, show S_ref02_Num l 0 m = _ from hb, *]
    · rename_i hu
      obtain ⟨n, rfl⟩ := Int.eq_ofNat_of_zero_le h1
      have hn : n ≤ l'.length := by omega
      refine u_ref02_Text (N := 0) ?_
      simp [M_ref02_Text, show S_ref02_Num l 0 m = _ from hb, hn]
  | error e =>
    rw [h] at hb
    obtain ⟨he, a, l', hb⟩ := hb
    refine ⟨he, [], l', u_ref02_Text (N := 0) ?_⟩
    simp [M_ref02_Text, hb, he]
end Go.Proofs.YtkdnbnkbnegckaaGreat
