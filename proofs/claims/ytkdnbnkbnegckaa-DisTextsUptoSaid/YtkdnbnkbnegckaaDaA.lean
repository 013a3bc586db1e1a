/- What functions come to: templates, and contracts. -/
import Derived.Test.YtkdnbnkbnegckaaEvQ
import Derived.Test.YtkdnbnkbnegckaaTok
namespace Go.Proofs.Ytkdnbnkbnegckaa
open Go.RowKit
set_option maxRecDepth 100000
def tyTab : BT (Option Ty) := .n 34 (some tF) (.n 13 (some (.pr .str tW)) (.n 7 (some (.pr tI (.pr tI (.pr .bool tY)))) (.n 4 (some .bool) (.n 3 (some tI) (.n 2 (some tI) .o .o) .o) (.n 6 (some tY) (.n 5 (some tY) .o .o) .o)) (.n 10 (some .str) (.n 9 (some .str) (.n 8 (some (.pr tI (.pr tI (.pr .bool tY)))) .o .o) .o) (.n 12 (some tW) (.n 11 (some .str) .o .o) .o))) (.n 29 (some (.sl 1 tI)) (.n 22 (some (.sl 11 tF)) (.n 21 (some (.int .i32)) (.n 14 (some (.pr .str tW)) .o .o) .o) (.n 24 (some (.sl 11 tF)) (.n 23 (some (.sl 11 tF)) .o .o) .o)) (.n 32 (some (.sl 7 tN)) (.n 31 (some (.sl 1 tI)) (.n 30 (some (.sl 2 tC)) .o .o) .o) (.n 33 (some (.sl 4 tS)) .o .o)))) (.n 81 (some tN) (.n 52 (some tC) (.n 48 (some (.sl 1 .str)) (.n 40 (some (.sl 1 tY)) (.n 35 (some tF) .o .o) .o) (.n 51 (some tC) (.n 50 (some tI) .o .o) .o)) (.n 73 (some tI) (.n 59 (some tI) (.n 58 (some (.sl 1 (.int .i32))) .o .o) .o) (.n 80 (some (.pr tI (.pr tI (.pr tI (.pr tI (.pr tI (.pr tI (.pr tI (.pr tI (.pr tI (.pr tI (.pr tI (.pr tI (.pr tI (.pr tI (.pr tI (.pr tI (.pr tI (.pr tI (.pr tI (.pr tI (.pr tI (.pr tI (.pr tI (.pr tI (.pr tI (.pr tI (.pr tI (.pr tI tN))))))))))))))))))))))))))))) .o .o))) (.n 95 (some tN) (.n 89 (some tY) (.n 88 (some tY) (.n 87 (some (.int .u32)) .o .o) .o) (.n 92 (some (.int .i32)) (.n 91 (some (.int .i32)) .o .o) .o)) (.n 98 (some tS) (.n 97 (some tW) (.n 96 (some tN) .o .o) .o) (.n 99 (some tS) .o .o))))
def tyX : TypeId → Option Ty := tyTab.get none
def bsX : FuncId → Bool := fun f => f == 17 || f == 21 || f == 19 || f == 23 || f == 14 || f == 31 || f == 15
theorem bs_ok : ∀ f a h, (annX.base f a h).isSome = true → bsX f = true := by
 intro f a h hh
 simp only [annX, annOf, baseX, noneX] at hh
 repeat' split at hh
 all_goals first
  | cases hh
  | (rename_i e; subst e; rfl)
def i_ref11_Text : Tpl := ⟨[], [], [(.one, [.hole (.sl 1 tI)])]⟩
def o_ref11_Text : Tpl := ⟨[], [], [(.one, [.hole .str])]⟩
noncomputable def S_ref11_Text (a0 : LI) : Option (List UInt8 × Unit) := chk (leN a0.length 1000000 && true) (some (textB a0, ()))
noncomputable def c_ref11_Text : Ctr := ⟨31, i_ref11_Text, o_ref11_Text, fun d => S_ref11_Text d.1⟩
theorem k_ref11_Text : (c_ref11_Text).ok Try.prog annX plansX := fun d q h args0 hw => by
 obtain ⟨h1, h2⟩ := chk_ok h
 cases h2
 simp only [Bool.and_eq_true] at h1
 refine callW_base ?_
 rw [hw]
 exact typesX_of (Nat.le_trans (of_decide_eq_true h1.1) (by decide))
def i_ref18_Head : Tpl := ⟨[], [], [(.agg, [.hole .str, .hole .bool, .hole (.sl 1 tI), .hole (.sl 1 tI), .hole (.sl 1 tI), .hole (.sl 1 tI), .hole (.sl 2 tC), .hole (.sl 1 tI), .hole (.sl 7 tN), .hole (.sl 1 tI), .hole (.sl 4 tS)])]⟩
def o_ref18_Head : Tpl := ⟨[], [], [(.one, [.hole .str])]⟩
noncomputable def S_ref18_Head (a0 : LB) (a1 : Bool) (a2 : LI) (a3 : LI) (a4 : LI) (a5 : LI) (a6 : LC) (a7 : LI) (a8 : LN) (a9 : LI) (a10 : LS) : Option (LB × Unit) := Sof Try.prog annX plansX 20 i_ref18_Head o_ref18_Head (a0, (a1, (a2, (a3, (a4, (a5, (a6, (a7, (a8, (a9, (a10, ())))))))))))
noncomputable def c_ref18_Head : Ctr := ⟨20, i_ref18_Head, o_ref18_Head, fun d => S_ref18_Head d.1 d.2.1 d.2.2.1 d.2.2.2.1 d.2.2.2.2.1 d.2.2.2.2.2.1 d.2.2.2.2.2.2.1 d.2.2.2.2.2.2.2.1 d.2.2.2.2.2.2.2.2.1 d.2.2.2.2.2.2.2.2.2.1 d.2.2.2.2.2.2.2.2.2.2.1⟩
theorem k_ref18_Head : (c_ref18_Head).ok Try.prog annX plansX := ctr_ok (tin := i_ref18_Head) (tout := o_ref18_Head)
def i_ref12_At : Tpl := ⟨[], [], [(.one, [.hole (.sl 1 tI)]), (.one, [.hole tI])]⟩
def o_ref12_At : Tpl := ⟨[], [], [(.one, [.hole tI])]⟩
noncomputable def S_ref12_At (a0 : LI) (a1 : Int) : Option (Int × Unit) := Sof Try.prog annX plansX 22 i_ref12_At o_ref12_At (a0, (a1, ()))
noncomputable def c_ref12_At : Ctr := ⟨22, i_ref12_At, o_ref12_At, fun d => S_ref12_At d.1 d.2.1⟩
theorem k_ref12_At : (c_ref12_At).ok Try.prog annX plansX := ctr_ok (tin := i_ref12_At) (tout := o_ref12_At)
def i_ref05_Digits : Tpl := ⟨[], [], [(.one, [.hole tI])]⟩
def o_ref05_Digits : Tpl := ⟨[], [], [(.one, [.hole .str])]⟩
noncomputable def S_ref05_Digits (a0 : Int) : Option (List UInt8 × Unit) := chk (leI (-9223372036854775808) a0 && leI a0 9223372036854775807) (some (decB a0, ()))
noncomputable def c_ref05_Digits : Ctr := ⟨21, i_ref05_Digits, o_ref05_Digits, fun d => S_ref05_Digits d.1⟩
theorem k_ref05_Digits : (c_ref05_Digits).ok Try.prog annX plansX := fun d q h args0 hw => by
 obtain ⟨h1, h2⟩ := chk_ok h
 cases h2
 simp only [Bool.and_eq_true] at h1
 refine callW_base ?_
 rw [hw]
 exact digX_of (of_decide_eq_true h1.1) (of_decide_eq_true h1.2)
def i_ref10_Text : Tpl := ⟨[], [], [(.agg, [.hole tI, .hole tI])]⟩
def o_ref10_Text : Tpl := ⟨[], [], [(.one, [.hole .str])]⟩
noncomputable def S_ref10_Text (a0 : Int) (a1 : Int) : Option (List UInt8 × Unit) := chk (leI (-9223372036854775808) a1 && leI a1 9223372036854775807) (some (textI (a0, a1), ()))
noncomputable def c_ref10_Text : Ctr := ⟨23, i_ref10_Text, o_ref10_Text, fun d => S_ref10_Text d.1 d.2.1⟩
theorem k_ref10_Text : (c_ref10_Text).ok Try.prog annX plansX := fun d q h args0 hw => by
 obtain ⟨h1, h2⟩ := chk_ok h
 cases h2
 simp only [Bool.and_eq_true] at h1
 refine callW_base ?_
 rw [hw]
 exact instrX_of (of_decide_eq_true h1.1) (of_decide_eq_true h1.2)
def i_ref18_Func : Tpl := ⟨[], [], [(.agg, [.hole .str, .hole .bool, .hole (.sl 1 tI), .hole (.sl 1 tI), .hole (.sl 1 tI), .hole (.sl 1 tI), .hole (.sl 2 tC), .hole (.sl 1 tI), .hole (.sl 7 tN), .hole (.sl 1 tI), .hole (.sl 4 tS)])]⟩
def o_ref18_Func : Tpl := ⟨[], [], [(.one, [.hole .str])]⟩
noncomputable def S_ref18_Func (a0 : LB) (a1 : Bool) (a2 : LI) (a3 : LI) (a4 : LI) (a5 : LI) (a6 : LC) (a7 : LI) (a8 : LN) (a9 : LI) (a10 : LS) : Option (LB × Unit) := Sof Try.prog annX plansX 13 i_ref18_Func o_ref18_Func (a0, (a1, (a2, (a3, (a4, (a5, (a6, (a7, (a8, (a9, (a10, ())))))))))))
noncomputable def c_ref18_Func : Ctr := ⟨13, i_ref18_Func, o_ref18_Func, fun d => S_ref18_Func d.1 d.2.1 d.2.2.1 d.2.2.2.1 d.2.2.2.2.1 d.2.2.2.2.2.1 d.2.2.2.2.2.2.1 d.2.2.2.2.2.2.2.1 d.2.2.2.2.2.2.2.2.1 d.2.2.2.2.2.2.2.2.2.1 d.2.2.2.2.2.2.2.2.2.2.1⟩
theorem k_ref18_Func : (c_ref18_Func).ok Try.prog annX plansX := ctr_ok (tin := i_ref18_Func) (tout := o_ref18_Func)
def i_ref18_Text : Tpl := ⟨[], [], [(.agg, [.hole (.sl 11 tF)])]⟩
def o_ref18_Text : Tpl := ⟨[], [], [(.one, [.hole .str])]⟩
noncomputable def S_ref18_Text (a0 : LF) : Option (LB × Unit) := Sof Try.prog annX plansX 7 i_ref18_Text o_ref18_Text (a0, ())
noncomputable def c_ref18_Text : Ctr := ⟨7, i_ref18_Text, o_ref18_Text, fun d => S_ref18_Text d.1⟩
theorem k_ref18_Text : (c_ref18_Text).ok Try.prog annX plansX := ctr_ok (tin := i_ref18_Text) (tout := o_ref18_Text)
def i_sig_Text : Tpl := ⟨[], [], [(.one, [.hole (.sl 1 tI)])]⟩
def o_sig_Text : Tpl := ⟨[], [], [(.one, [.hole .str])]⟩
noncomputable def S_sig_Text (a0 : LI) : Option (List UInt8 × Unit) := chk (leN a0.length 1000000 && true) (some (textB a0, ()))
noncomputable def c_sig_Text : Ctr := ⟨14, i_sig_Text, o_sig_Text, fun d => S_sig_Text d.1⟩
theorem k_sig_Text : (c_sig_Text).ok Try.prog annX plansX := fun d q h args0 hw => by
 obtain ⟨h1, h2⟩ := chk_ok h
 cases h2
 simp only [Bool.and_eq_true] at h1
 refine callW_base ?_
 rw [hw]
 exact typesX_of (Nat.le_trans (of_decide_eq_true h1.1) (by decide))
def i_strings_Join : Tpl := ⟨[], [], [(.one, [.hole (.sl 1 .str)]), (.one, [.hole .str])]⟩
def o_strings_Join : Tpl := ⟨[], [], [(.one, [.hole .str])]⟩
noncomputable def S_strings_Join (a0 : (List LB)) (a1 : LB) : Option (List UInt8 × Unit) := chk ((leN 1 a0.length && leN a0.length 1000000) && leN (Lib.join a0 a1).length 140737488355328) (some (Lib.join a0 a1, ()))
noncomputable def c_strings_Join : Ctr := ⟨15, i_strings_Join, o_strings_Join, fun d => S_strings_Join d.1 d.2.1⟩
theorem k_strings_Join : (c_strings_Join).ok Try.prog annX plansX := fun d q h args0 hw => by
 obtain ⟨h1, h2⟩ := chk_ok h
 cases h2
 simp only [Bool.and_eq_true] at h1
 refine callW_base ?_
 rw [hw]
 exact joinX_of (of_decide_eq_true h1.1.1) (of_decide_eq_true h1.1.2) (of_decide_eq_true h1.2)
def i_dis_Head : Tpl := ⟨[], [], [(.agg, [.hole .str, .hole .bool, .hole (.sl 1 tI), .hole (.sl 1 tI), .hole (.sl 1 tI), .hole (.sl 1 tI), .hole (.sl 2 tC), .hole (.sl 1 tI), .hole (.sl 7 tN), .hole (.sl 1 tI), .hole (.sl 4 tS)])]⟩
def o_dis_Head : Tpl := ⟨[], [], [(.one, [.hole .str])]⟩
noncomputable def S_dis_Head (a0 : LB) (a1 : Bool) (a2 : LI) (a3 : LI) (a4 : LI) (a5 : LI) (a6 : LC) (a7 : LI) (a8 : LN) (a9 : LI) (a10 : LS) : Option (LB × Unit) := Sof Try.prog annX plansX 9 i_dis_Head o_dis_Head (a0, (a1, (a2, (a3, (a4, (a5, (a6, (a7, (a8, (a9, (a10, ())))))))))))
noncomputable def c_dis_Head : Ctr := ⟨9, i_dis_Head, o_dis_Head, fun d => S_dis_Head d.1 d.2.1 d.2.2.1 d.2.2.2.1 d.2.2.2.2.1 d.2.2.2.2.2.1 d.2.2.2.2.2.2.1 d.2.2.2.2.2.2.2.1 d.2.2.2.2.2.2.2.2.1 d.2.2.2.2.2.2.2.2.2.1 d.2.2.2.2.2.2.2.2.2.2.1⟩
theorem k_dis_Head : (c_dis_Head).ok Try.prog annX plansX := ctr_ok (tin := i_dis_Head) (tout := o_dis_Head)
def i_law15_Small : Tpl := ⟨[], [], [(.agg, [.hole .str, .hole .bool, .hole (.sl 1 tI), .hole (.sl 1 tI), .hole (.sl 1 tI), .hole (.sl 1 tI), .hole (.sl 2 tC), .hole (.sl 1 tI), .hole (.sl 7 tN), .hole (.sl 1 tI), .hole (.sl 4 tS)])]⟩
def o_law15_Small : Tpl := ⟨[], [], [(.one, [.hole .bool])]⟩
noncomputable def S_law15_Small (a0 : LB) (a1 : Bool) (a2 : LI) (a3 : LI) (a4 : LI) (a5 : LI) (a6 : LC) (a7 : LI) (a8 : LN) (a9 : LI) (a10 : LS) : Option (Bool × Unit) := Sof Try.prog annX plansX 8 i_law15_Small o_law15_Small (a0, (a1, (a2, (a3, (a4, (a5, (a6, (a7, (a8, (a9, (a10, ())))))))))))
noncomputable def c_law15_Small : Ctr := ⟨8, i_law15_Small, o_law15_Small, fun d => S_law15_Small d.1 d.2.1 d.2.2.1 d.2.2.2.1 d.2.2.2.2.1 d.2.2.2.2.2.1 d.2.2.2.2.2.2.1 d.2.2.2.2.2.2.2.1 d.2.2.2.2.2.2.2.2.1 d.2.2.2.2.2.2.2.2.2.1 d.2.2.2.2.2.2.2.2.2.2.1⟩
theorem k_law15_Small : (c_law15_Small).ok Try.prog annX plansX := ctr_ok (tin := i_law15_Small) (tout := o_law15_Small)
def i_law16_Small : Tpl := ⟨[], [], [(.agg, [.hole (.sl 11 tF)])]⟩
def o_law16_Small : Tpl := ⟨[], [], [(.one, [.hole .bool])]⟩
noncomputable def S_law16_Small (a0 : LF) : Option (Bool × Unit) := Sof Try.prog annX plansX 4 i_law16_Small o_law16_Small (a0, ())
noncomputable def c_law16_Small : Ctr := ⟨4, i_law16_Small, o_law16_Small, fun d => S_law16_Small d.1⟩
theorem k_law16_Small : (c_law16_Small).ok Try.prog annX plansX := ctr_ok (tin := i_law16_Small) (tout := o_law16_Small)
def i_lines_At : Tpl := ⟨[], [], [(.one, [.hole (.sl 1 tI)]), (.one, [.hole tI])]⟩
def o_lines_At : Tpl := ⟨[], [], [(.one, [.hole tI])]⟩
noncomputable def S_lines_At (a0 : LI) (a1 : Int) : Option (Int × Unit) := Sof Try.prog annX plansX 18 i_lines_At o_lines_At (a0, (a1, ()))
noncomputable def c_lines_At : Ctr := ⟨18, i_lines_At, o_lines_At, fun d => S_lines_At d.1 d.2.1⟩
theorem k_lines_At : (c_lines_At).ok Try.prog annX plansX := ctr_ok (tin := i_lines_At) (tout := o_lines_At)
theorem all0 : ∀ c ∈ ([] : List Ctr), c.ok Try.prog annX plansX := fun _ h => by simp at h
theorem all1 {c : Ctr} {cs : List Ctr} (h : c.ok Try.prog annX plansX) (hs : ∀ c ∈ cs, c.ok Try.prog annX plansX) : ∀ d ∈ c :: cs, d.ok Try.prog annX plansX := fun d hd => by
 rcases List.mem_cons.1 hd with rfl | h2
 · exact h
 · exact hs d h2
end Go.Proofs.Ytkdnbnkbnegckaa
