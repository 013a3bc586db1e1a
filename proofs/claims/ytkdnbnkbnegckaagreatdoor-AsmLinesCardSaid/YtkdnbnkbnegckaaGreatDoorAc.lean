/- What functions come to: templates, and contracts. Functions, lifted: what the program comes to by them. All lifted functions. -/
import Derived.Test.YtkdnbnkbnegckaaGreatDoorAbA
namespace Go.Proofs.YtkdnbnkbnegckaaGreatDoor
open Go.RowKit
set_option maxRecDepth 100000
def i_file_Can : Tpl := ⟨[], [], [(.agg, [.hole (.sl 11 tF)])]⟩
def o_file_Can : Tpl := ⟨[], [], [(.one, [.hole tI])]⟩
noncomputable def S_file_Can (a0 : LF) : Option (Int × Unit) := Sof Tryz.prog annX plansX 43 i_file_Can o_file_Can (a0, ())
noncomputable def c_file_Can : Ctr := ⟨43, i_file_Can, o_file_Can, fun d => S_file_Can d.1⟩
theorem k_file_Can : (c_file_Can).ok Tryz.prog annX plansX := ctr_ok (tin := i_file_Can) (tout := o_file_Can)
end Go.Proofs.YtkdnbnkbnegckaaGreatDoor
namespace Go.Proofs.YtkdnbnkbnegckaaGreatDoor
open Go.RowKit
set_option maxRecDepth 100000
set_option linter.unusedVariables false
noncomputable def M_file_Can (N : Nat) (l_0 : LF) : Option (Int × Unit) :=
 joinK (δ := Unit) (cnd (ltI (vlen (eF l_0)) 1)
   (rightK <| some (6, ()))
   (cnd (ltI 40 (vlen (eF l_0)))
    (rightK <| some (6, ()))
    (qS (eF l_0) <|
    leftK ())))
 <| fun x1 =>
 dF l_0 <| fun l2 =>
 qS (eF l_0) <|
 qI (vlen (eF l_0)) <|
 iter (fun (d3 : (LF × (Int × Unit))) again4 =>
  cnd (ltI d3.2.1 (vlen (eF l_0)))
   (chk (leI 0 d3.2.1) <|
   getE tF (eF l_0) (natI d3.2.1) <| fun p5 =>
   dI p5.2.2.1 <| fun l6 =>
   dI p5.2.2.2.1 <| fun l7 =>
   dI p5.2.2.2.2.1 <| fun l8 =>
   dI p5.2.2.2.2.2.1 <| fun l9 =>
   dC p5.2.2.2.2.2.2.1 <| fun l10 =>
   dI p5.2.2.2.2.2.2.2.1 <| fun l11 =>
   dN p5.2.2.2.2.2.2.2.2.1 <| fun l12 =>
   dI p5.2.2.2.2.2.2.2.2.2.1 <| fun l13 =>
   dS p5.2.2.2.2.2.2.2.2.2.2 <| fun l14 =>
   bnd (S_fnc_Can p5.1 p5.2.1 l6 l7 l8 l9 l10 l11 l12 l13 l14) <| fun p15 =>
   cnd (notB (eqI p15.1 0))
    (some (p15.1, ()))
    (dF d3.1 <| fun l16 =>
    qS (eF l_0) <|
    qI (vlen (eF l_0)) <|
    again4 (l16, ((wrp .i64 (addI d3.2.1 1)), ()))))
   (dF d3.1 <| fun l17 =>
   bnd (S_file_called l17) <| fun p18 =>
   decL .str (encL .str p18.1) <| fun l19 =>
   bnd (S_names_Unlike l19) <| fun p20 =>
   cnd (notB p20.1)
    (some (7, ()))
    (some (0, ())))) N (l2, (0, ()))
noncomputable def q_file_Can : Lift := ⟨tyX, look2 .todo (α := LoopAs) (.n 43 [(5, (.as ⟨[], [[.hole (.sl 11 tF)]], (.one, [.junk]) :: (.one, [.stat (.ptr 0 0)]) :: rp 15 (.one, [.junk]) ((.one, [.fix]) :: (.one, [.fix]) :: (.one, [.hole tI]) :: rp 13 (.one, [.junk]) ([]))⟩)), (1016389, (.as ⟨[], [[.fix]], (.one, [.junk]) :: (.one, [.stat (.ptr 0 0)]) :: rp 31 (.one, [.junk]) ([])⟩))] .o .o), [c_fnc_Can, c_file_called, c_names_Unlike], bsX⟩
theorem u_file_Can {N : Nat} {a0 : LF} {q : (Int × Unit)} (h : M_file_Can N a0 = some q) : S_file_Can a0 = some q :=
 Sof_of (Q := q_file_Can) (N := N) (n := 3) (f := 43) (tin := i_file_Can) (tout := o_file_Can) (d := (a0, ())) (all1 k_fnc_Can (all1 k_file_called (all1 k_names_Unlike all0))) bs_ok (by kernel_rfl) (by kernel_rfl) (by kernel_rfl) (Eq.trans (b := M_file_Can N a0) (by kernel_rfl) h)

end Go.Proofs.YtkdnbnkbnegckaaGreatDoor

