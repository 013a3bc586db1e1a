/- Functions, lifted: what the program comes to by them. -/
import Derived.Test.YtkdnbnkbnegckaaGreatLwA
namespace Go.Proofs.YtkdnbnkbnegckaaGreat
open Go.RowKit
set_option maxRecDepth 100000
set_option linter.unusedVariables false
noncomputable def M_ref15_Take (N : Nat) (l_0 : LB) (n_1 : Int) : Option (LB × (Bool × (LI × (LI × (LI × (LI × (LC × (LI × (LN × (LI × (LS × (LB × (Int × Unit))))))))))))) :=
 dY l_0 <| fun l1 =>
 bnd (S_ref02_Text l1 n_1 12) <| fun p2 =>
 joinK (δ := (LC × (LB × (Int × (LB × (Bool × (Int × (LB × (Bool × (LI × (LI × (LI × (LI × (LI × (LN × (LI × (LS × Unit))))))))))))))))) (joinK (δ := (Bool × Unit)) (cnd (eqI p2.2.2.1 0)
    (bnd (S_ref05_May p2.1) <| fun p3 =>
    qS [] <|
    qS (eY p2.2.1) <|
    qI p2.2.2.1 <|
    qB bA0 <|
    qB (ByteArray.mk (Array.mk p2.1)) <|
    qS [] <|
    qS [] <|
    qS [] <|
    qS [] <|
    qS [] <|
    qS [] <|
    qS [] <|
    qS [] <|
    leftK ((notB p3.1), ()))
    (qS [] <|
    qS (eY p2.2.1) <|
    qI p2.2.2.1 <|
    qB bA0 <|
    qB (ByteArray.mk (Array.mk p2.1)) <|
    qS [] <|
    qS [] <|
    qS [] <|
    qS [] <|
    qS [] <|
    qS [] <|
    qS [] <|
    qS [] <|
    leftK (false, ())))
  <| fun p4 =>
  cnd p4.1
   (dY p2.2.1 <| fun l5 =>
   bnd (S_ref02_Fail l5 p2.2.2.1 7) <| fun p6 =>
   decL tC [] <| fun l7 =>
   dY p6.1 <| fun l8 =>
   decL tI [] <| fun l9 =>
   decL tI [] <| fun l10 =>
   decL tI [] <| fun l11 =>
   decL tI [] <| fun l12 =>
   decL tI [] <| fun l13 =>
   decL tN [] <| fun l14 =>
   decL tI [] <| fun l15 =>
   decL tS [] <| fun l16 =>
   leftK (l7, (l8, (p6.2.1, ([], (false, (0, (p2.1, (false, (l9, (l10, (l11, (l12, (l13, (l14, (l15, (l16, ())))))))))))))))))
   (decL tC [] <| fun l17 =>
   dY p2.2.1 <| fun l18 =>
   decL tI [] <| fun l19 =>
   decL tI [] <| fun l20 =>
   decL tI [] <| fun l21 =>
   decL tI [] <| fun l22 =>
   decL tI [] <| fun l23 =>
   decL tN [] <| fun l24 =>
   decL tI [] <| fun l25 =>
   decL tS [] <| fun l26 =>
   leftK (l17, (l18, (p2.2.2.1, ([], (false, (0, (p2.1, (false, (l19, (l20, (l21, (l22, (l23, (l24, (l25, (l26, ()))))))))))))))))))
 <| fun p27 =>
 dY p27.2.1 <| fun l28 =>
 bnd (S_ref02_Byte l28 p27.2.2.1) <| fun p29 =>
 joinK (δ := (LC × (LB × (Int × (LB × (Bool × (Int × (LB × (Bool × (LI × (LI × (LI × (LI × (LI × (LN × (LI × (LS × Unit))))))))))))))))) (joinK (δ := (Bool × Unit)) (cnd (eqI p29.2.2.1 0)
    (qS (eC p27.1) <|
    qS (eY p29.2.1) <|
    qI p29.2.2.1 <|
    qB (ByteArray.mk (Array.mk p27.2.2.2.1)) <|
    qO p27.2.2.2.2.1 <|
    qI p27.2.2.2.2.2.1 <|
    qB (ByteArray.mk (Array.mk p27.2.2.2.2.2.2.1)) <|
    qO p27.2.2.2.2.2.2.2.1 <|
    qS (eI p27.2.2.2.2.2.2.2.2.1) <|
    qS (eI p27.2.2.2.2.2.2.2.2.2.1) <|
    qS (eI p27.2.2.2.2.2.2.2.2.2.2.1) <|
    qS (eI p27.2.2.2.2.2.2.2.2.2.2.2.1) <|
    qN (vnum (eC p27.1)) <|
    qS (eI p27.2.2.2.2.2.2.2.2.2.2.2.2.1) <|
    qS (eN p27.2.2.2.2.2.2.2.2.2.2.2.2.2.1) <|
    qS (eI p27.2.2.2.2.2.2.2.2.2.2.2.2.2.2.1) <|
    qS (eS p27.2.2.2.2.2.2.2.2.2.2.2.2.2.2.2.1) <|
    qI (u8I p29.1) <|
    leftK ((ltI 3 (u8I p29.1)), ()))
    (qS (eC p27.1) <|
    qS (eY p29.2.1) <|
    qI p29.2.2.1 <|
    qB (ByteArray.mk (Array.mk p27.2.2.2.1)) <|
    qO p27.2.2.2.2.1 <|
    qI p27.2.2.2.2.2.1 <|
    qB (ByteArray.mk (Array.mk p27.2.2.2.2.2.2.1)) <|
    qO p27.2.2.2.2.2.2.2.1 <|
    qS (eI p27.2.2.2.2.2.2.2.2.1) <|
    qS (eI p27.2.2.2.2.2.2.2.2.2.1) <|
    qS (eI p27.2.2.2.2.2.2.2.2.2.2.1) <|
    qS (eI p27.2.2.2.2.2.2.2.2.2.2.2.1) <|
    qN (vnum (eC p27.1)) <|
    qS (eI p27.2.2.2.2.2.2.2.2.2.2.2.2.1) <|
    qS (eN p27.2.2.2.2.2.2.2.2.2.2.2.2.2.1) <|
    qS (eI p27.2.2.2.2.2.2.2.2.2.2.2.2.2.2.1) <|
    qS (eS p27.2.2.2.2.2.2.2.2.2.2.2.2.2.2.2.1) <|
    qI (u8I p29.1) <|
    leftK (false, ())))
  <| fun p30 =>
  cnd p30.1
   (dY p29.2.1 <| fun l31 =>
   bnd (S_ref02_Fail l31 p29.2.2.1 5) <| fun p32 =>
   dC p27.1 <| fun l33 =>
   dY p32.1 <| fun l34 =>
   dI p27.2.2.2.2.2.2.2.2.1 <| fun l35 =>
   dI p27.2.2.2.2.2.2.2.2.2.1 <| fun l36 =>
   dI p27.2.2.2.2.2.2.2.2.2.2.1 <| fun l37 =>
   dI p27.2.2.2.2.2.2.2.2.2.2.2.1 <| fun l38 =>
   qN (vnum (eC p27.1)) <|
   dI p27.2.2.2.2.2.2.2.2.2.2.2.2.1 <| fun l39 =>
   dN p27.2.2.2.2.2.2.2.2.2.2.2.2.2.1 <| fun l40 =>
   dI p27.2.2.2.2.2.2.2.2.2.2.2.2.2.2.1 <| fun l41 =>
   dS p27.2.2.2.2.2.2.2.2.2.2.2.2.2.2.2.1 <| fun l42 =>
   qI (u8I p29.1) <|
   leftK (l33, (l34, (p32.2.1, (p27.2.2.2.1, (p27.2.2.2.2.1, (p27.2.2.2.2.2.1, (p27.2.2.2.2.2.2.1, (p27.2.2.2.2.2.2.2.1, (l35, (l36, (l37, (l38, (l39, (l40, (l41, (l42, ())))))))))))))))))
   (dC p27.1 <| fun l43 =>
   dY p29.2.1 <| fun l44 =>
   dI p27.2.2.2.2.2.2.2.2.1 <| fun l45 =>
   dI p27.2.2.2.2.2.2.2.2.2.1 <| fun l46 =>
   dI p27.2.2.2.2.2.2.2.2.2.2.1 <| fun l47 =>
   dI p27.2.2.2.2.2.2.2.2.2.2.2.1 <| fun l48 =>
   qN (vnum (eC p27.1)) <|
   dI p27.2.2.2.2.2.2.2.2.2.2.2.2.1 <| fun l49 =>
   dN p27.2.2.2.2.2.2.2.2.2.2.2.2.2.1 <| fun l50 =>
   dI p27.2.2.2.2.2.2.2.2.2.2.2.2.2.2.1 <| fun l51 =>
   dS p27.2.2.2.2.2.2.2.2.2.2.2.2.2.2.2.1 <| fun l52 =>
   qI (u8I p29.1) <|
   leftK (l43, (l44, (p29.2.2.1, (p27.2.2.2.1, (p27.2.2.2.2.1, (p27.2.2.2.2.2.1, (p27.2.2.2.2.2.2.1, (p27.2.2.2.2.2.2.2.1, (l45, (l46, (l47, (l48, (l49, (l50, (l51, (l52, ()))))))))))))))))))
 <| fun p53 =>
 joinK (δ := (LC × (LB × (Int × (LB × (Bool × (Int × (LB × (Bool × (LI × (LI × (LI × (LI × (LI × (LN × (LI × (LS × Unit))))))))))))))))) (cnd (eqI (remI (u8I p29.1) 2) 1)
   (dY p53.2.1 <| fun l54 =>
   bnd (S_ref11_Take l54 p53.2.2.1 4) <| fun p55 =>
   dC p53.1 <| fun l56 =>
   dY p55.2.1 <| fun l57 =>
   dI p55.1 <| fun l58 =>
   dI p53.2.2.2.2.2.2.2.2.2.1 <| fun l59 =>
   dI p53.2.2.2.2.2.2.2.2.2.2.1 <| fun l60 =>
   dI p53.2.2.2.2.2.2.2.2.2.2.2.1 <| fun l61 =>
   qN (vnum (eC p53.1)) <|
   dI p53.2.2.2.2.2.2.2.2.2.2.2.2.1 <| fun l62 =>
   dN p53.2.2.2.2.2.2.2.2.2.2.2.2.2.1 <| fun l63 =>
   dI p53.2.2.2.2.2.2.2.2.2.2.2.2.2.2.1 <| fun l64 =>
   dS p53.2.2.2.2.2.2.2.2.2.2.2.2.2.2.2.1 <| fun l65 =>
   qI (u8I p29.1) <|
   leftK (l56, (l57, (p55.2.2.1, (p53.2.2.2.1, (p53.2.2.2.2.1, (p53.2.2.2.2.2.1, (p53.2.2.2.2.2.2.1, ((eqI (remI (u8I p29.1) 2) 1), (l58, (l59, (l60, (l61, (l62, (l63, (l64, (l65, ())))))))))))))))))
   (dC p53.1 <| fun l66 =>
   dY p53.2.1 <| fun l67 =>
   dI p53.2.2.2.2.2.2.2.2.1 <| fun l68 =>
   dI p53.2.2.2.2.2.2.2.2.2.1 <| fun l69 =>
   dI p53.2.2.2.2.2.2.2.2.2.2.1 <| fun l70 =>
   dI p53.2.2.2.2.2.2.2.2.2.2.2.1 <| fun l71 =>
   qN (vnum (eC p53.1)) <|
   dI p53.2.2.2.2.2.2.2.2.2.2.2.2.1 <| fun l72 =>
   dN p53.2.2.2.2.2.2.2.2.2.2.2.2.2.1 <| fun l73 =>
   dI p53.2.2.2.2.2.2.2.2.2.2.2.2.2.2.1 <| fun l74 =>
   dS p53.2.2.2.2.2.2.2.2.2.2.2.2.2.2.2.1 <| fun l75 =>
   qI (u8I p29.1) <|
   leftK (l66, (l67, (p53.2.2.1, (p53.2.2.2.1, (p53.2.2.2.2.1, (p53.2.2.2.2.2.1, (p53.2.2.2.2.2.2.1, ((eqI (remI (u8I p29.1) 2) 1), (l68, (l69, (l70, (l71, (l72, (l73, (l74, (l75, ()))))))))))))))))))
 <| fun p76 =>
 dY p76.2.1 <| fun l77 =>
 bnd (S_ref11_Take l77 p76.2.2.1 8) <| fun p78 =>
 dY p78.2.1 <| fun l79 =>
 bnd (S_ref11_Take l79 p78.2.2.1 4) <| fun p80 =>
 dY p80.2.1 <| fun l81 =>
 bnd (S_ref11_Take l81 p80.2.2.1 256) <| fun p82 =>
 joinK (δ := (LC × (LB × (Int × (LB × (Bool × (Int × (LB × (Bool × (LI × (LI × (LI × (LI × (LI × (LN × (LI × (LS × Unit))))))))))))))))) (joinK (δ := (Bool × Unit)) (cnd (eqI p82.2.2.1 0)
    (qS (eC p76.1) <|
    qS (eY p82.2.1) <|
    qI p82.2.2.1 <|
    qB (ByteArray.mk (Array.mk p76.2.2.2.1)) <|
    qO p76.2.2.2.2.1 <|
    qI p76.2.2.2.2.2.1 <|
    qB (ByteArray.mk (Array.mk p76.2.2.2.2.2.2.1)) <|
    qO p76.2.2.2.2.2.2.2.1 <|
    qS (eI p76.2.2.2.2.2.2.2.2.1) <|
    qS (eI p78.1) <|
    qS (eI p80.1) <|
    qS (eI p82.1) <|
    qN (vnum (eC p76.1)) <|
    qS (eI p76.2.2.2.2.2.2.2.2.2.2.2.2.1) <|
    qS (eN p76.2.2.2.2.2.2.2.2.2.2.2.2.2.1) <|
    qS (eI p76.2.2.2.2.2.2.2.2.2.2.2.2.2.2.1) <|
    qS (eS p76.2.2.2.2.2.2.2.2.2.2.2.2.2.2.2.1) <|
    qI (u8I p29.1) <|
    qI (wrp .i64 (addI (wrp .i64 (addI (vlen (eI p78.1)) (vlen (eI p80.1)))) (vlen (eI p82.1)))) <|
    leftK ((ltI 256 (wrp .i64 (addI (wrp .i64 (addI (vlen (eI p78.1)) (vlen (eI p80.1)))) (vlen (eI p82.1))))), ()))
    (qS (eC p76.1) <|
    qS (eY p82.2.1) <|
    qI p82.2.2.1 <|
    qB (ByteArray.mk (Array.mk p76.2.2.2.1)) <|
    qO p76.2.2.2.2.1 <|
    qI p76.2.2.2.2.2.1 <|
    qB (ByteArray.mk (Array.mk p76.2.2.2.2.2.2.1)) <|
    qO p76.2.2.2.2.2.2.2.1 <|
    qS (eI p76.2.2.2.2.2.2.2.2.1) <|
    qS (eI p78.1) <|
    qS (eI p80.1) <|
    qS (eI p82.1) <|
    qN (vnum (eC p76.1)) <|
    qS (eI p76.2.2.2.2.2.2.2.2.2.2.2.2.1) <|
    qS (eN p76.2.2.2.2.2.2.2.2.2.2.2.2.2.1) <|
    qS (eI p76.2.2.2.2.2.2.2.2.2.2.2.2.2.2.1) <|
    qS (eS p76.2.2.2.2.2.2.2.2.2.2.2.2.2.2.2.1) <|
    qI (u8I p29.1) <|
    qI (wrp .i64 (addI (wrp .i64 (addI (vlen (eI p78.1)) (vlen (eI p80.1)))) (vlen (eI p82.1)))) <|
    leftK (false, ())))
  <| fun p83 =>
  cnd p83.1
   (dY p82.2.1 <| fun l84 =>
   bnd (S_ref02_Fail l84 p82.2.2.1 6) <| fun p85 =>
   dC p76.1 <| fun l86 =>
   dY p85.1 <| fun l87 =>
   dI p76.2.2.2.2.2.2.2.2.1 <| fun l88 =>
   dI p78.1 <| fun l89 =>
   dI p80.1 <| fun l90 =>
   dI p82.1 <| fun l91 =>
   qN (vnum (eC p76.1)) <|
   dI p76.2.2.2.2.2.2.2.2.2.2.2.2.1 <| fun l92 =>
   dN p76.2.2.2.2.2.2.2.2.2.2.2.2.2.1 <| fun l93 =>
   dI p76.2.2.2.2.2.2.2.2.2.2.2.2.2.2.1 <| fun l94 =>
   dS p76.2.2.2.2.2.2.2.2.2.2.2.2.2.2.2.1 <| fun l95 =>
   qI (u8I p29.1) <|
   qI (wrp .i64 (addI (wrp .i64 (addI (vlen (eI p78.1)) (vlen (eI p80.1)))) (vlen (eI p82.1)))) <|
   leftK (l86, (l87, (p85.2.1, (p76.2.2.2.1, (p76.2.2.2.2.1, (p76.2.2.2.2.2.1, (p76.2.2.2.2.2.2.1, (p76.2.2.2.2.2.2.2.1, (l88, (l89, (l90, (l91, (l92, (l93, (l94, (l95, ())))))))))))))))))
   (dC p76.1 <| fun l96 =>
   dY p82.2.1 <| fun l97 =>
   dI p76.2.2.2.2.2.2.2.2.1 <| fun l98 =>
   dI p78.1 <| fun l99 =>
   dI p80.1 <| fun l100 =>
   dI p82.1 <| fun l101 =>
   qN (vnum (eC p76.1)) <|
   dI p76.2.2.2.2.2.2.2.2.2.2.2.2.1 <| fun l102 =>
   dN p76.2.2.2.2.2.2.2.2.2.2.2.2.2.1 <| fun l103 =>
   dI p76.2.2.2.2.2.2.2.2.2.2.2.2.2.2.1 <| fun l104 =>
   dS p76.2.2.2.2.2.2.2.2.2.2.2.2.2.2.2.1 <| fun l105 =>
   qI (u8I p29.1) <|
   qI (wrp .i64 (addI (wrp .i64 (addI (vlen (eI p78.1)) (vlen (eI p80.1)))) (vlen (eI p82.1)))) <|
   leftK (l96, (l97, (p82.2.2.1, (p76.2.2.2.1, (p76.2.2.2.2.1, (p76.2.2.2.2.2.1, (p76.2.2.2.2.2.2.1, (p76.2.2.2.2.2.2.2.1, (l98, (l99, (l100, (l101, (l102, (l103, (l104, (l105, ()))))))))))))))))))
 <| fun p106 =>
 dY p106.2.1 <| fun l107 =>
 bnd (S_ref02_Num l107 p106.2.2.1 2000) <| fun p108 =>
 joinK (δ := (LC × (LB × (Int × (LB × (Bool × (Int × (LB × (Bool × (LI × (LI × (LI × (LI × (LI × (LN × (LI × (LS × Unit))))))))))))))))) (joinK (δ := (Bool × Unit)) (cnd (eqI p108.2.2.1 0)
    (qS (eC p106.1) <|
    qS (eY p108.2.1) <|
    qI p108.2.2.1 <|
    qB (ByteArray.mk (Array.mk p106.2.2.2.1)) <|
    qO p106.2.2.2.2.1 <|
    qI p106.2.2.2.2.2.1 <|
    qB (ByteArray.mk (Array.mk p106.2.2.2.2.2.2.1)) <|
    qO p106.2.2.2.2.2.2.2.1 <|
    qS (eI p106.2.2.2.2.2.2.2.2.1) <|
    qS (eI p106.2.2.2.2.2.2.2.2.2.1) <|
    qS (eI p106.2.2.2.2.2.2.2.2.2.2.1) <|
    qS (eI p106.2.2.2.2.2.2.2.2.2.2.2.1) <|
    qN (vnum (eC p106.1)) <|
    qS (eI p106.2.2.2.2.2.2.2.2.2.2.2.2.1) <|
    qS (eN p106.2.2.2.2.2.2.2.2.2.2.2.2.2.1) <|
    qS (eI p106.2.2.2.2.2.2.2.2.2.2.2.2.2.2.1) <|
    qS (eS p106.2.2.2.2.2.2.2.2.2.2.2.2.2.2.2.1) <|
    qI (u8I p29.1) <|
    qI (wrp .i64 (addI (wrp .i64 (addI (vlen (eI p78.1)) (vlen (eI p80.1)))) (vlen (eI p82.1)))) <|
    qI p108.1 <|
    leftK ((eqI p108.1 0), ()))
    (qS (eC p106.1) <|
    qS (eY p108.2.1) <|
    qI p108.2.2.1 <|
    qB (ByteArray.mk (Array.mk p106.2.2.2.1)) <|
    qO p106.2.2.2.2.1 <|
    qI p106.2.2.2.2.2.1 <|
    qB (ByteArray.mk (Array.mk p106.2.2.2.2.2.2.1)) <|
    qO p106.2.2.2.2.2.2.2.1 <|
    qS (eI p106.2.2.2.2.2.2.2.2.1) <|
    qS (eI p106.2.2.2.2.2.2.2.2.2.1) <|
    qS (eI p106.2.2.2.2.2.2.2.2.2.2.1) <|
    qS (eI p106.2.2.2.2.2.2.2.2.2.2.2.1) <|
    qN (vnum (eC p106.1)) <|
    qS (eI p106.2.2.2.2.2.2.2.2.2.2.2.2.1) <|
    qS (eN p106.2.2.2.2.2.2.2.2.2.2.2.2.2.1) <|
    qS (eI p106.2.2.2.2.2.2.2.2.2.2.2.2.2.2.1) <|
    qS (eS p106.2.2.2.2.2.2.2.2.2.2.2.2.2.2.2.1) <|
    qI (u8I p29.1) <|
    qI (wrp .i64 (addI (wrp .i64 (addI (vlen (eI p78.1)) (vlen (eI p80.1)))) (vlen (eI p82.1)))) <|
    qI p108.1 <|
    leftK (false, ())))
  <| fun p109 =>
  cnd p109.1
   (dY p108.2.1 <| fun l110 =>
   bnd (S_ref02_Fail l110 p108.2.2.1 6) <| fun p111 =>
   dC p106.1 <| fun l112 =>
   dY p111.1 <| fun l113 =>
   dI p106.2.2.2.2.2.2.2.2.1 <| fun l114 =>
   dI p106.2.2.2.2.2.2.2.2.2.1 <| fun l115 =>
   dI p106.2.2.2.2.2.2.2.2.2.2.1 <| fun l116 =>
   dI p106.2.2.2.2.2.2.2.2.2.2.2.1 <| fun l117 =>
   qN (vnum (eC p106.1)) <|
   dI p106.2.2.2.2.2.2.2.2.2.2.2.2.1 <| fun l118 =>
   dN p106.2.2.2.2.2.2.2.2.2.2.2.2.2.1 <| fun l119 =>
   dI p106.2.2.2.2.2.2.2.2.2.2.2.2.2.2.1 <| fun l120 =>
   dS p106.2.2.2.2.2.2.2.2.2.2.2.2.2.2.2.1 <| fun l121 =>
   qI (u8I p29.1) <|
   qI (wrp .i64 (addI (wrp .i64 (addI (vlen (eI p78.1)) (vlen (eI p80.1)))) (vlen (eI p82.1)))) <|
   qI p108.1 <|
   leftK (l112, (l113, (p111.2.1, (p106.2.2.2.1, (p106.2.2.2.2.1, (p106.2.2.2.2.2.1, (p106.2.2.2.2.2.2.1, (p106.2.2.2.2.2.2.2.1, (l114, (l115, (l116, (l117, (l118, (l119, (l120, (l121, ())))))))))))))))))
   (dC p106.1 <| fun l122 =>
   dY p108.2.1 <| fun l123 =>
   dI p106.2.2.2.2.2.2.2.2.1 <| fun l124 =>
   dI p106.2.2.2.2.2.2.2.2.2.1 <| fun l125 =>
   dI p106.2.2.2.2.2.2.2.2.2.2.1 <| fun l126 =>
   dI p106.2.2.2.2.2.2.2.2.2.2.2.1 <| fun l127 =>
   qN (vnum (eC p106.1)) <|
   dI p106.2.2.2.2.2.2.2.2.2.2.2.2.1 <| fun l128 =>
   dN p106.2.2.2.2.2.2.2.2.2.2.2.2.2.1 <| fun l129 =>
   dI p106.2.2.2.2.2.2.2.2.2.2.2.2.2.2.1 <| fun l130 =>
   dS p106.2.2.2.2.2.2.2.2.2.2.2.2.2.2.2.1 <| fun l131 =>
   qI (u8I p29.1) <|
   qI (wrp .i64 (addI (wrp .i64 (addI (vlen (eI p78.1)) (vlen (eI p80.1)))) (vlen (eI p82.1)))) <|
   qI p108.1 <|
   leftK (l122, (l123, (p108.2.2.1, (p106.2.2.2.1, (p106.2.2.2.2.1, (p106.2.2.2.2.2.1, (p106.2.2.2.2.2.2.1, (p106.2.2.2.2.2.2.2.1, (l124, (l125, (l126, (l127, (l128, (l129, (l130, (l131, ()))))))))))))))))))
 <| fun p132 =>
 joinK (δ := (LC × (LB × (Int × (LB × (Bool × (Int × (LB × (Bool × (LI × (LI × (LI × (LI × (LI × (LN × (LI × (LS × Unit))))))))))))))))) (dC p132.1 <| fun l133 =>
  dY p132.2.1 <| fun l134 =>
  dI p132.2.2.2.2.2.2.2.2.1 <| fun l135 =>
  dI p132.2.2.2.2.2.2.2.2.2.1 <| fun l136 =>
  dI p132.2.2.2.2.2.2.2.2.2.2.1 <| fun l137 =>
  dI p132.2.2.2.2.2.2.2.2.2.2.2.1 <| fun l138 =>
  qN (vnum (eC p132.1)) <|
  dI p132.2.2.2.2.2.2.2.2.2.2.2.2.1 <| fun l139 =>
  dN p132.2.2.2.2.2.2.2.2.2.2.2.2.2.1 <| fun l140 =>
  dI p132.2.2.2.2.2.2.2.2.2.2.2.2.2.2.1 <| fun l141 =>
  dS p132.2.2.2.2.2.2.2.2.2.2.2.2.2.2.2.1 <| fun l142 =>
  qI (u8I p29.1) <|
  qI (wrp .i64 (addI (wrp .i64 (addI (vlen (eI p78.1)) (vlen (eI p80.1)))) (vlen (eI p82.1)))) <|
  qI p108.1 <|
  iter (fun (d143 : (LC × (LB × (Int × (LB × (Bool × (Int × (LB × (Bool × (LI × (LI × (LI × (LI × (LI × (LN × (LI × (LS × (Int × Unit)))))))))))))))))) again144 =>
   joinK (δ := Unit) (cnd (ltI d143.2.2.2.2.2.2.2.2.2.2.2.2.2.2.2.2.1 p108.1)
     (cnd (eqI d143.2.2.1 0)
      (qS (eC d143.1) <|
      qS (eY d143.2.1) <|
      qI d143.2.2.1 <|
      qB (ByteArray.mk (Array.mk d143.2.2.2.1)) <|
      qO d143.2.2.2.2.1 <|
      qI d143.2.2.2.2.2.1 <|
      qB (ByteArray.mk (Array.mk d143.2.2.2.2.2.2.1)) <|
      qO d143.2.2.2.2.2.2.2.1 <|
      qS (eI d143.2.2.2.2.2.2.2.2.1) <|
      qS (eI d143.2.2.2.2.2.2.2.2.2.1) <|
      qS (eI d143.2.2.2.2.2.2.2.2.2.2.1) <|
      qS (eI d143.2.2.2.2.2.2.2.2.2.2.2.1) <|
      qN (vnum (eC d143.1)) <|
      qS (eI d143.2.2.2.2.2.2.2.2.2.2.2.2.1) <|
      qS (eN d143.2.2.2.2.2.2.2.2.2.2.2.2.2.1) <|
      qS (eI d143.2.2.2.2.2.2.2.2.2.2.2.2.2.2.1) <|
      qS (eS d143.2.2.2.2.2.2.2.2.2.2.2.2.2.2.2.1) <|
      qI (u8I p29.1) <|
      qI (wrp .i64 (addI (wrp .i64 (addI (vlen (eI p78.1)) (vlen (eI p80.1)))) (vlen (eI p82.1)))) <|
      qI p108.1 <|
      qI d143.2.2.2.2.2.2.2.2.2.2.2.2.2.2.2.2.1 <|
      leftK ())
      (rightK <| dC d143.1 <| fun l145 =>
      dY d143.2.1 <| fun l146 =>
      dI d143.2.2.2.2.2.2.2.2.1 <| fun l147 =>
      dI d143.2.2.2.2.2.2.2.2.2.1 <| fun l148 =>
      dI d143.2.2.2.2.2.2.2.2.2.2.1 <| fun l149 =>
      dI d143.2.2.2.2.2.2.2.2.2.2.2.1 <| fun l150 =>
      qN (vnum (eC d143.1)) <|
      dI d143.2.2.2.2.2.2.2.2.2.2.2.2.1 <| fun l151 =>
      dN d143.2.2.2.2.2.2.2.2.2.2.2.2.2.1 <| fun l152 =>
      dI d143.2.2.2.2.2.2.2.2.2.2.2.2.2.2.1 <| fun l153 =>
      dS d143.2.2.2.2.2.2.2.2.2.2.2.2.2.2.2.1 <| fun l154 =>
      qI (u8I p29.1) <|
      qI (wrp .i64 (addI (wrp .i64 (addI (vlen (eI p78.1)) (vlen (eI p80.1)))) (vlen (eI p82.1)))) <|
      qI p108.1 <|
      leftK (l145, (l146, (d143.2.2.1, (d143.2.2.2.1, (d143.2.2.2.2.1, (d143.2.2.2.2.2.1, (d143.2.2.2.2.2.2.1, (d143.2.2.2.2.2.2.2.1, (l147, (l148, (l149, (l150, (l151, (l152, (l153, (l154, ()))))))))))))))))))
     (rightK <| dC d143.1 <| fun l155 =>
     dY d143.2.1 <| fun l156 =>
     dI d143.2.2.2.2.2.2.2.2.1 <| fun l157 =>
     dI d143.2.2.2.2.2.2.2.2.2.1 <| fun l158 =>
     dI d143.2.2.2.2.2.2.2.2.2.2.1 <| fun l159 =>
     dI d143.2.2.2.2.2.2.2.2.2.2.2.1 <| fun l160 =>
     qN (vnum (eC d143.1)) <|
     dI d143.2.2.2.2.2.2.2.2.2.2.2.2.1 <| fun l161 =>
     dN d143.2.2.2.2.2.2.2.2.2.2.2.2.2.1 <| fun l162 =>
     dI d143.2.2.2.2.2.2.2.2.2.2.2.2.2.2.1 <| fun l163 =>
     dS d143.2.2.2.2.2.2.2.2.2.2.2.2.2.2.2.1 <| fun l164 =>
     qI (u8I p29.1) <|
     qI (wrp .i64 (addI (wrp .i64 (addI (vlen (eI p78.1)) (vlen (eI p80.1)))) (vlen (eI p82.1)))) <|
     qI p108.1 <|
     leftK (l155, (l156, (d143.2.2.1, (d143.2.2.2.1, (d143.2.2.2.2.1, (d143.2.2.2.2.2.1, (d143.2.2.2.2.2.2.1, (d143.2.2.2.2.2.2.2.1, (l157, (l158, (l159, (l160, (l161, (l162, (l163, (l164, ()))))))))))))))))))
   <| fun x165 =>
   dY d143.2.1 <| fun l166 =>
   bnd (S_ref10_Take l166 d143.2.2.1) <| fun p167 =>
   qN (vnum (eC d143.1)) <|
   chk (room (vnum (eC d143.1)) (vnum (vcut [[(C.v (Go.Value.int .i64 p167.1)), (C.v (Go.Value.int .i64 p167.2.1))]] 0 1)) 16) <|
   decL tC (vapp (eC d143.1) (vcut [[(C.v (Go.Value.int .i64 p167.1)), (C.v (Go.Value.int .i64 p167.2.1))]] 0 1)) <| fun l168 =>
   dY p167.2.2.1 <| fun l169 =>
   dI d143.2.2.2.2.2.2.2.2.1 <| fun l170 =>
   dI d143.2.2.2.2.2.2.2.2.2.1 <| fun l171 =>
   dI d143.2.2.2.2.2.2.2.2.2.2.1 <| fun l172 =>
   dI d143.2.2.2.2.2.2.2.2.2.2.2.1 <| fun l173 =>
   chk (eqN (addN (vnum (eC d143.1)) (vnum (vcut [[(C.v (Go.Value.int .i64 p167.1)), (C.v (Go.Value.int .i64 p167.2.1))]] 0 1))) (vnum (vapp (eC d143.1) (vcut [[(C.v (Go.Value.int .i64 p167.1)), (C.v (Go.Value.int .i64 p167.2.1))]] 0 1)))) <|
   dI d143.2.2.2.2.2.2.2.2.2.2.2.2.1 <| fun l174 =>
   dN d143.2.2.2.2.2.2.2.2.2.2.2.2.2.1 <| fun l175 =>
   dI d143.2.2.2.2.2.2.2.2.2.2.2.2.2.2.1 <| fun l176 =>
   dS d143.2.2.2.2.2.2.2.2.2.2.2.2.2.2.2.1 <| fun l177 =>
   qI (u8I p29.1) <|
   qI (wrp .i64 (addI (wrp .i64 (addI (vlen (eI p78.1)) (vlen (eI p80.1)))) (vlen (eI p82.1)))) <|
   qI p108.1 <|
   again144 (l168, (l169, (p167.2.2.2.1, (d143.2.2.2.1, (d143.2.2.2.2.1, (d143.2.2.2.2.2.1, (d143.2.2.2.2.2.2.1, (d143.2.2.2.2.2.2.2.1, (l170, (l171, (l172, (l173, (l174, (l175, (l176, (l177, ((wrp .i64 (addI d143.2.2.2.2.2.2.2.2.2.2.2.2.2.2.2.2.1 1)), ())))))))))))))))))) N (l133, (l134, (p132.2.2.1, (p132.2.2.2.1, (p132.2.2.2.2.1, (p132.2.2.2.2.2.1, (p132.2.2.2.2.2.2.1, (p132.2.2.2.2.2.2.2.1, (l135, (l136, (l137, (l138, (l139, (l140, (l141, (l142, (0, ()))))))))))))))))))
 <| fun p178 =>
 dY p178.2.1 <| fun l179 =>
 bnd (S_ref12_Take l179 p178.2.2.1 p108.1) <| fun p180 =>
 joinK (δ := (LC × (LB × (Int × (LB × (Bool × (Int × (LB × (Bool × (LI × (LI × (LI × (LI × (LI × (LN × (LI × (LS × Unit))))))))))))))))) (cnd (leI 2 (u8I p29.1))
   (dY p180.2.1 <| fun l181 =>
   bnd (S_ref13_Take l181 p180.2.2.1) <| fun p182 =>
   dY p182.2.1 <| fun l183 =>
   bnd (S_ref04_Take l183 p182.2.2.1 p108.1 0 (wrp .i64 (subI (vlen (eN p182.1)) 1))) <| fun p184 =>
   dY p184.2.1 <| fun l185 =>
   bnd (S_ref14_Take l185 p184.2.2.1 p108.1 (wrp .i64 (addI (wrp .i64 (addI (vlen (eI p78.1)) (vlen (eI p80.1)))) (vlen (eI p82.1))))) <| fun p186 =>
   dC p178.1 <| fun l187 =>
   dY p186.2.1 <| fun l188 =>
   dI p178.2.2.2.2.2.2.2.2.1 <| fun l189 =>
   dI p178.2.2.2.2.2.2.2.2.2.1 <| fun l190 =>
   dI p178.2.2.2.2.2.2.2.2.2.2.1 <| fun l191 =>
   dI p178.2.2.2.2.2.2.2.2.2.2.2.1 <| fun l192 =>
   qN (vnum (eC p178.1)) <|
   dI p180.1 <| fun l193 =>
   dN p182.1 <| fun l194 =>
   dI p184.1 <| fun l195 =>
   dS p186.1 <| fun l196 =>
   leftK (l187, (l188, (p186.2.2.1, (p178.2.2.2.1, (p178.2.2.2.2.1, (p178.2.2.2.2.2.1, (p178.2.2.2.2.2.2.1, (p178.2.2.2.2.2.2.2.1, (l189, (l190, (l191, (l192, (l193, (l194, (l195, (l196, ())))))))))))))))))
   (dC p178.1 <| fun l197 =>
   dY p180.2.1 <| fun l198 =>
   dI p178.2.2.2.2.2.2.2.2.1 <| fun l199 =>
   dI p178.2.2.2.2.2.2.2.2.2.1 <| fun l200 =>
   dI p178.2.2.2.2.2.2.2.2.2.2.1 <| fun l201 =>
   dI p178.2.2.2.2.2.2.2.2.2.2.2.1 <| fun l202 =>
   qN (vnum (eC p178.1)) <|
   dI p180.1 <| fun l203 =>
   dN p178.2.2.2.2.2.2.2.2.2.2.2.2.2.1 <| fun l204 =>
   dI p178.2.2.2.2.2.2.2.2.2.2.2.2.2.2.1 <| fun l205 =>
   dS p178.2.2.2.2.2.2.2.2.2.2.2.2.2.2.2.1 <| fun l206 =>
   leftK (l197, (l198, (p180.2.2.1, (p178.2.2.2.1, (p178.2.2.2.2.1, (p178.2.2.2.2.2.1, (p178.2.2.2.2.2.2.1, (p178.2.2.2.2.2.2.2.1, (l199, (l200, (l201, (l202, (l203, (l204, (l205, (l206, ()))))))))))))))))))
 <| fun p207 =>
 cnd (notB (eqI p207.2.2.1 0))
  (decL tI [] <| fun l208 =>
  decL tI [] <| fun l209 =>
  decL tI [] <| fun l210 =>
  decL tI [] <| fun l211 =>
  decL tC [] <| fun l212 =>
  decL tI [] <| fun l213 =>
  decL tN [] <| fun l214 =>
  decL tI [] <| fun l215 =>
  decL tS [] <| fun l216 =>
  dY p207.2.1 <| fun l217 =>
  some ([], (false, (l208, (l209, (l210, (l211, (l212, (l213, (l214, (l215, (l216, (l217, (p207.2.2.1, ()))))))))))))))
  (chk (leN (addN 0 (vnum (eC p207.1))) (vnum (eC p207.1))) <|
  dI p207.2.2.2.2.2.2.2.2.1 <| fun l218 =>
  dI p207.2.2.2.2.2.2.2.2.2.1 <| fun l219 =>
  dI p207.2.2.2.2.2.2.2.2.2.2.1 <| fun l220 =>
  dI p207.2.2.2.2.2.2.2.2.2.2.2.1 <| fun l221 =>
  decL tC (vcut (eC p207.1) 0 (vnum (eC p207.1))) <| fun l222 =>
  dI p207.2.2.2.2.2.2.2.2.2.2.2.2.1 <| fun l223 =>
  dN p207.2.2.2.2.2.2.2.2.2.2.2.2.2.1 <| fun l224 =>
  dI p207.2.2.2.2.2.2.2.2.2.2.2.2.2.2.1 <| fun l225 =>
  dS p207.2.2.2.2.2.2.2.2.2.2.2.2.2.2.2.1 <| fun l226 =>
  dY p207.2.1 <| fun l227 =>
  some (p207.2.2.2.2.2.2.1, (p207.2.2.2.2.2.2.2.1, (l218, (l219, (l220, (l221, (l222, (l223, (l224, (l225, (l226, (l227, (p207.2.2.1, ()))))))))))))))
noncomputable def q_ref15_Take : Lift := ⟨tyX, look2 .todo (α := LoopAs) (.n 11 [(23, (.as ⟨[.mu 78 2 tC], [[.hole (.sl 1 tY), .hole tI], [.hole .str, .hole .bool, .stat (.c (.v (.slice none 0 0))), .stat (.c (.v (.slice none 0 0))), .stat (.c (.v (.slice none 0 0))), .stat (.c (.v (.slice none 0 0))), .stat (.c (.v (.slice none 0 0))), .stat (.c (.v (.slice none 0 0))), .stat (.c (.v (.slice none 0 0))), .stat (.c (.v (.slice none 0 0))), .stat (.c (.v (.slice none 0 0)))], [.stat (.c (.v (.slice none 0 0))), .hole tI], [.hole .str, .hole .bool, .hole (.sl 1 tI), .hole (.sl 1 tI), .hole (.sl 1 tI), .hole (.sl 1 tI), .own 0, .hole (.sl 1 tI), .hole (.sl 7 tN), .hole (.sl 1 tI), .hole (.sl 4 tS)]], (.one, [.junk]) :: (.one, [.stat (.ptr 0 0)]) :: (.one, [.stat (.ptr 1 0)]) :: (.one, [.stat (.ptr 2 0)]) :: (.one, [.stat (.ptr 3 0)]) :: (.one, [.fix]) :: (.one, [.fix]) :: (.one, [.fix]) :: (.one, [.hole tI]) :: rp 160 (.one, [.junk]) ([])⟩)), (1016389, (.as ⟨[.fix], [[.fix, .fix], [.fix, .fix, .stat (.c (.v (.slice none 0 0))), .stat (.c (.v (.slice none 0 0))), .stat (.c (.v (.slice none 0 0))), .stat (.c (.v (.slice none 0 0))), .stat (.c (.v (.slice none 0 0))), .stat (.c (.v (.slice none 0 0))), .stat (.c (.v (.slice none 0 0))), .stat (.c (.v (.slice none 0 0))), .stat (.c (.v (.slice none 0 0)))], [.stat (.c (.v (.slice none 0 0))), .fix], [.fix, .fix, .fix, .fix, .fix, .fix, .own 0, .fix, .fix, .fix, .fix]], (.one, [.junk]) :: (.one, [.stat (.ptr 0 0)]) :: (.one, [.stat (.ptr 1 0)]) :: (.one, [.stat (.ptr 2 0)]) :: (.one, [.stat (.ptr 3 0)]) :: rp 20 (.one, [.junk]) ((.one, [.hole .bool]) :: rp 143 (.one, [.junk]) ([]))⟩)), (1020486, (.as ⟨[.mu 78 2 tC], [[.hole (.sl 1 tY), .hole tI], [.hole .str, .hole .bool, .stat (.c (.v (.slice none 0 0))), .stat (.c (.v (.slice none 0 0))), .stat (.c (.v (.slice none 0 0))), .stat (.c (.v (.slice none 0 0))), .stat (.c (.v (.slice none 0 0))), .stat (.c (.v (.slice none 0 0))), .stat (.c (.v (.slice none 0 0))), .stat (.c (.v (.slice none 0 0))), .stat (.c (.v (.slice none 0 0)))], [.stat (.c (.v (.slice none 0 0))), .hole tI], [.hole .str, .hole .bool, .hole (.sl 1 tI), .hole (.sl 1 tI), .hole (.sl 1 tI), .hole (.sl 1 tI), .own 0, .hole (.sl 1 tI), .hole (.sl 7 tN), .hole (.sl 1 tI), .hole (.sl 4 tS)]], (.one, [.junk]) :: (.one, [.stat (.ptr 0 0)]) :: (.one, [.stat (.ptr 1 0)]) :: (.one, [.stat (.ptr 2 0)]) :: (.one, [.stat (.ptr 3 0)]) :: rp 164 (.one, [.junk]) ([])⟩)), (1032777, (.as ⟨[.fix], [[.fix, .fix], [.fix, .fix, .stat (.c (.v (.slice none 0 0))), .stat (.c (.v (.slice none 0 0))), .stat (.c (.v (.slice none 0 0))), .stat (.c (.v (.slice none 0 0))), .stat (.c (.v (.slice none 0 0))), .stat (.c (.v (.slice none 0 0))), .stat (.c (.v (.slice none 0 0))), .stat (.c (.v (.slice none 0 0))), .stat (.c (.v (.slice none 0 0)))], [.stat (.c (.v (.slice none 0 0))), .fix], [.fix, .fix, .fix, .fix, .fix, .fix, .own 0, .fix, .fix, .fix, .fix]], (.one, [.junk]) :: (.one, [.stat (.ptr 0 0)]) :: (.one, [.stat (.ptr 1 0)]) :: (.one, [.stat (.ptr 2 0)]) :: (.one, [.stat (.ptr 3 0)]) :: (.one, [.fix]) :: rp 33 (.one, [.junk]) ((.one, [.hole .bool]) :: rp 129 (.one, [.junk]) ([]))⟩)), (1036874, (.as ⟨[.mu 78 2 tC], [[.hole (.sl 1 tY), .hole tI], [.hole .str, .hole .bool, .stat (.c (.v (.slice none 0 0))), .stat (.c (.v (.slice none 0 0))), .stat (.c (.v (.slice none 0 0))), .stat (.c (.v (.slice none 0 0))), .stat (.c (.v (.slice none 0 0))), .stat (.c (.v (.slice none 0 0))), .stat (.c (.v (.slice none 0 0))), .stat (.c (.v (.slice none 0 0))), .stat (.c (.v (.slice none 0 0)))], [.stat (.c (.v (.slice none 0 0))), .hole tI], [.hole .str, .hole .bool, .hole (.sl 1 tI), .hole (.sl 1 tI), .hole (.sl 1 tI), .hole (.sl 1 tI), .own 0, .hole (.sl 1 tI), .hole (.sl 7 tN), .hole (.sl 1 tI), .hole (.sl 4 tS)]], (.one, [.junk]) :: (.one, [.stat (.ptr 0 0)]) :: (.one, [.stat (.ptr 1 0)]) :: (.one, [.stat (.ptr 2 0)]) :: (.one, [.stat (.ptr 3 0)]) :: (.one, [.fix]) :: rp 163 (.one, [.junk]) ([])⟩)), (1049165, (.as ⟨[.mu 78 2 tC], [[.hole (.sl 1 tY), .hole tI], [.hole .str, .hole .bool, .stat (.c (.v (.slice none 0 0))), .stat (.c (.v (.slice none 0 0))), .stat (.c (.v (.slice none 0 0))), .stat (.c (.v (.slice none 0 0))), .stat (.c (.v (.slice none 0 0))), .stat (.c (.v (.slice none 0 0))), .stat (.c (.v (.slice none 0 0))), .stat (.c (.v (.slice none 0 0))), .stat (.c (.v (.slice none 0 0)))], [.stat (.c (.v (.slice none 0 0))), .hole tI], [.hole .str, .hole .bool, .hole (.sl 1 tI), .hole (.sl 1 tI), .hole (.sl 1 tI), .hole (.sl 1 tI), .own 0, .hole (.sl 1 tI), .hole (.sl 7 tN), .hole (.sl 1 tI), .hole (.sl 4 tS)]], (.one, [.junk]) :: (.one, [.stat (.ptr 0 0)]) :: (.one, [.stat (.ptr 1 0)]) :: (.one, [.stat (.ptr 2 0)]) :: (.one, [.stat (.ptr 3 0)]) :: (.one, [.fix]) :: rp 163 (.one, [.junk]) ([])⟩)), (1069650, (.as ⟨[.fix], [[.fix, .fix], [.fix, .fix, .stat (.c (.v (.slice none 0 0))), .stat (.c (.v (.slice none 0 0))), .stat (.c (.v (.slice none 0 0))), .stat (.c (.v (.slice none 0 0))), .stat (.c (.v (.slice none 0 0))), .stat (.c (.v (.slice none 0 0))), .stat (.c (.v (.slice none 0 0))), .stat (.c (.v (.slice none 0 0))), .stat (.c (.v (.slice none 0 0)))], [.stat (.c (.v (.slice none 0 0))), .fix], [.fix, .fix, .fix, .fix, .fix, .fix, .own 0, .fix, .fix, .fix, .fix]], (.one, [.junk]) :: (.one, [.stat (.ptr 0 0)]) :: (.one, [.stat (.ptr 1 0)]) :: (.one, [.stat (.ptr 2 0)]) :: (.one, [.stat (.ptr 3 0)]) :: (.one, [.fix]) :: (.one, [.fix]) :: rp 82 (.one, [.junk]) ((.one, [.hole .bool]) :: rp 79 (.one, [.junk]) ([]))⟩)), (1073747, (.as ⟨[.mu 78 2 tC], [[.hole (.sl 1 tY), .hole tI], [.hole .str, .hole .bool, .stat (.c (.v (.slice none 0 0))), .stat (.c (.v (.slice none 0 0))), .stat (.c (.v (.slice none 0 0))), .stat (.c (.v (.slice none 0 0))), .stat (.c (.v (.slice none 0 0))), .stat (.c (.v (.slice none 0 0))), .stat (.c (.v (.slice none 0 0))), .stat (.c (.v (.slice none 0 0))), .stat (.c (.v (.slice none 0 0)))], [.stat (.c (.v (.slice none 0 0))), .hole tI], [.hole .str, .hole .bool, .hole (.sl 1 tI), .hole (.sl 1 tI), .hole (.sl 1 tI), .hole (.sl 1 tI), .own 0, .hole (.sl 1 tI), .hole (.sl 7 tN), .hole (.sl 1 tI), .hole (.sl 4 tS)]], (.one, [.junk]) :: (.one, [.stat (.ptr 0 0)]) :: (.one, [.stat (.ptr 1 0)]) :: (.one, [.stat (.ptr 2 0)]) :: (.one, [.stat (.ptr 3 0)]) :: (.one, [.fix]) :: (.one, [.fix]) :: rp 162 (.one, [.junk]) ([])⟩)), (1086038, (.as ⟨[.fix], [[.fix, .fix], [.fix, .fix, .stat (.c (.v (.slice none 0 0))), .stat (.c (.v (.slice none 0 0))), .stat (.c (.v (.slice none 0 0))), .stat (.c (.v (.slice none 0 0))), .stat (.c (.v (.slice none 0 0))), .stat (.c (.v (.slice none 0 0))), .stat (.c (.v (.slice none 0 0))), .stat (.c (.v (.slice none 0 0))), .stat (.c (.v (.slice none 0 0)))], [.stat (.c (.v (.slice none 0 0))), .fix], [.fix, .fix, .fix, .fix, .fix, .fix, .own 0, .fix, .fix, .fix, .fix]], (.one, [.junk]) :: (.one, [.stat (.ptr 0 0)]) :: (.one, [.stat (.ptr 1 0)]) :: (.one, [.stat (.ptr 2 0)]) :: (.one, [.stat (.ptr 3 0)]) :: (.one, [.fix]) :: (.one, [.fix]) :: (.one, [.fix]) :: rp 95 (.one, [.junk]) ((.one, [.hole .bool]) :: rp 65 (.one, [.junk]) ([]))⟩)), (1090135, (.as ⟨[.mu 78 2 tC], [[.hole (.sl 1 tY), .hole tI], [.hole .str, .hole .bool, .stat (.c (.v (.slice none 0 0))), .stat (.c (.v (.slice none 0 0))), .stat (.c (.v (.slice none 0 0))), .stat (.c (.v (.slice none 0 0))), .stat (.c (.v (.slice none 0 0))), .stat (.c (.v (.slice none 0 0))), .stat (.c (.v (.slice none 0 0))), .stat (.c (.v (.slice none 0 0))), .stat (.c (.v (.slice none 0 0)))], [.stat (.c (.v (.slice none 0 0))), .hole tI], [.hole .str, .hole .bool, .hole (.sl 1 tI), .hole (.sl 1 tI), .hole (.sl 1 tI), .hole (.sl 1 tI), .own 0, .hole (.sl 1 tI), .hole (.sl 7 tN), .hole (.sl 1 tI), .hole (.sl 4 tS)]], (.one, [.junk]) :: (.one, [.stat (.ptr 0 0)]) :: (.one, [.stat (.ptr 1 0)]) :: (.one, [.stat (.ptr 2 0)]) :: (.one, [.stat (.ptr 3 0)]) :: (.one, [.fix]) :: (.one, [.fix]) :: (.one, [.fix]) :: rp 161 (.one, [.junk]) ([])⟩)), (1098330, (.as ⟨[.fix], [[.fix, .fix], [.fix, .fix, .stat (.c (.v (.slice none 0 0))), .stat (.c (.v (.slice none 0 0))), .stat (.c (.v (.slice none 0 0))), .stat (.c (.v (.slice none 0 0))), .stat (.c (.v (.slice none 0 0))), .stat (.c (.v (.slice none 0 0))), .stat (.c (.v (.slice none 0 0))), .stat (.c (.v (.slice none 0 0))), .stat (.c (.v (.slice none 0 0)))], [.stat (.c (.v (.slice none 0 0))), .fix], [.fix, .fix, .fix, .fix, .fix, .fix, .own 0, .fix, .fix, .fix, .fix]], (.one, [.junk]) :: (.one, [.stat (.ptr 0 0)]) :: (.one, [.stat (.ptr 1 0)]) :: (.one, [.stat (.ptr 2 0)]) :: (.one, [.stat (.ptr 3 0)]) :: rp 4 (.one, [.fix]) (rp 160 (.one, [.junk]) ([]))⟩)), (1102429, (.as ⟨[.mu 78 2 tC], [[.hole (.sl 1 tY), .hole tI], [.hole .str, .hole .bool, .stat (.c (.v (.slice none 0 0))), .stat (.c (.v (.slice none 0 0))), .stat (.c (.v (.slice none 0 0))), .stat (.c (.v (.slice none 0 0))), .stat (.c (.v (.slice none 0 0))), .stat (.c (.v (.slice none 0 0))), .stat (.c (.v (.slice none 0 0))), .stat (.c (.v (.slice none 0 0))), .stat (.c (.v (.slice none 0 0)))], [.stat (.c (.v (.slice none 0 0))), .hole tI], [.hole .str, .hole .bool, .hole (.sl 1 tI), .hole (.sl 1 tI), .hole (.sl 1 tI), .hole (.sl 1 tI), .own 0, .hole (.sl 1 tI), .hole (.sl 7 tN), .hole (.sl 1 tI), .hole (.sl 4 tS)]], (.one, [.junk]) :: (.one, [.stat (.ptr 0 0)]) :: (.one, [.stat (.ptr 1 0)]) :: (.one, [.stat (.ptr 2 0)]) :: (.one, [.stat (.ptr 3 0)]) :: (.one, [.fix]) :: (.one, [.fix]) :: (.one, [.fix]) :: rp 161 (.one, [.junk]) ([])⟩)), (1135202, (.as ⟨[.mu 78 2 tC], [[.hole (.sl 1 tY), .hole tI], [.hole .str, .hole .bool, .stat (.c (.v (.slice none 0 0))), .stat (.c (.v (.slice none 0 0))), .stat (.c (.v (.slice none 0 0))), .stat (.c (.v (.slice none 0 0))), .stat (.c (.v (.slice none 0 0))), .stat (.c (.v (.slice none 0 0))), .stat (.c (.v (.slice none 0 0))), .stat (.c (.v (.slice none 0 0))), .stat (.c (.v (.slice none 0 0)))], [.stat (.c (.v (.slice none 0 0))), .hole tI], [.hole .str, .hole .bool, .hole (.sl 1 tI), .hole (.sl 1 tI), .hole (.sl 1 tI), .hole (.sl 1 tI), .own 0, .hole (.sl 1 tI), .hole (.sl 7 tN), .hole (.sl 1 tI), .hole (.sl 4 tS)]], (.one, [.junk]) :: (.one, [.stat (.ptr 0 0)]) :: (.one, [.stat (.ptr 1 0)]) :: (.one, [.stat (.ptr 2 0)]) :: (.one, [.stat (.ptr 3 0)]) :: rp 164 (.one, [.junk]) ([])⟩))] .o .o), [c_ref02_Num, c_ref02_Text, c_ref05_May, c_ref02_Fail, c_ref02_Byte, c_ref11_Take, c_ref10_Take, c_ref04_Take, c_ref12_Take, c_ref13_Take, c_ref14_Take], bsX⟩
theorem u_ref15_Take {N : Nat} {a0 : LB} {a1 : Int} {q : (LB × (Bool × (LI × (LI × (LI × (LI × (LC × (LI × (LN × (LI × (LS × (LB × (Int × Unit)))))))))))))} (h : M_ref15_Take N a0 a1 = some q) : S_ref15_Take a0 a1 = some q :=
 Sof_of (Q := q_ref15_Take) (N := N) (n := 3) (f := 11) (tin := i_ref15_Take) (tout := o_ref15_Take) (d := (a0, (a1, ()))) (all1 k_ref02_Num (all1 k_ref02_Text (all1 k_ref05_May (all1 k_ref02_Fail (all1 k_ref02_Byte (all1 k_ref11_Take (all1 k_ref10_Take (all1 k_ref04_Take (all1 k_ref12_Take (all1 k_ref13_Take (all1 k_ref14_Take all0))))))))))) bs_ok (by kernel_rfl) (by kernel_rfl) (by kernel_rfl) (Eq.trans (b := M_ref15_Take N a0 a1) (by kernel_rfl) h)
end Go.Proofs.YtkdnbnkbnegckaaGreat
