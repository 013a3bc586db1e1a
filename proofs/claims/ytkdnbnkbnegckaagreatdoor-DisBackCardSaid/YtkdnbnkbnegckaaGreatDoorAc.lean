/- dis.Text: all functions' lines. What functions come to: templates, and contracts. Functions, lifted: what the program comes to by them. All lifted functions. -/
import Derived.Test.YtkdnbnkbnegckaaGreatDoorWrw
import Derived.Deep.DeepCutAuto
import Derived.Test.YtkdnbnkbnegckaaGreatDoorAbA
namespace Go.Proofs.YtkdnbnkbnegckaaGreatDoor
open Go.RowKit
set_option maxRecDepth 20000
set_option linter.unusedVariables false
theorem textT_take {fs : List Fn} {k : Nat} (h : k < fs.length) : textT (fs.take (k + 1)) = textT (fs.take k) ++ funcT fs[k] := by
  rw [List.take_succ_eq_append_getElem h, textT, textT, List.flatMap_append, List.flatMap_singleton]
theorem textT_pre (fs : List Fn) (k : Nat) : (textT (fs.take k)).length ≤ (textT fs).length := by
  have : textT fs = textT (fs.take k) ++ textT (fs.drop k) := by
    rw [textT, textT, textT, ← List.flatMap_append, List.take_append_drop]
  rw [this, List.length_append]
  omega
theorem funcT_ne (f : Fn) : funcT f ≠ [] := by simp [funcT, headT]
theorem textT_ne {fs : List Fn} {k : Nat} (hk : k < fs.length) : textT (fs.take (k + 1)) ≠ [] := by
  rw [textT_take hk]
  intro h
  exact funcT_ne _ (List.append_eq_nil_iff.1 h).2
set_option maxHeartbeats 4000000 in
theorem dis_Text_walk (fs : List Fn) (v : Value) (w : World) (hr : RepC w W0 (.fz 11 (encL tF fs)) v) (hf : ∀ f ∈ fs, OkT f) (hS : (textT fs).length ≤ 10000000000000) :
    Calls Tryz.prog 16 #[.agg #[v]] w fun e W' => e = .returned (.string ⟨⟨textT fs⟩⟩) ∧ Ext w W' := by
  obtain ⟨ao, cap, rfl, hel⟩ := row_elem hr
  have HE := Lib.hid hel
  have HF := Lib.hid hf
  have hn : fs.length ≤ 10000000000000 := by
    refine Nat.le_trans ?_ hS
    clear hr hel hf HE HF hS
    induction fs with
    | nil => simp
    | cons f fs ih =>
      have : 0 < (funcT f).length := List.length_pos_iff.2 (funcT_ne f)
      simp only [textT, List.flatMap_cons, List.length_append, List.length_cons] at ih ⊢
      omega
  clear hr hel hf
  go_enter Tryz.func16, Tryz.ntmps16
  go_wp2_with fail
  have hb0 : ((w.alloc (.cells #[.slice ao fs.length cap] 42)).alloc (.cells #[.pointer none, .slice none 0 0] 87)).heap[w.heap.size + 1]? = some (.cells #[.pointer none, .slice none 0 0] 87 (0, 0)) := by
    have := alloc_new (w.alloc (.cells #[.slice ao fs.length cap] 42)) (.cells #[.pointer none, .slice none 0 0] 87)
    rwa [World.size_alloc] at this
  have HX0 := Lib.hid (((Ext.rf w).al (.cells #[.slice ao fs.length cap] 42)).al (.cells #[.pointer none, .slice none 0 0] 87))
  generalize (w.alloc (.cells #[.slice ao fs.length cap] 42)).alloc (.cells #[.pointer none, .slice none 0 0] 87) = w0 at *
  have HB0 := Lib.hid hb0
  clear hb0
  go_loopw [11] (fun i wr => ∃ k : Nat, k ≤ fs.length ∧ i = .int .i64 k ∧ Hid (IsWr w.heap.size (w.heap.size + 1) (textT (fs.take k)) wr) ∧ Hid (Ext w wr) ∧ Hid (k = 0 → wr.heap[w.heap.size + 1]? = some (.cells #[.pointer none, .slice none 0 0] 87 (0, 0))))
    (fun i _ => fs.length - (intOf i).toNat)
  case atStart => exact ⟨0, Nat.zero_le _, rfl, Lib.hid (.inl ⟨Nat.le_succ _, .slice none 0 0, HB0.out, ⟨rfl, .inl ⟨rfl, rfl⟩⟩, by simp [Value.ownBlock]⟩), HX0, Lib.hid fun _ => HB0.out⟩
  case round =>
    obtain ⟨k, hk, rfl, HWr, HXr, HZr⟩ := hrel
    by_cases hlt : k < fs.length
    · have hltB : decide ((k : Int) < (fs.length : Int)) = true := decide_eq_true (by omega)
      have hltB2 : decide (k < fs.length) = true := decide_eq_true hlt
      obtain ⟨b, off, rfl, hbw, hj⟩ := HE.out (fun h => by rw [h] at hlt; simp at hlt)
      obtain ⟨cs, hcs, hrg⟩ := hj k hlt
      have HC := Lib.hid hcs
      obtain ⟨a1, c1, a2, c2, a3, c3, a4, c4, a5, c5, a6, c6, a7, c7, a8, c8, a9, c9, hcse⟩ := fn_cells hcs
      have hrg2 : wr.rangeAt b (off + k * 11) cs := fun j u hu => (cell_of_block (HXr.out.block hbw)).trans (hrg j u hu)
      rw [hcse] at hrg2 HC
      have e0 := hrg2 0 _ rfl
      have e1 := hrg2 1 _ rfl
      have e2 := hrg2 2 _ rfl
      have e3 := hrg2 3 _ rfl
      have e4 := hrg2 4 _ rfl
      have e5 := hrg2 5 _ rfl
      have e6 := hrg2 6 _ rfl
      have e7 := hrg2 7 _ rfl
      have e8 := hrg2 8 _ rfl
      have e9 := hrg2 9 _ rfl
      have e10 := hrg2 10 _ rfl
      rw [Nat.add_zero] at e0
      clear hrg2 hj hrg hcs HZr HB0
      go_wp2_with fail
      refine (wr_write w (w.heap.size + 1) (textT (fs.take k)) fs[k] _ _ (isWr_ext HWr.out ((Ext.rf wr).al _)) (HXr.out.al _) HC.out (HF.out fs[k] (List.getElem_mem hlt)) (Nat.le_trans (textT_pre fs k) hS)).mono ?_
      rintro e wd ⟨rfl, hwd, hxd⟩
      rw [← textT_take hlt] at hwd
      have HWd := Lib.hid hwd
      have HXd := Lib.hid hxd
      clear hwd hxd e0 e1 e2 e3 e4 e5 e6 e7 e8 e9 e10
      go_wp2_with fail
      exact ⟨⟨k + 1, hlt, rfl, Lib.hid (.inr HWd.out), HXd, Lib.hid fun h => by omega⟩, (by show fs.length - ((k : Int) + 1).toNat < fs.length - ((k : Int)).toNat; omega)⟩
    · obtain rfl : k = fs.length := by omega
      have hltB : decide ((fs.length : Int) < (fs.length : Int)) = false := decide_eq_false (by omega)
      have hltB2 : decide (fs.length < fs.length) = false := decide_eq_false (by omega)
      have HQ : Hid (Calls Tryz.prog 45 #[.pointer (some ⟨w.heap.size + 1, 0, none⟩)] wr fun e w' => e = .returned (.string ⟨⟨textT fs⟩⟩) ∧ Ext w w') := by
        refine Lib.hid ?_
        have h1 := HWr.out
        rw [List.take_length] at h1
        cases hfs : fs with
        | nil =>
          refine (wr_String_nil w.heap.size (w.heap.size + 1) _ wr (HZr.out (by rw [hfs]; rfl))).mono ?_
          rintro e w' ⟨rfl, h2, -⟩
          exact ⟨rfl, HXr.out.trans h2⟩
        | cons f fs' =>
          have h3 : textT fs ≠ [] := by
            have := textT_ne (fs := fs) (k := fs.length - 1) (by rw [hfs]; simp)
            rwa [Nat.sub_add_cancel (by rw [hfs]; simp), List.take_length] at this
          rw [← hfs]
          refine (wr_String w.heap.size (w.heap.size + 1) _ wr h1 h3).mono ?_
          rintro e w' ⟨rfl, h2⟩
          exact ⟨rfl, HXr.out.trans h2⟩
      clear HWr HXr HZr
      go_wp2_with fail
      refine HQ.out.mono ?_
      rintro e wz ⟨rfl, hz⟩
      have HZ := Lib.hid hz
      clear hz HQ
      go_wp2_with fail
      go_ret
      exact ⟨rfl, HZ.out⟩
end Go.Proofs.YtkdnbnkbnegckaaGreatDoor
namespace Go.Proofs.YtkdnbnkbnegckaaGreatDoor
open Go.RowKit
set_option maxRecDepth 100000
def i_file_Can : Tpl := ⟨[], [], [(.agg, [.hole (.sl 11 tF)])]⟩
def o_file_Can : Tpl := ⟨[], [], [(.one, [.hole tI])]⟩
noncomputable def S_file_Can (a0 : LF) : Option (Int × Unit) := Sof Tryz.prog annX plansX 43 i_file_Can o_file_Can (a0, ())
noncomputable def c_file_Can : Ctr := ⟨43, i_file_Can, o_file_Can, fun d => S_file_Can d.1⟩
theorem k_file_Can : (c_file_Can).ok Tryz.prog annX plansX := ctr_ok (tin := i_file_Can) (tout := o_file_Can)
def i_ref15_Can : Tpl := ⟨[], [], [(.agg, [.hole .str, .hole .bool, .hole (.sl 1 tI), .hole (.sl 1 tI), .hole (.sl 1 tI), .hole (.sl 1 tI), .hole (.sl 2 tC), .hole (.sl 1 tI), .hole (.sl 7 tN), .hole (.sl 1 tI), .hole (.sl 4 tS)])]⟩
def o_ref15_Can : Tpl := ⟨[], [], [(.one, [.hole tI])]⟩
noncomputable def S_ref15_Can (a0 : LB) (a1 : Bool) (a2 : LI) (a3 : LI) (a4 : LI) (a5 : LI) (a6 : LC) (a7 : LI) (a8 : LN) (a9 : LI) (a10 : LS) : Option (Int × Unit) := Sof Tryz.prog annX plansX 35 i_ref15_Can o_ref15_Can (a0, (a1, (a2, (a3, (a4, (a5, (a6, (a7, (a8, (a9, (a10, ())))))))))))
noncomputable def c_ref15_Can : Ctr := ⟨35, i_ref15_Can, o_ref15_Can, fun d => S_ref15_Can d.1 d.2.1 d.2.2.1 d.2.2.2.1 d.2.2.2.2.1 d.2.2.2.2.2.1 d.2.2.2.2.2.2.1 d.2.2.2.2.2.2.2.1 d.2.2.2.2.2.2.2.2.1 d.2.2.2.2.2.2.2.2.2.1 d.2.2.2.2.2.2.2.2.2.2.1⟩
theorem k_ref15_Can : (c_ref15_Can).ok Tryz.prog annX plansX := ctr_ok (tin := i_ref15_Can) (tout := o_ref15_Can)
def i_ref16_Can : Tpl := ⟨[], [], [(.agg, [.hole (.sl 11 tF)])]⟩
def o_ref16_Can : Tpl := ⟨[], [], [(.one, [.hole tI])]⟩
noncomputable def S_ref16_Can (a0 : LF) : Option (Int × Unit) := Sof Tryz.prog annX plansX 12 i_ref16_Can o_ref16_Can (a0, ())
noncomputable def c_ref16_Can : Ctr := ⟨12, i_ref16_Can, o_ref16_Can, fun d => S_ref16_Can d.1⟩
theorem k_ref16_Can : (c_ref16_Can).ok Tryz.prog annX plansX := ctr_ok (tin := i_ref16_Can) (tout := o_ref16_Can)
end Go.Proofs.YtkdnbnkbnegckaaGreatDoor
namespace Go.Proofs.YtkdnbnkbnegckaaGreatDoor
open Go.RowKit
set_option maxRecDepth 100000
set_option linter.unusedVariables false
noncomputable def M_file_Can (N : Nat) (l_0 : LF) : Option (Int × Unit) :=
 joinK (δ := Unit) (cnd (ltI (vlen (eF l_0)) 1)
   (rightK <| some (6, ()))
   (cnd (ltI 40 (vlen (eF l_0)))
    (rightK <| some (6, ()))
    (qS (eF l_0) <|
    leftK ())))
 <| fun x1 =>
 dF l_0 <| fun l2 =>
 qS (eF l_0) <|
 qI (vlen (eF l_0)) <|
 iter (fun (d3 : (LF × (Int × Unit))) again4 =>
  cnd (ltI d3.2.1 (vlen (eF l_0)))
   (chk (leI 0 d3.2.1) <|
   getE tF (eF l_0) (natI d3.2.1) <| fun p5 =>
   dI p5.2.2.1 <| fun l6 =>
   dI p5.2.2.2.1 <| fun l7 =>
   dI p5.2.2.2.2.1 <| fun l8 =>
   dI p5.2.2.2.2.2.1 <| fun l9 =>
   dC p5.2.2.2.2.2.2.1 <| fun l10 =>
   dI p5.2.2.2.2.2.2.2.1 <| fun l11 =>
   dN p5.2.2.2.2.2.2.2.2.1 <| fun l12 =>
   dI p5.2.2.2.2.2.2.2.2.2.1 <| fun l13 =>
   dS p5.2.2.2.2.2.2.2.2.2.2 <| fun l14 =>
   bnd (S_fnc_Can p5.1 p5.2.1 l6 l7 l8 l9 l10 l11 l12 l13 l14) <| fun p15 =>
   cnd (notB (eqI p15.1 0))
    (some (p15.1, ()))
    (dF d3.1 <| fun l16 =>
    qS (eF l_0) <|
    qI (vlen (eF l_0)) <|
    again4 (l16, ((wrp .i64 (addI d3.2.1 1)), ()))))
   (dF d3.1 <| fun l17 =>
   bnd (S_file_called l17) <| fun p18 =>
   decL .str (encL .str p18.1) <| fun l19 =>
   bnd (S_names_Unlike l19) <| fun p20 =>
   cnd (notB p20.1)
    (some (7, ()))
    (some (0, ())))) N (l2, (0, ()))
noncomputable def q_file_Can : Lift := ⟨tyX, look2 .todo (α := LoopAs) (.n 43 [(5, (.as ⟨[], [[.hole (.sl 11 tF)]], (.one, [.junk]) :: (.one, [.stat (.ptr 0 0)]) :: rp 15 (.one, [.junk]) ((.one, [.fix]) :: (.one, [.fix]) :: (.one, [.hole tI]) :: rp 13 (.one, [.junk]) ([]))⟩)), (1016389, (.as ⟨[], [[.fix]], (.one, [.junk]) :: (.one, [.stat (.ptr 0 0)]) :: rp 31 (.one, [.junk]) ([])⟩))] .o .o), [c_fnc_Can, c_file_called, c_names_Unlike], bsX⟩
theorem u_file_Can {N : Nat} {a0 : LF} {q : (Int × Unit)} (h : M_file_Can N a0 = some q) : S_file_Can a0 = some q :=
 Sof_of (Q := q_file_Can) (N := N) (n := 3) (f := 43) (tin := i_file_Can) (tout := o_file_Can) (d := (a0, ())) (all1 k_fnc_Can (all1 k_file_called (all1 k_names_Unlike all0))) bs_ok (by kernel_rfl) (by kernel_rfl) (by kernel_rfl) (Eq.trans (b := M_file_Can N a0) (by kernel_rfl) h)

noncomputable def M_ref15_Can (N : Nat) (l_0 : LB) (b_1 : Bool) (l_2 : LI) (l_3 : LI) (l_4 : LI) (l_5 : LI) (l_6 : LC) (l_7 : LI) (l_8 : LN) (l_9 : LI) (l_10 : LS) : Option (Int × Unit) :=
 joinK (δ := Unit) (bnd (S_ref05_May l_0) <| fun p1 =>
  cnd (notB p1.1)
   (rightK <| some (7, ()))
   (joinK (δ := (Bool × Unit)) (dI l_2 <| fun l2 =>
    bnd (S_ref11_Right l2 4) <| fun p3 =>
    cnd (notB p3.1)
     (qB (ByteArray.mk (Array.mk l_0)) <|
     qO b_1 <|
     qS (eI l_2) <|
     qS (eI l_3) <|
     qS (eI l_4) <|
     qS (eI l_5) <|
     qS (eC l_6) <|
     qS (eI l_7) <|
     qS (eN l_8) <|
     qS (eI l_9) <|
     qS (eS l_10) <|
     qI (wrp .i64 (addI (wrp .i64 (addI (vlen (eI l_3)) (vlen (eI l_4)))) (vlen (eI l_5)))) <|
     leftK (true, ()))
     (dI l_3 <| fun l4 =>
     bnd (S_ref11_Right l4 8) <| fun p5 =>
     cnd (notB p5.1)
      (qB (ByteArray.mk (Array.mk l_0)) <|
      qO b_1 <|
      qS (eI l_2) <|
      qS (eI l_3) <|
      qS (eI l_4) <|
      qS (eI l_5) <|
      qS (eC l_6) <|
      qS (eI l_7) <|
      qS (eN l_8) <|
      qS (eI l_9) <|
      qS (eS l_10) <|
      qI (wrp .i64 (addI (wrp .i64 (addI (vlen (eI l_3)) (vlen (eI l_4)))) (vlen (eI l_5)))) <|
      leftK (true, ()))
      (dI l_4 <| fun l6 =>
      bnd (S_ref11_Right l6 4) <| fun p7 =>
      cnd (notB p7.1)
       (qB (ByteArray.mk (Array.mk l_0)) <|
       qO b_1 <|
       qS (eI l_2) <|
       qS (eI l_3) <|
       qS (eI l_4) <|
       qS (eI l_5) <|
       qS (eC l_6) <|
       qS (eI l_7) <|
       qS (eN l_8) <|
       qS (eI l_9) <|
       qS (eS l_10) <|
       qI (wrp .i64 (addI (wrp .i64 (addI (vlen (eI l_3)) (vlen (eI l_4)))) (vlen (eI l_5)))) <|
       leftK (true, ()))
       (dI l_5 <| fun l8 =>
       bnd (S_ref11_Right l8 256) <| fun p9 =>
       cnd (notB p9.1)
        (qB (ByteArray.mk (Array.mk l_0)) <|
        qO b_1 <|
        qS (eI l_2) <|
        qS (eI l_3) <|
        qS (eI l_4) <|
        qS (eI l_5) <|
        qS (eC l_6) <|
        qS (eI l_7) <|
        qS (eN l_8) <|
        qS (eI l_9) <|
        qS (eS l_10) <|
        qI (wrp .i64 (addI (wrp .i64 (addI (vlen (eI l_3)) (vlen (eI l_4)))) (vlen (eI l_5)))) <|
        leftK (true, ()))
        (cnd (ltI 0 (vlen (eI l_2)))
         (qB (ByteArray.mk (Array.mk l_0)) <|
         qO b_1 <|
         qS (eI l_2) <|
         qS (eI l_3) <|
         qS (eI l_4) <|
         qS (eI l_5) <|
         qS (eC l_6) <|
         qS (eI l_7) <|
         qS (eN l_8) <|
         qS (eI l_9) <|
         qS (eS l_10) <|
         qI (wrp .i64 (addI (wrp .i64 (addI (vlen (eI l_3)) (vlen (eI l_4)))) (vlen (eI l_5)))) <|
         leftK ((notB b_1), ()))
         (qB (ByteArray.mk (Array.mk l_0)) <|
         qO b_1 <|
         qS (eI l_2) <|
         qS (eI l_3) <|
         qS (eI l_4) <|
         qS (eI l_5) <|
         qS (eC l_6) <|
         qS (eI l_7) <|
         qS (eN l_8) <|
         qS (eI l_9) <|
         qS (eS l_10) <|
         qI (wrp .i64 (addI (wrp .i64 (addI (vlen (eI l_3)) (vlen (eI l_4)))) (vlen (eI l_5)))) <|
         leftK (false, ())))))))
   <| fun p10 =>
   cnd p10.1
    (rightK <| some (9, ()))
    (cnd (ltI 256 (wrp .i64 (addI (wrp .i64 (addI (vlen (eI l_3)) (vlen (eI l_4)))) (vlen (eI l_5)))))
     (rightK <| some (6, ()))
     (cnd (ltI (vlen (eC l_6)) 1)
      (rightK <| some (6, ()))
      (cnd (ltI 2000 (vlen (eC l_6)))
       (rightK <| some (6, ()))
       (qB (ByteArray.mk (Array.mk l_0)) <|
       qO b_1 <|
       qS (eI l_2) <|
       qS (eI l_3) <|
       qS (eI l_4) <|
       qS (eI l_5) <|
       qS (eC l_6) <|
       qS (eI l_7) <|
       qS (eN l_8) <|
       qS (eI l_9) <|
       qS (eS l_10) <|
       qI (wrp .i64 (addI (wrp .i64 (addI (vlen (eI l_3)) (vlen (eI l_4)))) (vlen (eI l_5)))) <|
       leftK ()))))))
 <| fun x11 =>
 qB (ByteArray.mk (Array.mk l_0)) <|
 qO b_1 <|
 qS (eI l_2) <|
 qS (eI l_3) <|
 qS (eI l_4) <|
 qS (eI l_5) <|
 qS (eC l_6) <|
 qS (eI l_7) <|
 qS (eN l_8) <|
 qS (eI l_9) <|
 qS (eS l_10) <|
 qI (wrp .i64 (addI (wrp .i64 (addI (vlen (eI l_3)) (vlen (eI l_4)))) (vlen (eI l_5)))) <|
 iter (fun (d12 : (Int × Unit)) again13 =>
  cnd (ltI d12.1 (vlen (eC l_6)))
   (chk (leI 0 d12.1) <|
   getE tC (eC l_6) (natI d12.1) <| fun p14 =>
   bnd (S_ref10_Right p14.1 p14.2) <| fun p15 =>
   cnd (notB p15.1)
    (some (8, ()))
    (qB (ByteArray.mk (Array.mk l_0)) <|
    qO b_1 <|
    qS (eI l_2) <|
    qS (eI l_3) <|
    qS (eI l_4) <|
    qS (eI l_5) <|
    qS (eC l_6) <|
    qS (eI l_7) <|
    qS (eN l_8) <|
    qS (eI l_9) <|
    qS (eS l_10) <|
    qI (wrp .i64 (addI (wrp .i64 (addI (vlen (eI l_3)) (vlen (eI l_4)))) (vlen (eI l_5)))) <|
    again13 ((wrp .i64 (addI d12.1 1)), ())))
   (joinK (δ := Unit) (cnd (notB (eqI (vlen (eI l_7)) (vlen (eC l_6))))
     (rightK <| some (19, ()))
     (dI l_7 <| fun l16 =>
     bnd (S_ref12_Right l16) <| fun p17 =>
     cnd (notB p17.1)
      (rightK <| some (19, ()))
      (qB (ByteArray.mk (Array.mk l_0)) <|
      qO b_1 <|
      qS (eI l_2) <|
      qS (eI l_3) <|
      qS (eI l_4) <|
      qS (eI l_5) <|
      qS (eC l_6) <|
      qS (eI l_7) <|
      qS (eN l_8) <|
      qS (eI l_9) <|
      qS (eS l_10) <|
      qI (wrp .i64 (addI (wrp .i64 (addI (vlen (eI l_3)) (vlen (eI l_4)))) (vlen (eI l_5)))) <|
      leftK ())))
   <| fun x18 =>
   dI l_2 <| fun l19 =>
   dI l_3 <| fun l20 =>
   dI l_4 <| fun l21 =>
   dI l_5 <| fun l22 =>
   dC l_6 <| fun l23 =>
   dI l_7 <| fun l24 =>
   dN l_8 <| fun l25 =>
   dI l_9 <| fun l26 =>
   dS l_10 <| fun l27 =>
   bnd (S_ref15_tables l_0 b_1 l19 l20 l21 l22 l23 l24 l25 l26 l27 (wrp .i64 (addI (wrp .i64 (addI (vlen (eI l_3)) (vlen (eI l_4)))) (vlen (eI l_5))))) <| fun p28 =>
   cnd (notB p28.1)
    (some (14, ()))
    (some (0, ())))) N (0, ())
noncomputable def q_ref15_Can : Lift := ⟨tyX, look2 .todo (α := LoopAs) (.n 35 [(9, (.as ⟨[], [[.fix, .fix, .fix, .fix, .fix, .fix, .fix, .fix, .fix, .fix, .fix]], (.one, [.junk]) :: (.one, [.stat (.ptr 0 0)]) :: (.one, [.junk]) :: (.one, [.fix]) :: (.one, [.hole tI]) :: rp 96 (.one, [.junk]) ([])⟩)), (1020486, (.as ⟨[], [[.fix, .fix, .fix, .fix, .fix, .fix, .fix, .fix, .fix, .fix, .fix]], (.one, [.junk]) :: (.one, [.stat (.ptr 0 0)]) :: (.one, [.junk]) :: (.one, [.fix]) :: rp 17 (.one, [.junk]) ((.one, [.hole .bool]) :: rp 79 (.one, [.junk]) ([]))⟩)), (1032777, (.as ⟨[], [[.fix, .fix, .fix, .fix, .fix, .fix, .fix, .fix, .fix, .fix, .fix]], (.one, [.junk]) :: (.one, [.stat (.ptr 0 0)]) :: (.one, [.junk]) :: (.one, [.fix]) :: rp 97 (.one, [.junk]) ([])⟩)), (1061456, (.as ⟨[], [[.fix, .fix, .fix, .fix, .fix, .fix, .fix, .fix, .fix, .fix, .fix]], (.one, [.junk]) :: (.one, [.stat (.ptr 0 0)]) :: (.one, [.junk]) :: (.one, [.fix]) :: rp 97 (.one, [.junk]) ([])⟩))] .o .o), [c_ref05_May, c_ref11_Right, c_ref10_Right, c_ref12_Right, c_ref15_tables], bsX⟩
theorem u_ref15_Can {N : Nat} {a0 : LB} {a1 : Bool} {a2 : LI} {a3 : LI} {a4 : LI} {a5 : LI} {a6 : LC} {a7 : LI} {a8 : LN} {a9 : LI} {a10 : LS} {q : (Int × Unit)} (h : M_ref15_Can N a0 a1 a2 a3 a4 a5 a6 a7 a8 a9 a10 = some q) : S_ref15_Can a0 a1 a2 a3 a4 a5 a6 a7 a8 a9 a10 = some q :=
 Sof_of (Q := q_ref15_Can) (N := N) (n := 3) (f := 35) (tin := i_ref15_Can) (tout := o_ref15_Can) (d := (a0, (a1, (a2, (a3, (a4, (a5, (a6, (a7, (a8, (a9, (a10, ())))))))))))) (all1 k_ref05_May (all1 k_ref11_Right (all1 k_ref10_Right (all1 k_ref12_Right (all1 k_ref15_tables all0))))) bs_ok (by kernel_rfl) (by kernel_rfl) (by kernel_rfl) (Eq.trans (b := M_ref15_Can N a0 a1 a2 a3 a4 a5 a6 a7 a8 a9 a10) (by kernel_rfl) h)

noncomputable def M_ref16_Can (N : Nat) (l_0 : LF) : Option (Int × Unit) :=
 joinK (δ := Unit) (cnd (ltI (vlen (eF l_0)) 1)
   (rightK <| some (6, ()))
   (cnd (ltI 40 (vlen (eF l_0)))
    (rightK <| some (6, ()))
    (qS (eF l_0) <|
    leftK ())))
 <| fun x1 =>
 qS (eF l_0) <|
 iter (fun (d2 : (Int × Unit)) again3 =>
  cnd (ltI d2.1 (vlen (eF l_0)))
   (chk (leI 0 d2.1) <|
   getE tF (eF l_0) (natI d2.1) <| fun p4 =>
   dI p4.2.2.1 <| fun l5 =>
   dI p4.2.2.2.1 <| fun l6 =>
   dI p4.2.2.2.2.1 <| fun l7 =>
   dI p4.2.2.2.2.2.1 <| fun l8 =>
   dC p4.2.2.2.2.2.2.1 <| fun l9 =>
   dI p4.2.2.2.2.2.2.2.1 <| fun l10 =>
   dN p4.2.2.2.2.2.2.2.2.1 <| fun l11 =>
   dI p4.2.2.2.2.2.2.2.2.2.1 <| fun l12 =>
   dS p4.2.2.2.2.2.2.2.2.2.2 <| fun l13 =>
   bnd (S_ref15_Can p4.1 p4.2.1 l5 l6 l7 l8 l9 l10 l11 l12 l13) <| fun p14 =>
   cnd (notB (eqI p14.1 0))
    (some (p14.1, ()))
    (qS (eF l_0) <|
    again3 ((wrp .i64 (addI d2.1 1)), ())))
   (dF l_0 <| fun l15 =>
   bnd (S_ref16_Names l15) <| fun p16 =>
   decL .str (encL .str p16.1) <| fun l17 =>
   bnd (S_ref05_Unlike l17) <| fun p18 =>
   cnd (notB p18.1)
    (some (7, ()))
    (some (0, ())))) N (0, ())
noncomputable def q_ref16_Can : Lift := ⟨tyX, look2 .todo (α := LoopAs) (.n 12 [(4, (.as ⟨[], [[.fix]], (.one, [.junk]) :: (.one, [.stat (.ptr 0 0)]) :: (.one, [.junk]) :: (.one, [.hole tI]) :: rp 31 (.one, [.junk]) ([])⟩)), (1012292, (.as ⟨[], [[.fix]], (.one, [.junk]) :: (.one, [.stat (.ptr 0 0)]) :: rp 33 (.one, [.junk]) ([])⟩))] .o .o), [c_ref15_Can, c_ref16_Names, c_ref05_Unlike], bsX⟩
theorem u_ref16_Can {N : Nat} {a0 : LF} {q : (Int × Unit)} (h : M_ref16_Can N a0 = some q) : S_ref16_Can a0 = some q :=
 Sof_of (Q := q_ref16_Can) (N := N) (n := 3) (f := 12) (tin := i_ref16_Can) (tout := o_ref16_Can) (d := (a0, ())) (all1 k_ref15_Can (all1 k_ref16_Names (all1 k_ref05_Unlike all0))) bs_ok (by kernel_rfl) (by kernel_rfl) (by kernel_rfl) (Eq.trans (b := M_ref16_Can N a0) (by kernel_rfl) h)

end Go.Proofs.YtkdnbnkbnegckaaGreatDoor

