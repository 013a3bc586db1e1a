/- What a law says of examples: by the second machine. From a lifted law to its walk. The law FncTakes: what it comes to. -/
import Derived.Test.YtkdnbnkbnegckaaGreatSpU
import Derived.Test.YtkdnbnkbnegckaaGreatClo
import Derived.Test.YtkdnbnkbnegckaaGreatSpX
namespace Go.Proofs.YtkdnbnkbnegckaaGreat
open Go.RowKit
theorem Sof_run {P : Program} {A : Ann} {plans : FuncId → Nat → List (Nat × Bool)} {f : FuncId} {tin tout : Tpl} {n : Nat} {d : DT tin} {q : DT tout} (hw : A.wk f = []) (ht : tplOk tout = true)
    (h : callN P A plans n f (unpack tin d).env (unpack tin d).h = some (hdT (unpack tout q), (unpack tout q).h)) : Sof P A plans f tin tout d = some q := by
  have h1 : ∀ args0, wkL (A.wk f) args0 = (unpack tin d).env → callW P A plans f args0 (unpack tin d).h = some (hdT (unpack tout q), (unpack tout q).h) := fun args0 ha => by
    rw [hw] at ha
    have ha : args0 = (unpack tin d).env := ha
    subst ha
    exact callW_of h
  have hx : ∃ q, ∀ args0, wkL (A.wk f) args0 = (unpack tin d).env → callW P A plans f args0 (unpack tin d).h = some (hdT (unpack tout q), (unpack tout q).h) := ⟨q, h1⟩
  have h2 := hx.choose_spec _ (by rw [hw]; rfl)
  rw [h1 _ (by rw [hw]; rfl)] at h2
  simp only [Option.some.injEq, Prod.mk.injEq] at h2
  simp only [Sof, dif_pos hx]
  exact congrArg some (unpack_inj ht h2.1 h2.2).symm
theorem run_lives : callN Tryz.prog annX plansX 40 17 [] ⟨[], []⟩ = some (⟨.one, [.c (.v (.bool true))]⟩, ⟨[], []⟩) := by kernel_rfl
theorem sp_lives : S_law15_lives = some (true, ()) := Sof_run (n := 40) (tin := i_law15_lives) (tout := o_law15_lives) (d := ()) (q := (true, ())) (by kernel_rfl) (by kernel_rfl) run_lives
end Go.Proofs.YtkdnbnkbnegckaaGreat
namespace Go.Proofs.YtkdnbnkbnegckaaGreat
open Go.RowKit
/-- A law that comes to true, of arguments that came in. -/
theorem law_walk {f : FuncId} {tin : Tpl} {d : DT tin} {args0 : List T} {vs : Array Value} {W : World} (h : Sof Tryz.prog annX plansX f tin ⟨[], [], [(.one, [.hole .bool])]⟩ d = some (true, ())) (hw : wkL (annX.wk f) args0 = (unpack tin d).env) (hh : (unpack tin d).h = ⟨[], []⟩)
    (hl : args0.length = vs.size) (hr : ∀ (i : Nat) t v, args0[i]? = some t → vs[i]? = some v → RepT W W0 L0 ⟨[], []⟩ t v) : Calls Tryz.prog f vs W fun e W' => e = .returned (.bool true) ∧ Ext W W' := by
  have h1 : callW Tryz.prog annX plansX f args0 (unpack tin d).h = some (⟨.one, [.c (.v (.bool true))]⟩, ⟨[], []⟩) := ctr_ok (P := Tryz.prog) (A := annX) (plans := plansX) (f := f) (tin := tin) (tout := ⟨[], [], [(.one, [.hole .bool])]⟩) d (true, ()) h args0 hw
  rw [hh] at h1
  exact law_of base_ok prog_ok h1 hl hr
end Go.Proofs.YtkdnbnkbnegckaaGreat
namespace Go.Proofs.YtkdnbnkbnegckaaGreat
open Go.RowKit
set_option maxRecDepth 8000
theorem headP_outer {l l' : List UInt8} {name : List UInt8} {inner : Bool} {outer params results locals : List Int} {fl : UInt8} (h : headP l = .ok ((name, (inner, (outer, (params, (results, (locals, fl)))))), l')) : outer.length ≤ 4 := by
  unfold headP at h
  split at h
  · cases h
  · split at h
    · cases h
    · split at h
      · cases h
      · split at h
        · cases h
        · split at h
          · cases h
          · rename_i outer' l3 h3
            have i3 : outer'.length ≤ 4 := by
              split at h3
              · have := (sigP_len (by omega) h3).2; omega
              · cases h3; simp
            split at h
            · cases h
            · split at h
              · cases h
              · split at h
                · cases h
                · split at h
                  · cases h
                  · cases h
                    exact i3
theorem mapsG_len {k : Nat} : ∀ {f n : Nat} {last : Option St} {l l' : List UInt8} {x : List St}, mapsG k f n last l = .ok (x, l') → l'.length ≤ l.length ∧ x.length = n
  | f, 0, last, l, l', x, h => by simp only [mapsG, Except.ok.injEq, Prod.mk.injEq] at h; obtain ⟨rfl, rfl⟩ := h; simp
  | 0, n + 1, last, l, l', x, h => by simp [mapsG] at h
  | f + 1, n + 1, last, l, l', x, h => by
    simp only [mapsG] at h
    cases hr : groupP ((n + 1 : Nat) : Int) k last l with
    | error e => rw [hr] at h; cases h
    | ok p =>
      obtain ⟨⟨u, v⟩, l2⟩ := p
      rw [hr] at h
      obtain ⟨h1, h2, h3⟩ := groupP_len hr
      simp only at h h2 h3
      split at h
      · rename_i r l3 hq
        have := mapsG_len hq
        cases h
        simp; omega
      · cases h
theorem codeP_len {l l' : List UInt8} {n : Int} {code : List (Int × Int)} {lines : List Int} (h : codeP l = .ok ((n, (code, lines)), l')) : (code.length : Int) = n ∧ (lines.length : Int) = n := by
  unfold codeP at h
  split at h
  · cases h
  · rename_i u l1 h1
    have i1 := numP_ok h1
    split at h
    · cases h
    · split at h
      · cases h
      · rename_i c l2 h2
        have i2 := instrsP_len h2
        split at h
        · cases h
        · rename_i r l3 h3
          have i3 := runsP_len h3
          cases h
          exact ⟨by omega, by omega⟩
theorem tablesP_len {fl : UInt8} {n : Int} {k : Nat} {l l' : List UInt8} {nodes : List Nd} {at' : List Int} {live : List St} (hn : 0 ≤ n) (h : tablesP fl n k l = .ok ((nodes, (at', live)), l')) : l'.length ≤ l.length ∧ nodes.length ≤ 120 ∧ (at'.length : Int) ≤ n ∧ (live.length : Int) ≤ n := by
  unfold tablesP at h
  split at h
  · cases h; simp; omega
  · split at h
    · cases h
    · rename_i nd l1 h1
      have i1 := treeP_len h1
      split at h
      · cases h
      · rename_i a l2 h2
        have i2 := runsP_len h2
        split at h
        · cases h
        · rename_i m l3 h3
          have i3 := mapsG_len h3
          cases h
          exact ⟨by omega, by omega, by omega, by omega⟩
theorem fncP_ok {l l' : List UInt8} {name : List UInt8} {inner : Bool} {outer params results locals lines at' : List Int} {code : List (Int × Int)} {nodes : List Nd} {live : List St}
    (h : fncP l = .ok ((name, inner, outer, params, results, locals, code, lines, nodes, at', live), l')) :
    l'.length ≤ l.length ∧ outer.length ≤ 4 ∧ params.length + results.length + locals.length ≤ 256 ∧ code.length ≤ 2000 ∧ lines.length ≤ 2000 ∧ nodes.length ≤ 120 ∧ at'.length ≤ 2000 ∧ live.length ≤ 2000 := by
  unfold fncP at h
  split at h
  · cases h
  · rename_i nm inn ou pa re lo fl l1 h1
    have i1 := headP_ok h1
    have o1 := headP_outer h1
    split at h
    · cases h
    · rename_i n c li l2 h2
      have i2 := codeP_ok h2
      have o2 := codeP_len h2
      split at h
      · cases h
      · rename_i nd a m l3 h3
        have i3 := tablesP_len (by omega) h3
        cases h
        exact ⟨by omega, o1, i1.2.2, by omega, by omega, by omega, by omega, by omega⟩
theorem law_FncTakes {b : List UInt8} (hb : Len b) : S_law15_FncTakes b = some (true, ()) := by
  have hR := rf_Take hb
  have hT := im_Take hb
  refine u_law15_FncTakes (N := 0) ?_
  cases h : fncP b with
  | error e =>
    rw [h] at hR hT
    obtain ⟨he, l1, hR⟩ := hR
    obtain ⟨_, l2, hT⟩ := hT
    simp [M_law15_FncTakes, sp_New hb, hR, hT, sp_Same15, he, sp_lives]
  | ok p =>
    obtain ⟨⟨name, inner, outer, params, results, locals, code, lines, nodes, at', live⟩, l'⟩ := p
    obtain ⟨k1, k2, k3, k4, k5, k6, k7, k8⟩ := fncP_ok h
    rw [h] at hR hT
    simp only [RfF] at hR hT
    have hS := sp_Same15 (name := name) (inner := inner) (outer := outer) (params := params) (results := results) (locals := locals) (lines := lines) (at' := at') (code := code) (nodes := nodes) (live := live) (by omega) (by omega) (by omega) (by omega) (by omega) (by omega) (by omega) (by omega) (by omega)
    simp [M_law15_FncTakes, sp_New hb, hR, hT, hS, sp_lives]
theorem FncTakes_walk (ao0 : Option Addr) (cap0 : Nat) (b0 : List UInt8) (w : World) (hl0 : Cells w ao0 (b0.map byteC) ∧ b0.length ≤ cap0 ∧ b0.length ≤ 140737488351232) :
    Calls Tryz.prog 3 #[.slice ao0 b0.length cap0] w fun e w' => e = .returned (.bool true) ∧ Ext w w' := by
  obtain ⟨hc0, hcap, hlen⟩ := hl0
  refine law_walk (args0 := [⟨.one, [.c (.fz 1 (b0.map fun n => [.v (.int .u8 n.toNat)]))]⟩]) (law_FncTakes hlen) (by kernel_rfl) rfl rfl fun i t v h1 h2 => ?_
  match i with
  | 0 =>
    cases h1
    cases h2
    exact repT_bytes hc0 hcap
  | i + 1 => simp at h1
end Go.Proofs.YtkdnbnkbnegckaaGreat
