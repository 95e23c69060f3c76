/-
  BalanceCentroid, walked: it answers true.
  No condition.
-/
import Derived.Test.YtnhbkdliljcedaaDoorRef29d
set_option linter.unusedVariables false
set_option linter.unusedSimpArgs false
set_option linter.unusedVariables false
set_option linter.unusedSimpArgs false
namespace Go.Mono
open Go Go.Proofs Go.RowKit

theorem law_cen {G : Nat → Prop} (t0 : List (Int × BS)) (S : BS) (v : Value) (W : World) (hT : Tab W) (h : (Dv treeE G t0).p v W) : Calls Tryd.prog 11 #[v, setV S] W (Post (E (B true)) W) := by
  have hT0 := hT.lt
  obtain ⟨t, ht⟩ : ∃ t, t0.take 40 = t := ⟨_, rfl⟩
  have hl : t.length ≤ 1000 := by rw [← ht, List.length_take]; omega
  have hF := foT hl
  have hg0 : ∀ {w : World}, ∀ b, Go.Mono.G0 b → b < w.heap.size := fun b hb => hb.elim
  have hlS : (toL S).length ≤ 4096 := by have := toL_len S; omega
  refine enter (args := [v, setV S]) (As := [Dv treeE Go.Mono.G0 t0, E (setV S)]) Tryd.func11 rfl Tryd.ntmps11 (Nat.le_of_ble_eq_true rfl) ?_ (fun a hf => ?_) (Nat.le_of_ble_eq_true rfl)
  rotate_left
  dsimp only [params, Nat.reduceAdd] at hf
  rotate_right
  · exact arg2 (Dv.weak h fun b _ hb => hb.elim) rfl
  have e := Ext.rfl' W
  repeat refine seq ?_
  refine regn0 ?_
  refine tl_box hf rfl (by decide) fun a b3 w v3 hv3 e' hb3 hs3 B3 hf => ?_
  have hle3 := Nat.le_trans e.size (Nat.le_of_eq hb3.symm)
  replace hT := hT.ext e'
  replace e := Ext.tr e e'
  clear e'
  refine tl_as hf rfl (by decide) fun a hf => ?_
  refine tl_nil ?_
  cases hv3
  replace B3 : Blk w b3 (setC S) 37 := B3
  replace hf := hf.keep [0, 3]
  dsimp only [keep, List.filterMap, look, Nat.beq, Option.map] at hf
  repeat refine seq ?_
  refine regn 2 hf (by decide +kernel) ?_
  refine st (mv rfl) ?_
  refine st (call1 (A := Dv treeE Go.Mono.G0 t) En55 rfl (fun v w he h => by rw [← ht]; exact cut_spec t0 v w h)) ?_
  refine en fun a w e' hf => ?_
  replace hT := hT.ext e'
  replace e := Ext.tr e e'
  replace B3 := B3.ext e'
  clear e'
  refine tl_as hf rfl (by decide) fun a hf => ?_
  refine tl_nil ?_
  replace hf := hf.keep [0, 3]
  dsimp only [keep, List.filterMap, look, Nat.beq, Option.map] at hf
  repeat refine seq ?_
  refine reg 6 Mix.mix hf (by decide +kernel) ?_
  refine st (mv rfl) ?_
  refine st (call1 (A := Dv rtE Go.Mono.G0 (toT t)) En31 rfl (fun v w he h => toT_spec t v w h hg0 (by omega))) ?_
  refine st (ldW T37 rfl B3 rfl) ?_
  refine st (call1 (A := Dv (slE intE) Go.Mono.G0 (toL S)) En41 rfl (fun v w he h => by cases h; exact toL_spec S w hg0)) ?_
  refine st (asg rfl) ?_
  refine st (asg rfl) ?_
  refine en fun a w e' hf => ?_
  replace hT := hT.ext e'
  replace e := Ext.tr e e'
  replace B3 := B3.ext e'
  clear e'
  refine tl_nil ?_
  obtain ⟨tv, HV, hf⟩ := hf.fix 0 rfl
  obtain ⟨wv, HW, hf⟩ := hf.fix 5 rfl
  obtain ⟨pv, HP, hf⟩ := hf.fix 6 rfl
  obtain ⟨N0, hN0⟩ : ∃ N0, N0 = w.heap.size := ⟨_, rfl⟩
  replace HV : (Dv treeE (fun b => N0 ≤ b) t).p tv w := Dv.weak HV fun b hb hg => absurd hb (Nat.not_lt.2 (by omega))
  replace HW : (Dv rtE (fun b => N0 ≤ b) (toT t)).p wv w := Dv.weak HW fun b hb hg => absurd hb (Nat.not_lt.2 (by omega))
  replace HP : (Dv (slE intE) (fun b => N0 ≤ b) (toL S)).p pv w := Dv.weak HP fun b hb hg => absurd hb (Nat.not_lt.2 (by omega))
  have hNw : N0 ≤ w.heap.size := by omega
  clear hN0
  replace hf := hf.keep [0, 3, 5, 6]
  dsimp only [keep, List.filterMap, look, Nat.beq, Option.map] at hf
  repeat refine seq ?_
  refine regn 6 hf (by decide +kernel) ?_
  refine st (mv rfl) ?_
  refine st (ldW T37 rfl B3 rfl) ?_
  refine st (call2 En67 rfl rfl (fun v u w he h h' => by cases h; cases h'; exact bou_spec t S tv w (hT.ext he) (Dv.ex HV he) hl hF)) ?_
  refine st (mv rfl) ?_
  refine st (ext_ rfl rfl) ?_
  refine st (ext_ rfl rfl) ?_
  refine en fun a w e' hf => ?_
  replace hT := hT.ext e'
  replace HV := Dv.ex HV e'
  replace HW := Dv.ex HW e'
  replace HP := Dv.ex HP e'
  replace hNw := Nat.le_trans hNw e'.size
  replace e := Ext.tr e e'
  replace B3 := B3.ext e'
  clear e'
  refine tl_alloc I37 hf (by decide) fun a b7 w e' hb7 hs7 B7 hf => ?_
  have hle7 := Nat.le_trans e.size (Nat.le_of_eq hb7.symm)
  have lo7_hNw := Nat.le_trans hNw (Nat.le_of_eq hb7.symm)
  have lt7_B3 := B3.lt
  replace hT := hT.ext e'
  replace HV := Dv.ex HV e'
  replace HW := Dv.ex HW e'
  replace HP := Dv.ex HP e'
  replace hNw := Nat.le_trans hNw e'.size
  replace e := Ext.tr e e'
  replace B3 := B3.ext e'
  clear e'
  have n73 : b7 ≠ b3 := by have := B3.lt; omega
  have hN7 : N0 ≤ b7 := by omega
  replace hf := hf.keep [0, 3, 5, 6, 7, 22, 23]
  dsimp only [keep, List.filterMap, look, Nat.beq, Option.map] at hf
  haveI hinr : ∀ G0, InR (GB W G0) (some b7) := fun G0 => InR.gb (by omega)
  refine tl_stW T37 hf rfl rfl (wordsC_one _) B7 rfl (rfl) fun w hg hsz B7 hf => ?_
  replace hT := hT.gr hg (by omega)
  replace HV := Dv.gr HV hg (by omega)
  replace HW := Dv.gr HW hg (by omega)
  replace HP := Dv.gr HP hg (by omega)
  replace hNw := Nat.le_trans hNw (Nat.le_of_eq hsz.symm)
  replace e := e.gr hg (by omega)
  replace B3 := B3.gr hg (by omega)
  clear hg
  refine tl_as hf rfl (by decide) fun a hf => ?_
  refine tl_nil ?_
  replace B7 : Blk w b7 (setC (bouR t S)) 37 := B7
  replace hf := hf.keep [0, 3, 5, 6, 7, 8]
  dsimp only [keep, List.filterMap, look, Nat.beq, Option.map] at hf
  repeat refine seq ?_
  refine regn 6 hf (by decide +kernel) ?_
  refine st (mv rfl) ?_
  refine st (ldW T37 rfl B3 rfl) ?_
  refine st (call2 En68 rfl rfl (fun v u w he h h' => by cases h; cases h'; exact centroid_spec t S tv w (hT.ext he) (Dv.ex HV he) hl hF)) ?_
  refine st (mv rfl) ?_
  refine st (ext_ rfl rfl) ?_
  refine st (ext_ rfl rfl) ?_
  refine en fun a w e' hf => ?_
  replace hT := hT.ext e'
  replace HV := Dv.ex HV e'
  replace HW := Dv.ex HW e'
  replace HP := Dv.ex HP e'
  replace hNw := Nat.le_trans hNw e'.size
  replace e := Ext.tr e e'
  replace B3 := B3.ext e'
  replace B7 := B7.ext e'
  clear e'
  refine tl_as hf rfl (by decide) fun a hf => ?_
  refine tl_as hf rfl (by decide) fun a hf => ?_
  refine tl_nil ?_
  replace hf := hf.keep [5, 6, 7, 8, 9, 10]
  dsimp only [keep, List.filterMap, look, Nat.beq, Option.map] at hf
  repeat refine seq ?_
  refine regn 3 hf (by decide +kernel) ?_
  refine st (mv rfl) ?_
  refine st (mv rfl) ?_
  refine st (call2 (A := E (I (partE t S))) En69 rfl rfl (fun v u w he h h' => by cases h; cases h'; exact check29_spec hl S wv pv w (Dv.ex HW he) (Dv.ex HP he))) ?_
  refine en fun a w e' hf => ?_
  replace hT := hT.ext e'
  replace HV := Dv.ex HV e'
  replace HW := Dv.ex HW e'
  replace HP := Dv.ex HP e'
  replace hNw := Nat.le_trans hNw e'.size
  replace e := Ext.tr e e'
  replace B3 := B3.ext e'
  replace B7 := B7.ext e'
  clear e'
  refine tl_as hf rfl (by decide) fun a hf => ?_
  refine tl_nil ?_
  replace hf := hf.keep [5, 6, 7, 8, 9, 10, 11]
  dsimp only [keep, List.filterMap, look, Nat.beq, Option.map] at hf
  repeat refine seq ?_
  refine regn 2 hf (by decide +kernel) ?_
  refine st (mv rfl) ?_
  refine st (neq rfl rfl) ?_
  refine en fun a w e' hf => ?_
  replace hT := hT.ext e'
  replace HV := Dv.ex HV e'
  replace HW := Dv.ex HW e'
  replace HP := Dv.ex HP e'
  replace hNw := Nat.le_trans hNw e'.size
  replace e := Ext.tr e e'
  replace B3 := B3.ext e'
  replace B7 := B7.ext e'
  clear e'
  refine tl_nil ?_
  repeat refine seq ?_
  refine ifc hf rfl (fun hb => ?_) (fun hb => ?_)
  · have hb' : partE t S ≠ 0 := by simpa using hb
    have h1 : bouR t S = 0 := if_neg hb'
    have h2 : cenR t S = 0 := if_neg hb'
    rw [h1] at B7
    rw [h2] at hf
    repeat refine seq ?_
    refine regn 20 hf (by decide +kernel) ?_
    refine st (call0 En58 (fun w he => known_spec w (hT.ext he))) ?_
    refine st (mv rfl) ?_
    first | refine sn rfl rfl rfl ?_ | refine su rfl rfl ?_ | refine sy rfl rfl (mv rfl) ?_
    first | refine sn rfl rfl rfl ?_ | refine su rfl rfl ?_ | refine sy rfl rfl (mv rfl) ?_
    first | refine sn rfl rfl rfl ?_ | refine su rfl rfl ?_ | refine sy rfl rfl ((eql rfl rfl).eq (congrArg Value.bool (beq_self_eq_true _))) ?_
    first | refine st (pkT rfl rfl) ?_ | refine st (pkF rfl rfl) ?_ | refine st (pk rfl rfl rfl) ?_
    refine st (mv rfl) ?_
    first | refine sn rfl rfl rfl ?_ | refine su rfl rfl ?_ | refine sy rfl rfl (mv rfl) ?_
    first | refine sn rfl rfl rfl ?_ | refine su rfl rfl ?_ | refine sy rfl rfl (mv rfl) ?_
    first | refine sn rfl rfl rfl ?_ | refine su rfl rfl ?_ | refine sy rfl rfl ((eql rfl rfl).eq (congrArg Value.bool (beq_self_eq_true _))) ?_
    first | refine st (pkT rfl rfl) ?_ | refine st (pkF rfl rfl) ?_ | refine st (pk rfl rfl rfl) ?_
    refine st (mv rfl) ?_
    first | refine sn rfl rfl rfl ?_ | refine su rfl rfl ?_ | refine sy rfl rfl (ldW T37 rfl B7 rfl) ?_
    first | refine sn rfl rfl rfl ?_ | refine su rfl rfl ?_ | refine sy rfl rfl ((bld0 Bz37).eq z16_eq) ?_
    first | refine sn rfl rfl rfl ?_ | refine su rfl rfl ?_ | refine sy rfl rfl ((eqS Tryd.underlying37 Tryd.underlying35 T35 (by decide +kernel) rfl rfl).eq (congrArg Value.bool (beq_self_eq_true _))) ?_
    first | refine st (pkT rfl rfl) ?_ | refine st (pkF rfl rfl) ?_ | refine st (pk rfl rfl rfl) ?_
    refine st (mv rfl) ?_
    first | refine sn rfl rfl rfl ?_ | refine su rfl rfl ?_ | refine sy rfl rfl (mv rfl) ?_
    first | refine sn rfl rfl rfl ?_ | refine su rfl rfl ?_ | refine sy rfl rfl ((eql rfl rfl).eq (congrArg Value.bool (show ((0 : Int) == 0) = true from rfl))) ?_
    first | refine st (pkT rfl rfl) ?_ | refine st (pkF rfl rfl) ?_ | refine st (pk rfl rfl rfl) ?_
    refine en fun a w e' hf => ?_
    replace hT := hT.ext e'
    replace HV := Dv.ex HV e'
    replace HW := Dv.ex HW e'
    replace HP := Dv.ex HP e'
    replace hNw := Nat.le_trans hNw e'.size
    replace e := Ext.tr e e'
    replace B3 := B3.ext e'
    replace B7 := B7.ext e'
    clear e'
    refine tl_as hf rfl (by decide) fun a hf => ?_
    refine tl_nil ?_
    refine wret ?_
    try simp only [Exit.then, Exit.inBlock]
    refine ret1 rfl hf rfl ?_
    rintro _ rfl
    exact ⟨_, rfl, e, rfl⟩
  · have hb' : partE t S = 0 := by simpa using hb
    have h0 : chkR (toT t) = 0 := by
      apply Classical.byContradiction
      intro hh
      rw [partE, if_pos hh] at hb'
      exact hh hb'
    have V := (chkR_ok.1 h0).2
    have F := fo_tree hl V
    have hTn : (trOf (toT t) V).n = t.length := toT_len t
    obtain ⟨_, hin, hC, p, hp⟩ := partE_ok hb' F
    rw [hTn] at hin
    have h1 : bouR t S = outM (adjL t) S := if_pos hb'
    have h2 : cenR t S = (cenB (adjL t) S : Int) := if_pos hb'
    have h3 := (cen_ok (fs := adjL t) hp).2.1
    have hcl : ∀ {X : BS}, card X ≤ 1024 := fun {X} => card_le_n fun i hi => bit_lt hi
    rw [h1] at B7
    rw [h2, hb'] at hf
    obtain ⟨om, hom⟩ : ∃ om, outM (adjL t) S = om := ⟨_, rfl⟩
    rw [hom] at B7
    have hfo := toL_from om
    have hol : (toL om).length ≤ 4096 := by have := toL_len om; omega
    refine wskip ?_
    try simp only [Exit.then, Exit.inBlock, ↓reduceIte]
    repeat refine seq ?_
    refine reg 24 Mix.mix hf (by decide +kernel) ?_
    refine st (call0 En58 (fun w he => known_spec w (hT.ext he))) ?_
    refine st (mv rfl) ?_
    first | refine sn rfl rfl rfl ?_ | refine su rfl rfl ?_ | refine sy rfl rfl (mv rfl) ?_
    first | refine sn rfl rfl rfl ?_ | refine su rfl rfl ?_ | refine sy rfl rfl ((eql rfl rfl).eq (congrArg Value.bool (show ((0 : Int) == 0) = true from rfl))) ?_
    first | refine st (pkT rfl rfl) ?_ | refine st (pkF rfl rfl) ?_ | refine st (pk rfl rfl rfl) ?_
    refine st (mv rfl) ?_
    first | refine sn rfl rfl rfl ?_ | refine su rfl rfl ?_ | refine sy rfl rfl (mv rfl) ?_
    first | refine sn rfl rfl rfl ?_ | refine su rfl rfl ?_ | refine sy rfl rfl ((eql rfl rfl).eq (congrArg Value.bool (show ((0 : Int) == 0) = true from rfl))) ?_
    first | refine st (pkT rfl rfl) ?_ | refine st (pkF rfl rfl) ?_ | refine st (pk rfl rfl rfl) ?_
    refine st (mv rfl) ?_
    first | refine sn rfl rfl rfl ?_ | refine su rfl rfl ?_ | refine sy rfl rfl (ldW T37 rfl B7 rfl) ?_
    first | refine sn rfl rfl rfl ?_ | refine su rfl rfl ?_ | refine sy rfl rfl (mv rfl) ?_
    first | refine sn rfl rfl rfl ?_ | refine su rfl rfl ?_ | refine sy rfl rfl (mv rfl) ?_
    first | refine sn rfl rfl rfl ?_ | refine su rfl rfl ?_ | refine sy rfl rfl (call2 (A := Dv (slE intE) Go.Mono.G0 (toL om)) En70 rfl rfl (fun v u w he h h' => by cases h; cases h'; rw [← hom]; exact outR_spec hl V S wv pv w (Dv.ex HW he) (Dv.ex HP he) hin)) ?_
    first | refine sn rfl rfl rfl ?_ | refine su rfl rfl ?_ | refine sy rfl rfl (call1 (A := E (setV om)) En38 rfl (fun v w he h => by have := from_spec (toL om) v w h hol; rwa [hfo] at this)) ?_
    first | refine sn rfl rfl rfl ?_ | refine su rfl rfl ?_ | refine sy rfl rfl ((eqS Tryd.underlying37 Tryd.underlying35 T35 (by decide +kernel) rfl rfl).eq (congrArg Value.bool (beq_self_eq_true _))) ?_
    first | refine st (pkT rfl rfl) ?_ | refine st (pkF rfl rfl) ?_ | refine st (pk rfl rfl rfl) ?_
    refine st (mv rfl) ?_
    first | refine sn rfl rfl rfl ?_ | refine su rfl rfl ?_ | refine sy rfl rfl (mv rfl) ?_
    first | refine sn rfl rfl rfl ?_ | refine su rfl rfl ?_ | refine sy rfl rfl (mv rfl) ?_
    first | refine sn rfl rfl rfl ?_ | refine su rfl rfl ?_ | refine sy rfl rfl (mv rfl) ?_
    first | refine sn rfl rfl rfl ?_ | refine su rfl rfl ?_ | refine sy rfl rfl (call2 (A := E (I (cenB (adjL t) S : Nat))) En71 rfl rfl (fun v u w he h h' => by cases h; cases h'; have := cenR_spec hl V S wv pv w (Dv.ex HW he) (Dv.ex HP he) hin; rwa [h3] at this)) ?_
    first | refine sn rfl rfl rfl ?_ | refine su rfl rfl ?_ | refine sy rfl rfl ((eql rfl rfl).eq (congrArg Value.bool (beq_self_eq_true _))) ?_
    first | refine st (pkT rfl rfl) ?_ | refine st (pkF rfl rfl) ?_ | refine st (pk rfl rfl rfl) ?_
    refine en fun a w e' hf => ?_
    replace hT := hT.ext e'
    replace HV := Dv.ex HV e'
    replace HW := Dv.ex HW e'
    replace HP := Dv.ex HP e'
    replace hNw := Nat.le_trans hNw e'.size
    replace e := Ext.tr e e'
    replace B3 := B3.ext e'
    replace B7 := B7.ext e'
    clear e'
    refine tl_as hf rfl (by decide) fun a hf => ?_
    refine tl_nil ?_
    refine wret ?_
    try simp only [Exit.then, Exit.inBlock]
    refine ret1 rfl hf rfl ?_
    rintro _ rfl
    exact ⟨_, rfl, e, rfl⟩
end Go.Mono
