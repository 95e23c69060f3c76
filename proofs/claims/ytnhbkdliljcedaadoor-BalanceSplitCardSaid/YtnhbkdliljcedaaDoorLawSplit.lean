/-
  BalanceSplit, walked: it answers true.
  No condition.
-/
import Derived.Test.YtnhbkdliljcedaaDoorRef29f
set_option linter.unusedVariables false
set_option linter.unusedSimpArgs false
set_option linter.unusedVariables false
set_option linter.unusedSimpArgs false
namespace Go.Mono
open Go Go.Proofs Go.RowKit

theorem law_split {G : Nat → Prop} (t0 : List (Int × BS)) (S : BS) (p : Int) (v : Value) (W : World) (hT : Tab W) (h : (Dv treeE G t0).p v W) : Calls Tryd.prog 15 #[v, setV S, I p] W (Post (E (B true)) W) := by
  have hT0 := hT.lt
  obtain ⟨t, ht⟩ : ∃ t, t0.take 40 = t := ⟨_, rfl⟩
  have hl : t.length ≤ 1000 := by rw [← ht, List.length_take]; omega
  have hF := foT hl
  have hg0 : ∀ {w : World}, ∀ b, Go.Mono.G0 b → b < w.heap.size := fun b hb => hb.elim
  have hlS : (toL S).length ≤ 4096 := by have := toL_len S; omega
  have hcl : ∀ {X : BS}, card X ≤ 1024 := fun {X} => card_le_n fun i hi => bit_lt hi
  refine enter (args := [v, setV S, I p]) (As := [Dv treeE Go.Mono.G0 t0, E (setV S), E (I p)]) Tryd.func15 rfl Tryd.ntmps15 (Nat.le_of_ble_eq_true rfl) ?_ (fun a hf => ?_) (Nat.le_of_ble_eq_true rfl)
  rotate_left
  dsimp only [params, Nat.reduceAdd] at hf
  rotate_right
  · exact arg3 (Dv.weak h fun b _ hb => hb.elim) rfl rfl
  have e := Ext.rfl' W
  repeat refine seq ?_
  refine regn0 ?_
  refine tl_box hf rfl (by decide) fun a b4 w v4 hv4 e' hb4 hs4 B4 hf => ?_
  have hle4 := Nat.le_trans e.size (Nat.le_of_eq hb4.symm)
  replace hT := hT.ext e'
  replace e := Ext.tr e e'
  clear e'
  refine tl_as hf rfl (by decide) fun a hf => ?_
  refine tl_nil ?_
  cases hv4
  replace B4 : Blk w b4 (setC S) 37 := B4
  replace hf := hf.keep [0, 2, 4]
  dsimp only [keep, List.filterMap, look, Nat.beq, Option.map] at hf
  repeat refine seq ?_
  refine regn 2 hf (by decide +kernel) ?_
  refine st (mv rfl) ?_
  refine st (call1 (A := Dv treeE Go.Mono.G0 t) En55 rfl (fun v w he h => by rw [← ht]; exact cut_spec t0 v w h)) ?_
  refine en fun a w e' hf => ?_
  replace hT := hT.ext e'
  replace e := Ext.tr e e'
  replace B4 := B4.ext e'
  clear e'
  refine tl_as hf rfl (by decide) fun a hf => ?_
  refine tl_nil ?_
  replace hf := hf.keep [0, 2, 4]
  dsimp only [keep, List.filterMap, look, Nat.beq, Option.map] at hf
  repeat refine seq ?_
  refine reg 6 Mix.mix hf (by decide +kernel) ?_
  refine st (mv rfl) ?_
  refine st (call1 (A := Dv rtE Go.Mono.G0 (toT t)) En31 rfl (fun v w he h => toT_spec t v w h hg0 (by omega))) ?_
  refine st (ldW T37 rfl B4 rfl) ?_
  refine st (call1 (A := Dv (slE intE) Go.Mono.G0 (toL S)) En41 rfl (fun v w he h => by cases h; exact toL_spec S w hg0)) ?_
  refine st (asg rfl) ?_
  refine st (asg rfl) ?_
  refine en fun a w e' hf => ?_
  replace hT := hT.ext e'
  replace e := Ext.tr e e'
  replace B4 := B4.ext e'
  clear e'
  refine tl_nil ?_
  replace hf := hf.keep [0, 2, 4, 7, 8]
  dsimp only [keep, List.filterMap, look, Nat.beq, Option.map] at hf
  repeat refine seq ?_
  refine regn 7 hf (by decide +kernel) ?_
  refine st (mv rfl) ?_
  refine st (ldW T37 rfl B4 rfl) ?_
  refine st (mv rfl) ?_
  refine st (call3 En77 rfl rfl rfl (fun v u s w he h h' h'' => by cases h'; cases h''; exact spt_spec t S p v w (hT.ext he) h hl hF)) ?_
  refine st (mv rfl) ?_
  refine st (ext_ rfl rfl) ?_
  refine st (ext_ rfl rfl) ?_
  refine en fun a w e' hf => ?_
  replace hT := hT.ext e'
  replace e := Ext.tr e e'
  replace B4 := B4.ext e'
  clear e'
  refine tl_as hf rfl (by decide) fun a hf => ?_
  refine tl_as hf rfl (by decide) fun a hf => ?_
  refine tl_nil ?_
  replace hf := hf.keep [0, 2, 4, 7, 8, 9, 10]
  dsimp only [keep, List.filterMap, look, Nat.beq, Option.map] at hf
  repeat refine seq ?_
  refine regn 6 hf (by decide +kernel) ?_
  refine st (mv rfl) ?_
  refine st (ldW T37 rfl B4 rfl) ?_
  refine st (call2 En82 rfl rfl (fun v u w he h h' => by cases h'; exact splitter_spec t S v w (hT.ext he) h hl hF)) ?_
  refine st (mv rfl) ?_
  refine st (ext_ rfl rfl) ?_
  refine st (ext_ rfl rfl) ?_
  refine en fun a w e' hf => ?_
  replace hT := hT.ext e'
  replace e := Ext.tr e e'
  replace B4 := B4.ext e'
  clear e'
  refine tl_as hf rfl (by decide) fun a hf => ?_
  refine tl_as hf rfl (by decide) fun a hf => ?_
  refine tl_nil ?_
  replace hf := hf.keep [2, 7, 8, 9, 10, 11, 12]
  dsimp only [keep, List.filterMap, look, Nat.beq, Option.map] at hf
  repeat refine seq ?_
  refine regn 3 hf (by decide +kernel) ?_
  refine st (mv rfl) ?_
  refine st (mv rfl) ?_
  refine st (call2 (A := E (I (partE t S))) En69 rfl rfl (fun v u w he h h' => check29_spec hl S v u w h h')) ?_
  refine en fun a w e' hf => ?_
  replace hT := hT.ext e'
  replace e := Ext.tr e e'
  replace B4 := B4.ext e'
  clear e'
  refine tl_as hf rfl (by decide) fun a hf => ?_
  refine tl_nil ?_
  replace hf := hf.keep [2, 7, 8, 9, 10, 11, 12, 13]
  dsimp only [keep, List.filterMap, look, Nat.beq, Option.map] at hf
  repeat refine seq ?_
  refine regn 2 hf (by decide +kernel) ?_
  refine st (mv rfl) ?_
  refine st (neq rfl rfl) ?_
  refine en fun a w e' hf => ?_
  replace hT := hT.ext e'
  replace e := Ext.tr e e'
  replace B4 := B4.ext e'
  clear e'
  refine tl_nil ?_
  repeat refine seq ?_
  refine ifc hf rfl (fun hb => ?_) (fun hb => ?_)
  · have hb' : partE t S ≠ 0 := by simpa using hb
    have q1 : sptE t S p = partE t S := if_pos hb'
    have q2 : sptR t S p = [] := if_neg (by rw [q1]; exact hb')
    have q3 : splE t S = partE t S := if_pos hb'
    have q4 : splR t S = 0 := if_neg (by rw [q3]; exact hb')
    rw [q1, q2, q3, q4] at hf
    repeat refine seq ?_
    refine regn 20 hf (by decide +kernel) ?_
    refine st (call0 En58 (fun w he => known_spec w (hT.ext he))) ?_
    refine st (mv rfl) ?_
    first | refine sn rfl rfl rfl ?_ | refine su rfl rfl ?_ | refine sy rfl rfl (mv rfl) ?_
    first | refine sn rfl rfl rfl ?_ | refine su rfl rfl ?_ | refine sy rfl rfl (mv rfl) ?_
    first | refine sn rfl rfl rfl ?_ | refine su rfl rfl ?_ | refine sy rfl rfl ((eql rfl rfl).eq (congrArg Value.bool (beq_self_eq_true _))) ?_
    first | refine st (pkT rfl rfl) ?_ | refine st (pkF rfl rfl) ?_ | refine st (pk rfl rfl rfl) ?_
    refine st (mv rfl) ?_
    first | refine sn rfl rfl rfl ?_ | refine su rfl rfl ?_ | refine sy rfl rfl (mv rfl) ?_
    first | refine sn rfl rfl rfl ?_ | refine su rfl rfl ?_ | refine sy rfl rfl (mv rfl) ?_
    first | refine sn rfl rfl rfl ?_ | refine su rfl rfl ?_ | refine sy rfl rfl ((eql rfl rfl).eq (congrArg Value.bool (beq_self_eq_true _))) ?_
    first | refine st (pkT rfl rfl) ?_ | refine st (pkF rfl rfl) ?_ | refine st (pk rfl rfl rfl) ?_
    refine st (mv rfl) ?_
    first | refine sn rfl rfl rfl ?_ | refine su rfl rfl ?_ | refine sy rfl rfl (mv rfl) ?_
    first | refine sn rfl rfl rfl ?_ | refine su rfl rfl ?_ | refine sy rfl rfl (lenD Tryd.underlying88 (isR rfl)) ?_
    first | refine sn rfl rfl rfl ?_ | refine su rfl rfl ?_ | refine sy rfl rfl ((eql rfl rfl).eq (congrArg Value.bool (show ((0 : Int) == 0) = true from rfl))) ?_
    first | refine st (pkT rfl rfl) ?_ | refine st (pkF rfl rfl) ?_ | refine st (pk rfl rfl rfl) ?_
    refine st (mv rfl) ?_
    first | refine sn rfl rfl rfl ?_ | refine su rfl rfl ?_ | refine sy rfl rfl (mv rfl) ?_
    first | refine sn rfl rfl rfl ?_ | refine su rfl rfl ?_ | refine sy rfl rfl ((eql rfl rfl).eq (congrArg Value.bool (show ((0 : Int) == 0) = true from rfl))) ?_
    first | refine st (pkT rfl rfl) ?_ | refine st (pkF rfl rfl) ?_ | refine st (pk rfl rfl rfl) ?_
    refine en fun a w e' hf => ?_
    replace hT := hT.ext e'
    replace e := Ext.tr e e'
    replace B4 := B4.ext e'
    clear e'
    refine tl_as hf rfl (by decide) fun a hf => ?_
    refine tl_nil ?_
    refine wret ?_
    try simp only [Exit.then, Exit.inBlock]
    refine ret1 rfl hf rfl ?_
    rintro _ rfl
    exact ⟨_, rfl, e, rfl⟩
  have hb' : partE t S = 0 := by simpa using hb
  have h0 : chkR (toT t) = 0 := by
    apply Classical.byContradiction
    intro hh
    rw [partE, if_pos hh] at hb'
    exact hh hb'
  have V := (chkR_ok.1 h0).2
  have F := fo_tree hl V
  have hTn : (trOf (toT t) V).n = t.length := toT_len t
  obtain ⟨_, hin', hC, q, hq⟩ := partE_ok hb' F
  have hin : ∀ i, S.getLsbD i = true → i < t.length := fun i hi => by have := hin' i hi; omega
  obtain ⟨om, hom⟩ : ∃ om, outM (adjL t) S = om := ⟨_, rfl⟩
  obtain ⟨co, hco⟩ : ∃ c, card om = c := ⟨_, rfl⟩
  have hlo : (toL om).length = co := (toL_card om).trans hco
  have hbo : co ≤ 1024 := by rw [← hco]; exact hcl
  have qE : splE t S = if 2 < co then 14 else 0 := by rw [splE, if_neg (fun hh => hh hb'), hom, hco]
  clear hb
  refine wskip ?_
  try simp only [Exit.then, Exit.inBlock, ↓reduceIte]
  repeat refine seq ?_
  refine regn 5 hf (by decide +kernel) ?_
  refine st (mv rfl) ?_
  refine st (mv rfl) ?_
  refine st (call2 (A := Dv (slE intE) Go.Mono.G0 (toL om)) En70 rfl rfl (fun v u w he h h' => by rw [← hom]; exact outR_spec hl V S _ _ w h h' hin)) ?_
  refine st ((lenD Tryd.underlying57 (isR rfl)).eq (congrArg (Value.int .i64) (congrArg (fun n : Nat => (n : Int)) hlo))) ?_
  refine st (gtr rfl rfl) ?_
  refine en fun a w e' hf => ?_
  replace hT := hT.ext e'
  replace e := Ext.tr e e'
  replace B4 := B4.ext e'
  clear e'
  refine tl_nil ?_
  replace hf := hf.keep [2, 7, 8, 9, 10, 11, 12, 62]
  dsimp only [keep, List.filterMap, look, Nat.beq, Option.map] at hf
  repeat refine seq ?_
  refine cut (J := fun a w => Fr 106 a w [(2, E (I p)), (7, Dv rtE Go.Mono.G0 (toT t)), (8, Dv (slE intE) Go.Mono.G0 (toL S)), (9, Dv (slE setE) Go.Mono.G0 (sptR t S p)), (10, E (I (sptE t S p)))] ∧ Ext W w ∧ Tab w) ?_ (fun a w hJ => ?_)
  · repeat refine seq ?_
    refine ifc hf rfl (fun hb => ?_) (fun hb => ?_)
    · have h2 : 2 < co := by have := of_decide_eq_true hb; omega
      rw [if_pos h2] at qE
      have qR : splR t S = 0 := if_neg (by rw [qE]; decide)
      rw [qE, qR] at hf
      repeat refine seq ?_
      refine regn 6 hf (by decide +kernel) ?_
      refine st (mv rfl) ?_
      refine st ((neq rfl rfl).eq (congrArg Value.bool (show ((14 : Int) != 14) = false from rfl))) ?_
      refine st (mv rfl) ?_
      first | refine sn rfl rfl rfl ?_ | refine su rfl rfl ?_ | refine sy rfl rfl (mv rfl) ?_
      first | refine sn rfl rfl rfl ?_ | refine su rfl rfl ?_ | refine sy rfl rfl ((neq rfl rfl).eq (congrArg Value.bool (show ((0 : Int) != 0) = false from rfl))) ?_
      first | refine st (pkT rfl rfl) ?_ | refine st (pkF rfl rfl) ?_ | refine st (pk rfl rfl rfl) ?_
      refine en fun a w e' hf => ?_
      replace hT := hT.ext e'
      replace e := Ext.tr e e'
      replace B4 := B4.ext e'
      clear e'
      refine tl_nil ?_
      repeat refine seq ?_
      refine ifc hf rfl (fun h => by cases h) (fun _ => ?_)
      refine wskip ?_
      replace hf := hf.keep [2, 7, 8, 9, 10]
      dsimp only [keep, List.filterMap, look, Nat.beq, Option.map] at hf
      exact ⟨rfl, hf, e, hT⟩
    · have h2 : ¬2 < co := by have := of_decide_eq_false hb; omega
      rw [if_neg h2] at qE
      have qR : splR t S = (splitter (adjL t) S : Int) := if_pos qE
      rw [qE, qR] at hf
      repeat refine seq ?_
      refine regn 9 hf (by decide +kernel) ?_
      refine st (mv rfl) ?_
      refine st ((neq rfl rfl).eq (congrArg Value.bool (show ((0 : Int) != 0) = false from rfl))) ?_
      refine st (mv rfl) ?_
      first | refine sn rfl rfl rfl ?_ | refine su rfl rfl ?_ | refine sy rfl rfl (mv rfl) ?_
      first | refine sn rfl rfl rfl ?_ | refine su rfl rfl ?_ | refine sy rfl rfl (mv rfl) ?_
      first | refine sn rfl rfl rfl ?_ | refine su rfl rfl ?_ | refine sy rfl rfl (mv rfl) ?_
      first | refine sn rfl rfl rfl ?_ | refine su rfl rfl ?_ | refine sy rfl rfl (call2 (A := E (I (splitter (adjL t) S : Nat))) En83 rfl rfl (fun v u w he h h' => splitterR_spec hl V S _ _ w h h' hin hC hq)) ?_
      first | refine sn rfl rfl rfl ?_ | refine su rfl rfl ?_ | refine sy rfl rfl ((neq rfl rfl).eq (congrArg Value.bool (bne_self_eq_false _))) ?_
      first | refine st (pkT rfl rfl) ?_ | refine st (pkF rfl rfl) ?_ | refine st (pk rfl rfl rfl) ?_
      refine en fun a w e' hf => ?_
      replace hT := hT.ext e'
      replace e := Ext.tr e e'
      replace B4 := B4.ext e'
      clear e'
      refine tl_nil ?_
      repeat refine seq ?_
      refine ifc hf rfl (fun h => by cases h) (fun _ => ?_)
      refine wskip ?_
      replace hf := hf.keep [2, 7, 8, 9, 10]
      dsimp only [keep, List.filterMap, look, Nat.beq, Option.map] at hf
      exact ⟨rfl, hf, e, hT⟩
  clear hf e hT
  obtain ⟨hf, e, hT⟩ := hJ
  try simp only [Exit.then]
  obtain ⟨hp, hhp⟩ : ∃ c, has S p = c := ⟨_, rfl⟩
  have hHL : hasL (toL S) p = hp := by rw [hasL_toL, hhp]
  have q1 : sptE t S p = if hp = false then 9 else 0 := by rw [sptE, if_neg (fun hh => hh hb'), hhp]
  repeat refine seq ?_
  refine regn 4 hf (by decide +kernel) ?_
  refine st (mv rfl) ?_
  refine st (mv rfl) ?_
  refine st (call2 (A := E (B hp)) En84 rfl rfl (fun v u w he h h' => by cases h'; rw [← hHL]; exact hasL_spec _ _ _ _ h hlS)) ?_
  refine st (notp rfl) ?_
  refine en fun a w e' hf => ?_
  replace hT := hT.ext e'
  replace e := Ext.tr e e'
  clear e'
  refine tl_nil ?_
  repeat refine seq ?_
  refine ifc hf rfl (fun hb => ?_) (fun hb => ?_)
  · have hz : hp = false := by cases hp <;> simp_all
    rw [if_pos hz] at q1
    have q2 : sptR t S p = [] := if_neg (by rw [q1]; decide)
    rw [q1, q2] at hf
    repeat refine seq ?_
    refine regn 10 hf (by decide +kernel) ?_
    refine st (call0 En58 (fun w he => known_spec w (hT.ext he))) ?_
    refine st (mv rfl) ?_
    first | refine sn rfl rfl rfl ?_ | refine su rfl rfl ?_ | refine sy rfl rfl (mv rfl) ?_
    first | refine sn rfl rfl rfl ?_ | refine su rfl rfl ?_ | refine sy rfl rfl ((eql rfl rfl).eq (congrArg Value.bool (show ((9 : Int) == 9) = true from rfl))) ?_
    first | refine st (pkT rfl rfl) ?_ | refine st (pkF rfl rfl) ?_ | refine st (pk rfl rfl rfl) ?_
    refine st (mv rfl) ?_
    first | refine sn rfl rfl rfl ?_ | refine su rfl rfl ?_ | refine sy rfl rfl (mv rfl) ?_
    first | refine sn rfl rfl rfl ?_ | refine su rfl rfl ?_ | refine sy rfl rfl (lenD Tryd.underlying88 (isR rfl)) ?_
    first | refine sn rfl rfl rfl ?_ | refine su rfl rfl ?_ | refine sy rfl rfl ((eql rfl rfl).eq (congrArg Value.bool (show ((0 : Int) == 0) = true from rfl))) ?_
    first | refine st (pkT rfl rfl) ?_ | refine st (pkF rfl rfl) ?_ | refine st (pk rfl rfl rfl) ?_
    refine en fun a w e' hf => ?_
    replace hT := hT.ext e'
    replace e := Ext.tr e e'
    clear e'
    refine tl_as hf rfl (by decide) fun a hf => ?_
    refine tl_nil ?_
    refine wret ?_
    try simp only [Exit.then, Exit.inBlock]
    refine ret1 rfl hf rfl ?_
    rintro _ rfl
    exact ⟨_, rfl, e, rfl⟩
  · have hz : hp = true := by cases hp <;> simp_all
    rw [if_neg (by rw [hz]; decide)] at q1
    have q2 : sptR t S p = partsB (adjL t) (del S p) := if_pos q1
    rw [q1, q2] at hf
    obtain ⟨ms, hms⟩ : ∃ ms, partsB (adjL t) (del S p) = ms := ⟨_, rfl⟩
    rw [hms] at hf
    have hml : ms.length ≤ 1024 := by
      have h1 := (parts_some F (del_in hin' p)).2.1
      rw [hms] at h1
      have : card (del S p) ≤ 1024 := hcl
      omega
    have hmll : (ms.map toL).length ≤ 4096 := by rw [List.length_map]; omega
    have hml2 : ∀ x ∈ ms.map toL, x.length ≤ 4096 := fun x hx => by
      obtain ⟨C, _, rfl⟩ := List.mem_map.1 hx
      have := toL_len C; omega
    have hsame : (cmpLs (ms.map toL) (ms.map toL) == 0) = true := by rw [cmpLs_self]; rfl
    refine wskip ?_
    try simp only [Exit.then, Exit.inBlock, ↓reduceIte]
    repeat refine seq ?_
    refine regn 14 hf (by decide +kernel) ?_
    refine st (call0 En58 (fun w he => known_spec w (hT.ext he))) ?_
    refine st (mv rfl) ?_
    first | refine sn rfl rfl rfl ?_ | refine su rfl rfl ?_ | refine sy rfl rfl (mv rfl) ?_
    first | refine sn rfl rfl rfl ?_ | refine su rfl rfl ?_ | refine sy rfl rfl ((eql rfl rfl).eq (congrArg Value.bool (show ((0 : Int) == 0) = true from rfl))) ?_
    first | refine st (pkT rfl rfl) ?_ | refine st (pkF rfl rfl) ?_ | refine st (pk rfl rfl rfl) ?_
    refine st (mv rfl) ?_
    first | refine sn rfl rfl rfl ?_ | refine su rfl rfl ?_ | refine sy rfl rfl (mv rfl) ?_
    first | refine sn rfl rfl rfl ?_ | refine su rfl rfl ?_ | refine sy rfl rfl (call1 (A := Dv (slE (slE intE)) Go.Mono.G0 (ms.map toL)) En86 rfl (fun v w he h => lists_spec ms v w h hg0 (by omega))) ?_
    first | refine sn rfl rfl rfl ?_ | refine su rfl rfl ?_ | refine sy rfl rfl (mv rfl) ?_
    first | refine sn rfl rfl rfl ?_ | refine su rfl rfl ?_ | refine sy rfl rfl (mv rfl) ?_
    first | refine sn rfl rfl rfl ?_ | refine su rfl rfl ?_ | refine sy rfl rfl (mv rfl) ?_
    first | refine sn rfl rfl rfl ?_ | refine su rfl rfl ?_ | refine sy rfl rfl (call3 (A := Dv (slE (slE intE)) Go.Mono.G0 (ms.map toL)) En87 rfl rfl rfl (fun v u s w he h h' h'' => by cases h''; rw [← hms]; exact splitR_spec hl V S p _ _ w h h' hg0 hin)) ?_
    first | refine sn rfl rfl rfl ?_ | refine su rfl rfl ?_ | refine sy rfl rfl ((call2 (A := E (B (cmpLs (ms.map toL) (ms.map toL) == 0))) En85 rfl rfl (fun v u w he h h' => sameLs_spec _ _ _ _ w h h' hmll hmll hml2 hml2)).eq (congrArg Value.bool (hsame))) ?_
    first | refine st (pkT rfl rfl) ?_ | refine st (pkF rfl rfl) ?_ | refine st (pk rfl rfl rfl) ?_
    refine en fun a w e' hf => ?_
    replace hT := hT.ext e'
    replace e := Ext.tr e e'
    clear e'
    refine tl_as hf rfl (by decide) fun a hf => ?_
    refine tl_nil ?_
    refine wret ?_
    try simp only [Exit.then, Exit.inBlock]
    refine ret1 rfl hf rfl ?_
    rintro _ rfl
    exact ⟨_, rfl, e, rfl⟩
end Go.Mono
