/-
  The width of a tree of bags, walked.
  No condition.
-/
import Derived.Test.YtnhbkdliljcedaaDoorLawBL
import Derived.Test.YtnhbkdliljcedaaDoorBal8
set_option linter.unusedVariables false
set_option linter.unusedSimpArgs false
set_option linter.unusedVariables false
set_option linter.unusedSimpArgs false
namespace Go.Mono
open Go Go.Proofs Go.RowKit

theorem width_spec {G : Nat → Prop} (t : List (Int × BS)) (v : Value) (W : World) (h : (Dv treeE G t).p v W) (hl : t.length ≤ 4096) : Calls Tryd.prog 72 #[v] W (Post (E (I (widT t))) W) := by
  refine enter (args := [v]) (As := [Dv treeE (GB W Go.Mono.G0) t]) Tryd.func72 rfl Tryd.ntmps72 (Nat.le_of_ble_eq_true rfl) ?_ (fun a hf => ?_) (Nat.le_of_ble_eq_true rfl)
  rotate_left
  dsimp only [params, Nat.reduceAdd] at hf
  rotate_right
  · exact arg1 (Dv.toB (Dv.weak h fun b _ hb => hb.elim))
  have e := Ext.rfl' W
  repeat refine seq ?_
  refine regn0 ?_
  refine tl_as hf rfl (by decide) fun a hf => ?_
  refine tl_nil ?_
  repeat refine seq ?_
  refine regn0 ?_
  refine tl_as hf rfl (by decide) fun a hf => ?_
  refine tl_nil ?_
  repeat refine seq ?_
  refine regn 3 hf (by decide +kernel) ?_
  refine st (mv rfl) ?_
  refine st (lenD Tryd.underlying23 (isR rfl)) ?_
  refine st (mv rfl) ?_
  refine en fun a w e' hf => ?_
  replace e := Ext.tr e e'
  clear e'
  refine tl_nil ?_
  obtain ⟨tv, HV, hf⟩ := hf.fix 6 rfl
  clear h
  replace hf := hf.keep [3, 6, 7, 8]
  dsimp only [keep, List.filterMap, look, Nat.beq, Option.map] at hf
  repeat refine seq ?_
  refine blk (loopN (fun r0 a w => ∃ (k : Nat), r0 = t.length - k ∧ k ≤ t.length ∧ Fr 20 a w [(3, E (I (widTo t k))), (6, E tv), (7, E (I (t.length : Nat))), (8, E (I k))] ∧ Ext W w ∧ (Dv treeE (GB W Go.Mono.G0) t).p tv w) t.length ⟨0, rfl, by omega, hf, e, HV⟩ ?_)
  clear hf e HV
  rintro r0 a w ⟨k, rfl, hk, hf, e, HV⟩
  repeat refine seq ?_
  refine regn 1 hf (by decide +kernel) ?_
  refine st (lss rfl rfl) ?_
  refine en fun a w e' hf => ?_
  replace HV := Dv.ex HV e'
  replace e := Ext.tr e e'
  clear e'
  refine tl_nil ?_
  repeat refine seq ?_
  refine ifc hf rfl (fun hc => wskip ?_) (fun hc => wexit ?_)
  · have hlt : k < t.length := by have := of_decide_eq_true hc; omega
    clear hc
    simp only [Exit.then, Exit.inBlock, ↓reduceIte]
    have hx := bg_get hlt
    have hs := widTo_succ hlt
    obtain ⟨w1, w2, _, _⟩ := widTo_bd t k hk
    have hcc := card_le_n (S := (bg t k).2) (n := 1024) fun i hi => bit_lt hi
    repeat refine seq ?_
    refine blk ?_
    repeat refine seq ?_
    refine regn0 ?_
    refine tl_op hf (by decide) (idxD Tryd.underlying23 S86 (isE rfl HV) rfl (by omega) (hx)) fun a w e' hf => ?_
    replace HV := Dv.ex HV e'
    replace e := Ext.tr e e'
    clear e'
    refine tl_op hf (by decide) (ldBag T86 (isR rfl)) fun a w e' hf => ?_
    replace HV := Dv.ex HV e'
    replace e := Ext.tr e e'
    clear e'
    refine tl_alloc I86 hf (by decide) fun a b5 w e' hb5 hs5 B5 hf => ?_
    have hle5 := Nat.le_trans e.size (Nat.le_of_eq hb5.symm)
    replace HV := Dv.ex HV e'
    replace e := Ext.tr e e'
    clear e'
    replace hf := hf.keep [3, 5, 6, 7, 8, 11]
    dsimp only [keep, List.filterMap, look, Nat.beq, Option.map] at hf
    haveI hinr : ∀ G0, InR (GB W G0) (some b5) := fun G0 => InR.gb (by omega)
    refine tl_stW T86 hf rfl rfl (bagC_one _) B5 rfl (bagC_size _) fun w hg hsz B5 hf => ?_
    replace HV := Dv.gr HV hg (.inr (by omega))
    replace e := e.gr hg (by omega)
    clear hg
    refine tl_nil ?_
    replace B5 : Blk w b5 (bagC (bg t k)) 86 := B5
    repeat refine seq ?_
    refine regn 6 hf (by decide +kernel) ?_
    refine st (mv rfl) ?_
    refine st (fldA Tryd.underlying86 rfl T37 (by decide) rfl) ?_
    refine st ((ldP T37 rfl B5 (bagC_le _)).eq (bagC_1 _)) ?_
    refine st (call1 En76 rfl (fun v w he h => by cases h; exact len_spec _ w)) ?_
    refine st (sub rfl rfl (by omega)) ?_
    refine st ((max2 rfl rfl).eq (congrArg I hs.symm)) ?_
    refine en fun a w e' hf => ?_
    replace HV := Dv.ex HV e'
    replace e := Ext.tr e e'
    replace B5 := B5.ext e'
    clear e'
    refine tl_as hf rfl (by decide) fun a hf => ?_
    refine tl_nil ?_
    try simp only [Exit.then, Exit.inBlock, ↓reduceIte]
    replace hf := hf.keep [3, 6, 7, 8]
    dsimp only [keep, List.filterMap, look, Nat.beq, Option.map] at hf
    repeat refine seq ?_
    refine regn 1 hf (by decide +kernel) ?_
    refine st ((add rfl rfl (by omega)).eq (congrArg (Value.int .i64) (show (k : Int) + 1 = ((k + 1 : Nat) : Int) from rfl))) ?_
    refine en fun a w e' hf => ?_
    replace HV := Dv.ex HV e'
    replace e := Ext.tr e e'
    replace B5 := B5.ext e'
    clear e'
    refine tl_op hf (by decide) (mv rfl) fun a w e' hf => ?_
    replace HV := Dv.ex HV e'
    replace e := Ext.tr e e'
    replace B5 := B5.ext e'
    clear e'
    refine tl_nil ?_
    replace hf := hf.keep [3, 6, 7, 8]
    dsimp only [keep, List.filterMap, look, Nat.beq, Option.map] at hf
    exact ⟨t.length - (k + 1), by omega, k + 1, rfl, by omega, hf, e, HV⟩
  · obtain rfl : k = t.length := by have := of_decide_eq_false hc; omega
    simp only [Exit.then, Exit.inBlock, ↓reduceIte]
    replace hf := hf.keep [3]
    dsimp only [keep, List.filterMap, look, Nat.beq, Option.map] at hf
    repeat refine seq ?_
    refine regn 1 hf (by decide +kernel) ?_
    refine st (mv rfl) ?_
    refine en fun a w e' hf => ?_
    replace e := Ext.tr e e'
    clear e'
    refine tl_as hf rfl (by decide) fun a hf => ?_
    refine tl_nil ?_
    refine wret ?_
    try simp only [Exit.then, Exit.inBlock]
    refine ret1 rfl hf rfl ?_
    rintro _ rfl
    exact ⟨_, rfl, e, rfl⟩

theorem law_width {G : Nat → Prop} (t0 : List (Int × BS)) (v : Value) (W : World) (hT : Tab W) (h : (Dv treeE G t0).p v W) : Calls Tryd.prog 12 #[v] W (Post (E (B true)) W) := by
  have hT0 := hT.lt
  obtain ⟨t, ht⟩ : ∃ t, t0.take 40 = t := ⟨_, rfl⟩
  have hl : t.length ≤ 40 := by rw [← ht, List.length_take]; omega
  have hF := foT (t := t) (by omega)
  refine enter (args := [v]) (As := [Dv treeE Go.Mono.G0 t0]) Tryd.func12 rfl Tryd.ntmps12 (Nat.le_of_ble_eq_true rfl) ?_ (fun a hf => ?_) (Nat.le_of_ble_eq_true rfl)
  rotate_left
  dsimp only [params, Nat.reduceAdd] at hf
  rotate_right
  · exact arg1 (Dv.weak h fun b _ hb => hb.elim)
  have e := Ext.rfl' W
  repeat refine seq ?_
  refine regn0 ?_
  refine tl_as hf rfl (by decide) fun a hf => ?_
  refine tl_nil ?_
  repeat refine seq ?_
  refine regn 2 hf (by decide +kernel) ?_
  refine st (mv rfl) ?_
  refine st (call1 (A := Dv treeE Go.Mono.G0 t) En55 rfl (fun v w he h => by rw [← ht]; exact cut_spec t0 v w h)) ?_
  refine en fun a w e' hf => ?_
  replace hT := hT.ext e'
  replace e := Ext.tr e e'
  clear e'
  refine tl_as hf rfl (by decide) fun a hf => ?_
  refine tl_nil ?_
  replace hf := hf.keep [0]
  dsimp only [keep, List.filterMap, look, Nat.beq, Option.map] at hf
  repeat refine seq ?_
  refine regn 6 hf (by decide +kernel) ?_
  refine st (mv rfl) ?_
  refine st (call1 En56 rfl (fun v w he h => balance_spec t v w (hT.ext he) h (by omega) hF)) ?_
  refine st (mv rfl) ?_
  refine st (ext_ rfl rfl) ?_
  refine st (ext_ rfl rfl) ?_
  refine st (ext_ rfl rfl) ?_
  refine en fun a w e' hf => ?_
  replace hT := hT.ext e'
  replace e := Ext.tr e e'
  clear e'
  refine tl_as hf rfl (by decide) fun a hf => ?_
  refine tl_as hf rfl (by decide) fun a hf => ?_
  refine tl_as hf rfl (by decide) fun a hf => ?_
  refine tl_nil ?_
  replace hf := hf.keep [0, 3, 5]
  dsimp only [keep, List.filterMap, look, Nat.beq, Option.map] at hf
  repeat refine seq ?_
  refine regn 2 hf (by decide +kernel) ?_
  refine st (mv rfl) ?_
  refine st (neq rfl rfl) ?_
  refine en fun a w e' hf => ?_
  replace hT := hT.ext e'
  replace e := Ext.tr e e'
  clear e'
  refine tl_nil ?_
  repeat refine seq ?_
  refine ifc hf rfl (fun hb => ?_) (fun hb => ?_)
  · repeat refine seq ?_
    refine regn 1 hf (by decide +kernel) ?_
    refine st (call0 En58 (fun w he => known_spec w (hT.ext he))) ?_
    refine en fun a w e' hf => ?_
    replace hT := hT.ext e'
    replace e := Ext.tr e e'
    clear e'
    refine tl_as hf rfl (by decide) fun a hf => ?_
    refine tl_nil ?_
    refine wret ?_
    try simp only [Exit.then, Exit.inBlock]
    refine ret1 rfl hf rfl ?_
    rintro _ rfl
    exact ⟨_, rfl, e, rfl⟩
  have h0 : chkR (toT t) = 0 := by simpa using hb
  clear hb
  obtain ⟨T, F⟩ := hF h0
  have hbl := balT_len F h0
  obtain ⟨q1, q2⟩ := bal_width F h0
  obtain ⟨a1, a2, _, _⟩ := widTo_bd t t.length (Nat.le_refl _)
  change -1 ≤ widT t at a1
  change widT t ≤ 1024 at a2
  generalize balT t = o at *
  obtain ⟨c1, c2, _, _⟩ := widTo_bd o o.length (Nat.le_refl _)
  change -1 ≤ widT o at c1
  change widT o ≤ 1024 at c2
  generalize hwo : widT o = wo at *
  generalize hwt : widT t = wt at *
  refine wskip ?_
  try simp only [Exit.then, Exit.inBlock, ↓reduceIte]
  replace hf := hf.keep [0, 3]
  dsimp only [keep, List.filterMap, look, Nat.beq, Option.map] at hf
  repeat refine seq ?_
  refine regn 18 hf (by decide +kernel) ?_
  refine st (call0 En58 (fun w he => known_spec w (hT.ext he))) ?_
  refine st (mv rfl) ?_
  first | refine sn rfl rfl rfl ?_ | refine su rfl rfl ?_ | refine sy rfl rfl (mv rfl) ?_
  first | refine sn rfl rfl rfl ?_ | refine su rfl rfl ?_ | refine sy rfl rfl (call1 (A := E (I wo)) En72 rfl (fun v w he h => by rw [← hwo]; exact width_spec o v w h (by omega))) ?_
  first | refine sn rfl rfl rfl ?_ | refine su rfl rfl ?_ | refine sy rfl rfl (mv rfl) ?_
  first | refine sn rfl rfl rfl ?_ | refine su rfl rfl ?_ | refine sy rfl rfl (call1 (A := E (I wt)) En72 rfl (fun v w he h => by rw [← hwt]; exact width_spec t v w h (by omega))) ?_
  first | refine sn rfl rfl rfl ?_ | refine su rfl rfl ?_ | refine sy rfl rfl (max2 rfl rfl) ?_
  first | refine sn rfl rfl rfl ?_ | refine su rfl rfl ?_ | refine sy rfl rfl (mul rfl rfl (by omega)) ?_
  first | refine sn rfl rfl rfl ?_ | refine su rfl rfl ?_ | refine sy rfl rfl (add rfl rfl (by omega)) ?_
  first | refine sn rfl rfl rfl ?_ | refine su rfl rfl ?_ | refine sy rfl rfl ((leq rfl rfl).eq (congrArg Value.bool (decide_eq_true q1))) ?_
  first | refine st (pkT rfl rfl) ?_ | refine st (pkF rfl rfl) ?_ | refine st (pk rfl rfl rfl) ?_
  refine st (mv rfl) ?_
  first | refine sn rfl rfl rfl ?_ | refine su rfl rfl ?_ | refine sy rfl rfl (mv rfl) ?_
  first | refine sn rfl rfl rfl ?_ | refine su rfl rfl ?_ | refine sy rfl rfl (call1 (A := E (I wo)) En72 rfl (fun v w he h => by rw [← hwo]; exact width_spec o v w h (by omega))) ?_
  first | refine sn rfl rfl rfl ?_ | refine su rfl rfl ?_ | refine sy rfl rfl (mv rfl) ?_
  first | refine sn rfl rfl rfl ?_ | refine su rfl rfl ?_ | refine sy rfl rfl (call1 (A := E (I wt)) En72 rfl (fun v w he h => by rw [← hwt]; exact width_spec t v w h (by omega))) ?_
  first | refine sn rfl rfl rfl ?_ | refine su rfl rfl ?_ | refine sy rfl rfl ((geq rfl rfl).eq (congrArg Value.bool (decide_eq_true q2))) ?_
  first | refine st (pkT rfl rfl) ?_ | refine st (pkF rfl rfl) ?_ | refine st (pk rfl rfl rfl) ?_
  refine en fun a w e' hf => ?_
  replace hT := hT.ext e'
  replace e := Ext.tr e e'
  clear e'
  refine tl_as hf rfl (by decide) fun a hf => ?_
  refine tl_nil ?_
  refine wret ?_
  try simp only [Exit.then, Exit.inBlock]
  refine ret1 rfl hf rfl ?_
  rintro _ rfl
  exact ⟨_, rfl, e, rfl⟩
end Go.Mono
