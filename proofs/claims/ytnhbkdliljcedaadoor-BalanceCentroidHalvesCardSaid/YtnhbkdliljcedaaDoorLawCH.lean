/-
  BalanceCentroidHalves, walked: it answers true.
  No condition.
-/
import Derived.Test.YtnhbkdliljcedaaDoorLawBL
import Derived.Test.YtnhbkdliljcedaaDoorBal7
set_option linter.unusedVariables false
set_option linter.unusedSimpArgs false
set_option linter.unusedVariables false
set_option linter.unusedSimpArgs false
namespace Go.Mono
open Go Go.Proofs Go.RowKit

theorem law_ch {G : Nat → Prop} (t0 : List (Int × BS)) (part : BS) (p : Int) (v : Value) (W : World) (hT : Tab W) (h : (Dv treeE G t0).p v W) : Calls Tryd.prog 14 #[v, setV part, I p] W (Post (E (B true)) W) := by
  have hT0 := hT.lt
  obtain ⟨t, ht⟩ : ∃ t, t0.take 40 = t := ⟨_, rfl⟩
  have hl : t.length ≤ 1000 := by rw [← ht, List.length_take]; omega
  have hF := foT hl
  have hcl := card_le_n (S := part) (n := 1024) fun i hi => bit_lt hi
  refine enter (args := [v, setV part, I p]) (As := [Dv treeE (GB W Go.Mono.G0) t0, E (setV part), E (I p)]) Tryd.func14 rfl Tryd.ntmps14 (Nat.le_of_ble_eq_true rfl) ?_ (fun a hf => ?_) (Nat.le_of_ble_eq_true rfl)
  rotate_left
  dsimp only [params, Nat.reduceAdd] at hf
  rotate_right
  · exact arg3 (Dv.toB (Dv.weak h fun b _ hb => hb.elim)) rfl rfl
  have e := Ext.rfl' W
  repeat refine seq ?_
  refine regn0 ?_
  refine tl_box hf rfl (by decide) fun a b4 w v4 hv4 e' hb4 hs4 B4 hf => ?_
  have hle4 := Nat.le_trans e.size (Nat.le_of_eq hb4.symm)
  replace hT := hT.ext e'
  replace e := Ext.tr e e'
  clear e'
  refine tl_as hf rfl (by decide) fun a hf => ?_
  refine tl_nil ?_
  cases hv4
  replace B4 : Blk w b4 (setC part) 37 := B4
  replace hf := hf.keep [0, 2, 4]
  dsimp only [keep, List.filterMap, look, Nat.beq, Option.map] at hf
  repeat refine seq ?_
  refine regn 2 hf (by decide +kernel) ?_
  refine st (mv rfl) ?_
  refine st (call1 (A := Dv treeE (GB W Go.Mono.G0) t) En55 rfl (fun v w he h => by rw [← ht]; exact cut_spec t0 v w h)) ?_
  refine en fun a w e' hf => ?_
  replace hT := hT.ext e'
  replace e := Ext.tr e e'
  replace B4 := B4.ext e'
  clear e'
  refine tl_as hf rfl (by decide) fun a hf => ?_
  refine tl_nil ?_
  obtain ⟨tv, HV, hf⟩ := hf.fix 0 rfl
  replace hf := hf.keep [0, 2, 4]
  dsimp only [keep, List.filterMap, look, Nat.beq, Option.map] at hf
  repeat refine seq ?_
  refine regn 6 hf (by decide +kernel) ?_
  refine st (mv rfl) ?_
  refine st (ldW T37 rfl B4 rfl) ?_
  refine st (call2 En68 rfl rfl (fun v u w he h h' => by cases h; cases h'; exact centroid_spec t part tv w (hT.ext he) (Dv.ex HV he) hl hF)) ?_
  refine st (mv rfl) ?_
  refine st (ext_ rfl rfl) ?_
  refine st (ext_ rfl rfl) ?_
  refine en fun a w e' hf => ?_
  replace hT := hT.ext e'
  replace HV := Dv.ex HV e'
  replace e := Ext.tr e e'
  replace B4 := B4.ext e'
  clear e'
  refine tl_as hf rfl (by decide) fun a hf => ?_
  refine tl_as hf rfl (by decide) fun a hf => ?_
  refine tl_nil ?_
  replace hf := hf.keep [0, 2, 4, 7, 8]
  dsimp only [keep, List.filterMap, look, Nat.beq, Option.map] at hf
  repeat refine seq ?_
  refine regn 2 hf (by decide +kernel) ?_
  refine st (mv rfl) ?_
  refine st (neq rfl rfl) ?_
  refine en fun a w e' hf => ?_
  replace hT := hT.ext e'
  replace HV := Dv.ex HV e'
  replace e := Ext.tr e e'
  replace B4 := B4.ext e'
  clear e'
  refine tl_nil ?_
  repeat refine seq ?_
  refine ifc hf rfl (fun hb => ?_) (fun hb => ?_)
  · repeat refine seq ?_
    refine regn 1 hf (by decide +kernel) ?_
    refine st (call0 En58 (fun w he => known_spec w (hT.ext he))) ?_
    refine en fun a w e' hf => ?_
    replace hT := hT.ext e'
    replace HV := Dv.ex HV e'
    replace e := Ext.tr e e'
    replace B4 := B4.ext e'
    clear e'
    refine tl_as hf rfl (by decide) fun a hf => ?_
    refine tl_nil ?_
    refine wret ?_
    try simp only [Exit.then, Exit.inBlock]
    refine ret1 rfl hf rfl ?_
    rintro _ rfl
    exact ⟨_, rfl, e, rfl⟩
  have hp0 : partE t part = 0 := by simpa using hb
  clear hb
  have h0 : chkR (toT t) = 0 := by
    apply Classical.byContradiction
    intro hh
    rw [partE, if_pos hh] at hp0
    exact hh hp0
  obtain ⟨T, F⟩ := hF h0
  obtain ⟨_, hin, hC, q, hq⟩ := partE_ok hp0 F
  obtain ⟨hcm, _, _⟩ := cen_ok (fs := adjL t) hq
  have hcR : cenR t part = (cenB (adjL t) part : Int) := if_pos hp0
  have hsE : sptE t part (cenB (adjL t) part : Int) = 0 := by
    rw [sptE, if_neg (fun hh => hh hp0), if_neg]
    rw [(has_bit _ _).2 hcm]; decide
  have hsR : sptR t part (cenB (adjL t) part : Int) = partsB (adjL t) (del part (cenB (adjL t) part : Int)) := if_pos hsE
  rw [hcR] at hf
  obtain ⟨ls, hls⟩ : ∃ ls, partsB (adjL t) (del part (cenB (adjL t) part : Int)) = ls := ⟨_, rfl⟩
  have hhalf : ∀ k C, ls[k]? = some C → 2 * card C ≤ card part := fun k C h => cen_parts F hin hC hq (by rw [hls]; exact h)
  have hll : ls.length ≤ 1024 := by
    have h1 := (parts_some F (del_in hin (cenB (adjL t) part : Int))).2.1
    have h2 := card_le_n (S := del part (cenB (adjL t) part : Int)) (n := 1024) fun i hi => bit_lt hi
    rw [hls] at h1; omega
  refine wskip ?_
  try simp only [Exit.then, Exit.inBlock, ↓reduceIte]
  replace hf := hf.keep [0, 2, 4, 7]
  dsimp only [keep, List.filterMap, look, Nat.beq, Option.map] at hf
  repeat refine seq ?_
  refine regn 7 hf (by decide +kernel) ?_
  refine st (mv rfl) ?_
  refine st (ldW T37 rfl B4 rfl) ?_
  refine st (mv rfl) ?_
  refine st (call3 En77 rfl rfl rfl (fun v u s w he h h' h'' => by cases h; cases h'; cases h''; exact spt_spec t part (cenB (adjL t) part : Int) tv w (hT.ext he) (Dv.ex HV he) hl hF)) ?_
  refine st (mv rfl) ?_
  refine st (ext_ rfl rfl) ?_
  refine st (ext_ rfl rfl) ?_
  refine en fun a w e' hf => ?_
  replace hT := hT.ext e'
  replace HV := Dv.ex HV e'
  replace e := Ext.tr e e'
  replace B4 := B4.ext e'
  clear e'
  refine tl_as hf rfl (by decide) fun a hf => ?_
  refine tl_as hf rfl (by decide) fun a hf => ?_
  refine tl_nil ?_
  rw [hsE, hsR, hls] at hf
  replace hf := hf.keep [0, 2, 4, 9, 10]
  dsimp only [keep, List.filterMap, look, Nat.beq, Option.map] at hf
  repeat refine seq ?_
  refine regn 2 hf (by decide +kernel) ?_
  refine st (mv rfl) ?_
  refine st ((neq rfl rfl).eq (congrArg Value.bool (show ((0 : Int) != 0) = false from rfl))) ?_
  refine en fun a w e' hf => ?_
  replace hT := hT.ext e'
  replace HV := Dv.ex HV e'
  replace e := Ext.tr e e'
  replace B4 := B4.ext e'
  clear e'
  refine tl_nil ?_
  repeat refine seq ?_
  refine ifc hf rfl (fun h => by cases h) (fun _ => ?_)
  refine wskip ?_
  try simp only [Exit.then, Exit.inBlock, ↓reduceIte]
  replace hf := hf.keep [0, 2, 4, 9]
  dsimp only [keep, List.filterMap, look, Nat.beq, Option.map] at hf
  repeat refine seq ?_
  refine regn0 ?_
  refine tl_as hf rfl (by decide) fun a hf => ?_
  refine tl_nil ?_
  replace hf := hf.keep [0, 2, 4, 9, 11]
  dsimp only [keep, List.filterMap, look, Nat.beq, Option.map] at hf
  repeat refine seq ?_
  refine blk (loopN (fun r0 a w => ∃ (k : Nat), r0 = ls.length - k ∧ k ≤ ls.length ∧ Fr 101 a w [(0, E tv), (2, E (I p)), (4, E (.pointer (some ⟨b4, 0, none⟩))), (9, Dv (slE setE) Go.Mono.G0 ls), (11, E (I k))] ∧ (Ext W w ∧ Tab w ∧ (Dv treeE (GB W Go.Mono.G0) t).p tv w) ∧ Blk w b4 (setC part) 37) ls.length ⟨0, rfl, by omega, hf, ⟨e, hT, HV⟩, B4⟩ ?_)
  clear hf e hT HV B4
  rintro r0 a w ⟨k, rfl, hk, hf, ⟨e, hT, HV⟩, B4⟩
  repeat refine seq ?_
  refine regn 4 hf (by decide +kernel) ?_
  refine st (mv rfl) ?_
  refine st (mv rfl) ?_
  refine st (lenD Tryd.underlying88 (isR rfl)) ?_
  refine st (lss rfl rfl) ?_
  refine en fun a w e' hf => ?_
  replace hT := hT.ext e'
  replace HV := Dv.ex HV e'
  replace e := Ext.tr e e'
  replace B4 := B4.ext e'
  clear e'
  refine tl_nil ?_
  repeat refine seq ?_
  refine ifc hf rfl (fun hc => wskip ?_) (fun hc => wexit ?_)
  · have hlt : k < ls.length := by have := of_decide_eq_true hc; omega
    clear hc
    simp only [Exit.then, Exit.inBlock, ↓reduceIte]
    obtain ⟨C, hCk⟩ : ∃ C, ls[k]? = some C := ⟨_, List.getElem?_eq_getElem hlt⟩
    have h2 := hhalf k C hCk
    have hcC := card_le_n (S := C) (n := 1024) fun i hi => bit_lt hi
    repeat refine seq ?_
    refine blk ?_
    replace hf := hf.keep [0, 2, 4, 9, 11]
    dsimp only [keep, List.filterMap, look, Nat.beq, Option.map] at hf
    repeat refine seq ?_
    refine reg 9 Mix.mix hf (by decide +kernel) ?_
    refine st (mv rfl) ?_
    refine st (mv rfl) ?_
    refine st (idxD Tryd.underlying88 S37 (isR rfl) rfl (by omega) (hCk)) ?_
    refine st (ldS T37 (isR rfl)) ?_
    refine st (call1 En76 rfl (fun v w he h => by cases h; exact len_spec _ w)) ?_
    refine st (mul rfl rfl (by omega)) ?_
    refine st (ldW T37 rfl B4 rfl) ?_
    refine st (call1 En76 rfl (fun v w he h => by cases h; exact len_spec _ w)) ?_
    refine st ((gtr rfl rfl).eq (congrArg Value.bool (decide_eq_false (by omega)))) ?_
    refine en fun a w e' hf => ?_
    replace hT := hT.ext e'
    replace HV := Dv.ex HV e'
    replace e := Ext.tr e e'
    replace B4 := B4.ext e'
    clear e'
    refine tl_nil ?_
    repeat refine seq ?_
    refine ifc hf rfl (fun h => by cases h) (fun _ => ?_)
    refine wskip ?_
    try simp only [Exit.then, Exit.inBlock, ↓reduceIte]
    replace hf := hf.keep [0, 2, 4, 9, 11]
    dsimp only [keep, List.filterMap, look, Nat.beq, Option.map] at hf
    repeat refine seq ?_
    refine regn 2 hf (by decide +kernel) ?_
    refine st (mv rfl) ?_
    refine st ((add rfl rfl (by omega)).eq (congrArg (Value.int .i64) (show (k : Int) + 1 = ((k + 1 : Nat) : Int) from rfl))) ?_
    refine en fun a w e' hf => ?_
    replace hT := hT.ext e'
    replace HV := Dv.ex HV e'
    replace e := Ext.tr e e'
    replace B4 := B4.ext e'
    clear e'
    refine tl_as hf rfl (by decide) fun a hf => ?_
    refine tl_nil ?_
    replace hf := hf.keep [0, 2, 4, 9, 11]
    dsimp only [keep, List.filterMap, look, Nat.beq, Option.map] at hf
    exact ⟨ls.length - (k + 1), by omega, k + 1, rfl, by omega, hf, ⟨e, hT, HV⟩, B4⟩
  · clear hc
    simp only [Exit.then, Exit.inBlock, ↓reduceIte]
    replace hf := hf.keep [0, 2, 4]
    dsimp only [keep, List.filterMap, look, Nat.beq, Option.map] at hf
    repeat refine seq ?_
    refine regn 7 hf (by decide +kernel) ?_
    refine st (mv rfl) ?_
    refine st (ldW T37 rfl B4 rfl) ?_
    refine st (mv rfl) ?_
    refine st (call3 En77 rfl rfl rfl (fun v u s w he h h' h'' => by cases h; cases h'; cases h''; exact spt_spec t part p tv w (hT.ext he) (Dv.ex HV he) hl hF)) ?_
    refine st (mv rfl) ?_
    refine st (ext_ rfl rfl) ?_
    refine st (ext_ rfl rfl) ?_
    refine en fun a w e' hf => ?_
    replace hT := hT.ext e'
    replace HV := Dv.ex HV e'
    replace e := Ext.tr e e'
    replace B4 := B4.ext e'
    clear e'
    refine tl_as hf rfl (by decide) fun a hf => ?_
    refine tl_as hf rfl (by decide) fun a hf => ?_
    refine tl_nil ?_
    replace hf := hf.keep [2, 4, 9, 10]
    dsimp only [keep, List.filterMap, look, Nat.beq, Option.map] at hf
    repeat refine seq ?_
    refine regn 2 hf (by decide +kernel) ?_
    refine st (mv rfl) ?_
    refine st (neq rfl rfl) ?_
    refine en fun a w e' hf => ?_
    replace hT := hT.ext e'
    replace HV := Dv.ex HV e'
    replace e := Ext.tr e e'
    replace B4 := B4.ext e'
    clear e'
    refine tl_nil ?_
    repeat refine seq ?_
    refine ifc hf rfl (fun hb => ?_) (fun hb => ?_)
    · have hb' : sptE t part p ≠ 0 := by simpa using hb
      have hh : has part p = false := by
        cases hx : has part p
        · rfl
        · rw [sptE, if_neg (fun hh => hh hp0), hx] at hb'
          exact absurd rfl hb'
      repeat refine seq ?_
      refine regn 7 hf (by decide +kernel) ?_
      refine st (call0 En58 (fun w he => known_spec w (hT.ext he))) ?_
      refine st (mv rfl) ?_
      first | refine sn rfl rfl rfl ?_ | refine su rfl rfl ?_ | refine sy rfl rfl (ldW T37 rfl B4 rfl) ?_
      first | refine sn rfl rfl rfl ?_ | refine su rfl rfl ?_ | refine sy rfl rfl (mv rfl) ?_
      first | refine sn rfl rfl rfl ?_ | refine su rfl rfl ?_ | refine sy rfl rfl ((call2 En23 rfl rfl (fun v u w he h h' => by cases h; cases h'; exact has_spec _ _ w)).eq (congrArg Value.bool (hh))) ?_
      first | refine sn rfl rfl rfl ?_ | refine su rfl rfl ?_ | refine sy rfl rfl (notp rfl) ?_
      first | refine st (pkT rfl rfl) ?_ | refine st (pkF rfl rfl) ?_ | refine st (pk rfl rfl rfl) ?_
      refine en fun a w e' hf => ?_
      replace hT := hT.ext e'
      replace HV := Dv.ex HV e'
      replace e := Ext.tr e e'
      replace B4 := B4.ext e'
      clear e'
      refine tl_as hf rfl (by decide) fun a hf => ?_
      refine tl_nil ?_
      refine wret ?_
      try simp only [Exit.then, Exit.inBlock]
      refine ret1 rfl hf rfl ?_
      rintro _ rfl
      exact ⟨_, rfl, e, rfl⟩
    have hs0 : sptE t part p = 0 := by simpa using hb
    clear hb
    have hsR2 : sptR t part p = partsB (adjL t) (del part p) := if_pos hs0
    rw [hsR2] at hf
    obtain ⟨hpp, hpu⟩ := parts_part F (del_in (part := part) hin p)
    have hpl := (parts_some F (del_in (part := part) hin p)).2.1
    have hpc := card_le_n (S := del part p) (n := 1024) fun i hi => bit_lt hi
    generalize hms : partsB (adjL t) (del part p) = ms at *
    obtain ⟨mz, hmv, hf⟩ := hf.fix 9 rfl
    obtain ⟨N0, hN0⟩ : ∃ N0, N0 = w.heap.size := ⟨_, rfl⟩
    have HM : (Dv (slE setE) (fun b => N0 ≤ b) ms).p mz w := Dv.weak hmv fun b hb hg => absurd hb (Nat.not_lt.2 (by omega))
    have hNw : N0 ≤ w.heap.size := by omega
    clear hmv hN0
    refine wskip ?_
    try simp only [Exit.then, Exit.inBlock, ↓reduceIte]
    replace hf := hf.keep [2, 4, 9]
    dsimp only [keep, List.filterMap, look, Nat.beq, Option.map] at hf
    repeat refine seq ?_
    refine regn0 ?_
    refine tl_op hf (by decide) ((bld0 Bz37).eq z16_eq) fun a w e' hf => ?_
    replace hT := hT.ext e'
    replace HV := Dv.ex HV e'
    replace HM := Dv.ex HM e'
    replace hNw := Nat.le_trans hNw e'.size
    replace e := Ext.tr e e'
    replace B4 := B4.ext e'
    clear e'
    refine tl_alloc I37 hf (by decide) fun a b12 w e' hb12 hs12 B12 hf => ?_
    have hle12 := Nat.le_trans e.size (Nat.le_of_eq hb12.symm)
    have lo12_hNw := Nat.le_trans hNw (Nat.le_of_eq hb12.symm)
    have lt12_B4 := B4.lt
    replace hT := hT.ext e'
    replace HV := Dv.ex HV e'
    replace HM := Dv.ex HM e'
    replace hNw := Nat.le_trans hNw e'.size
    replace e := Ext.tr e e'
    replace B4 := B4.ext e'
    clear e'
    replace hf := hf.keep [2, 4, 9, 12, 65]
    dsimp only [keep, List.filterMap, look, Nat.beq, Option.map] at hf
    have n124 : b12 ≠ b4 := by have := B4.lt; omega
    haveI hinr : ∀ G0, InR (GB W G0) (some b12) := fun G0 => InR.gb (by omega)
    refine tl_stW T37 hf rfl rfl (wordsC_one _) B12 rfl (rfl) fun w hg hsz B12 hf => ?_
    replace hT := hT.gr hg (by omega)
    replace HM := Dv.gr HM hg (by omega)
    replace hNw := Nat.le_trans hNw (Nat.le_of_eq hsz.symm)
    replace e := e.gr hg (by omega)
    replace B4 := B4.gr hg (by omega)
    clear hg
    refine tl_nil ?_
    replace B12 : Blk w b12 (setC (unTo ms 0)) 37 := B12
    replace hf := hf.keep [2, 4, 9, 12]
    dsimp only [keep, List.filterMap, look, Nat.beq, Option.map] at hf
    repeat refine seq ?_
    refine regn0 ?_
    refine tl_as hf rfl (by decide) fun a hf => ?_
    refine tl_nil ?_
    replace hf := hf.keep [2, 4, 9, 12, 13]
    dsimp only [keep, List.filterMap, look, Nat.beq, Option.map] at hf
    repeat refine seq ?_
    refine blk (loopN (fun r0 a w => ∃ (k : Nat), r0 = ms.length - k ∧ k ≤ ms.length ∧ Fr 101 a w [(2, E (I p)), (4, E (.pointer (some ⟨b4, 0, none⟩))), (9, E mz), (12, E (.pointer (some ⟨b12, 0, none⟩))), (13, E (I k))] ∧ (Ext W w ∧ Tab w) ∧ Blk w b4 (setC part) 37 ∧ Blk w b12 (setC (unTo ms k)) 37 ∧ (Dv (slE setE) (fun b => N0 ≤ b) ms).p mz w) ms.length ⟨0, rfl, by omega, hf, ⟨e, hT⟩, B4, B12, HM⟩ ?_)
    clear hf e hT HV B4 B12 HM hNw
    rintro r0 a w ⟨k, rfl, hk, hf, ⟨e, hT⟩, B4, B12, HM⟩
    repeat refine seq ?_
    refine regn 4 hf (by decide +kernel) ?_
    refine st (mv rfl) ?_
    refine st (mv rfl) ?_
    refine st (lenD Tryd.underlying88 (isE rfl HM)) ?_
    refine st (lss rfl rfl) ?_
    refine en fun a w e' hf => ?_
    replace hT := hT.ext e'
    replace HM := Dv.ex HM e'
    replace e := Ext.tr e e'
    replace B4 := B4.ext e'
    replace B12 := B12.ext e'
    clear e'
    refine tl_nil ?_
    repeat refine seq ?_
    refine ifc hf rfl (fun hc => wskip ?_) (fun hc => wexit ?_)
    · have hlt : k < ms.length := by have := of_decide_eq_true hc; omega
      clear hc
      simp only [Exit.then, Exit.inBlock, ↓reduceIte]
      obtain ⟨C, hCk⟩ : ∃ C, ms[k]? = some C := ⟨_, List.getElem?_eq_getElem hlt⟩
      obtain ⟨hC0, hCd⟩ := hpp k C hCk
      have d1 : (unTo ms k &&& C == 0) = true := by rw [hCd]; exact beq_self_eq_true _
      have d2 : (C == 0) = false := by rw [beq_eq_false_iff_ne]; exact hC0
      repeat refine seq ?_
      refine blk ?_
      replace hf := hf.keep [2, 4, 9, 12, 13]
      dsimp only [keep, List.filterMap, look, Nat.beq, Option.map] at hf
      repeat refine seq ?_
      refine reg 15 Mix.mix hf (by decide +kernel) ?_
      refine st (ldW T37 rfl B12 rfl) ?_
      refine st (mv rfl) ?_
      refine st (mv rfl) ?_
      refine st (idxD Tryd.underlying88 S37 (isE rfl HM) rfl (by omega) (hCk)) ?_
      refine st (ldS T37 (isR rfl)) ?_
      refine st (call2 En78 rfl rfl (fun v u w he h h' => by cases h; cases h'; exact inter_spec _ _ w)) ?_
      refine st ((call1 En79 rfl (fun v w he h => by cases h; exact isEmpty_spec _ w)).eq (congrArg Value.bool (d1))) ?_
      refine st (notp rfl) ?_
      refine st (mv rfl) ?_
      first | refine sn rfl rfl rfl ?_ | refine su rfl rfl ?_ | refine sy rfl rfl (mv rfl) ?_
      first | refine sn rfl rfl rfl ?_ | refine su rfl rfl ?_ | refine sy rfl rfl (mv rfl) ?_
      first | refine sn rfl rfl rfl ?_ | refine su rfl rfl ?_ | refine sy rfl rfl (idxD Tryd.underlying88 S37 (isE rfl HM) rfl (by omega) (hCk)) ?_
      first | refine sn rfl rfl rfl ?_ | refine su rfl rfl ?_ | refine sy rfl rfl (ldS T37 (isR rfl)) ?_
      first | refine sn rfl rfl rfl ?_ | refine su rfl rfl ?_ | refine sy rfl rfl ((call1 En79 rfl (fun v w he h => by cases h; exact isEmpty_spec _ w)).eq (congrArg Value.bool (d2))) ?_
      first | refine st (pkT rfl rfl) ?_ | refine st (pkF rfl rfl) ?_ | refine st (pk rfl rfl rfl) ?_
      refine en fun a w e' hf => ?_
      replace hT := hT.ext e'
      replace HM := Dv.ex HM e'
      replace e := Ext.tr e e'
      replace B4 := B4.ext e'
      replace B12 := B12.ext e'
      clear e'
      refine tl_nil ?_
      repeat refine seq ?_
      refine ifc hf rfl (fun h => by cases h) (fun _ => ?_)
      refine wskip ?_
      try simp only [Exit.then, Exit.inBlock, ↓reduceIte]
      replace hf := hf.keep [2, 4, 9, 12, 13]
      dsimp only [keep, List.filterMap, look, Nat.beq, Option.map] at hf
      repeat refine seq ?_
      refine reg 6 Mix.mix hf (by decide +kernel) ?_
      refine st (ldW T37 rfl B12 rfl) ?_
      refine st (mv rfl) ?_
      refine st (mv rfl) ?_
      refine st (idxD Tryd.underlying88 S37 (isE rfl HM) rfl (by omega) (hCk)) ?_
      refine st (ldS T37 (isR rfl)) ?_
      refine st (call2 En80 rfl rfl (fun v u w he h h' => by cases h; cases h'; exact union_spec _ _ w)) ?_
      refine en fun a w e' hf => ?_
      replace hT := hT.ext e'
      replace HM := Dv.ex HM e'
      replace e := Ext.tr e e'
      replace B4 := B4.ext e'
      replace B12 := B12.ext e'
      clear e'
      replace hf := hf.keep [2, 4, 9, 12, 13, 92]
      dsimp only [keep, List.filterMap, look, Nat.beq, Option.map] at hf
      haveI hinr : ∀ G0, InR (GB W G0) (some b12) := fun G0 => InR.gb (by omega)
      refine tl_stW T37 hf rfl rfl (wordsC_one _) B12 rfl (rfl) fun w hg hsz B12 hf => ?_
      replace hT := hT.gr hg (by omega)
      replace HM := Dv.gr HM hg (by omega)
      replace e := e.gr hg (by omega)
      replace B4 := B4.gr hg (by omega)
      clear hg
      refine tl_nil ?_
      replace B12 : Blk w b12 (setC (unTo ms (k + 1))) 37 := by rw [unTo_succ hCk]; exact B12
      try simp only [Exit.then, Exit.inBlock, ↓reduceIte]
      replace hf := hf.keep [2, 4, 9, 12, 13]
      dsimp only [keep, List.filterMap, look, Nat.beq, Option.map] at hf
      repeat refine seq ?_
      refine regn 2 hf (by decide +kernel) ?_
      refine st (mv rfl) ?_
      refine st ((add rfl rfl (by omega)).eq (congrArg (Value.int .i64) (show (k : Int) + 1 = ((k + 1 : Nat) : Int) from rfl))) ?_
      refine en fun a w e' hf => ?_
      replace hT := hT.ext e'
      replace HM := Dv.ex HM e'
      replace e := Ext.tr e e'
      replace B4 := B4.ext e'
      replace B12 := B12.ext e'
      clear e'
      refine tl_as hf rfl (by decide) fun a hf => ?_
      refine tl_nil ?_
      replace hf := hf.keep [2, 4, 9, 12, 13]
      dsimp only [keep, List.filterMap, look, Nat.beq, Option.map] at hf
      exact ⟨ms.length - (k + 1), by omega, k + 1, rfl, by omega, hf, ⟨e, hT⟩, B4, B12, HM⟩
    · obtain rfl : k = ms.length := by have := of_decide_eq_false hc; omega
      clear hc
      simp only [Exit.then, Exit.inBlock, ↓reduceIte]
      rw [hpu] at B12
      replace hf := hf.keep [2, 4, 12]
      dsimp only [keep, List.filterMap, look, Nat.beq, Option.map] at hf
      repeat refine seq ?_
      refine reg 8 Mix.mix hf (by decide +kernel) ?_
      refine st (call0 En58 (fun w he => known_spec w (hT.ext he))) ?_
      refine st (mv rfl) ?_
      first | refine sn rfl rfl rfl ?_ | refine su rfl rfl ?_ | refine sy rfl rfl (ldW T37 rfl B12 rfl) ?_
      first | refine sn rfl rfl rfl ?_ | refine su rfl rfl ?_ | refine sy rfl rfl (ldW T37 rfl B4 rfl) ?_
      first | refine sn rfl rfl rfl ?_ | refine su rfl rfl ?_ | refine sy rfl rfl (mv rfl) ?_
      first | refine sn rfl rfl rfl ?_ | refine su rfl rfl ?_ | refine sy rfl rfl (call2 En81 rfl rfl (fun v u w he h h' => by cases h; cases h'; exact without_spec _ _ w)) ?_
      first | refine sn rfl rfl rfl ?_ | refine su rfl rfl ?_ | refine sy rfl rfl ((eqS Tryd.underlying37 Tryd.underlying35 T35 (by decide +kernel) rfl rfl).eq (congrArg Value.bool (beq_self_eq_true _))) ?_
      first | refine st (pkT rfl rfl) ?_ | refine st (pkF rfl rfl) ?_ | refine st (pk rfl rfl rfl) ?_
      refine en fun a w e' hf => ?_
      replace hT := hT.ext e'
      replace HM := Dv.ex HM e'
      replace e := Ext.tr e e'
      replace B4 := B4.ext e'
      replace B12 := B12.ext e'
      clear e'
      refine tl_as hf rfl (by decide) fun a hf => ?_
      refine tl_nil ?_
      refine wret ?_
      try simp only [Exit.then, Exit.inBlock]
      refine ret1 rfl hf rfl ?_
      rintro _ rfl
      exact ⟨_, rfl, e, rfl⟩
end Go.Mono
