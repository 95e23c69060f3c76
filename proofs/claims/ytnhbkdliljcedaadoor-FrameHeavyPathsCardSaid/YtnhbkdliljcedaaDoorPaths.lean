/-
  FrameHeavyPaths, walked: it answers true.
  No condition.
-/
import Derived.Test.YtnhbkdliljcedaaDoorWE
set_option linter.unusedVariables false
set_option linter.unusedSimpArgs false
set_option linter.unusedVariables false
set_option linter.unusedSimpArgs false
namespace Go.Mono
open Go Go.Proofs Go.RowKit

theorem framePaths_spec {G : Nat → Prop} (t : List (Int × BS)) (b : Int) (x : Value) (W : World) (hT : Tab W) (h : (Dv treeE G t).p x W) :
    Calls Tryd.prog 6 #[x, I b] W (Post (E (B true)) W) := by
  refine enter (args := [x, I b]) (As := [Dv treeE G t, E (I b)]) Tryd.func6 rfl Tryd.ntmps6 (Nat.le_of_ble_eq_true rfl) ?_ (fun a hf => ?_) (Nat.le_of_ble_eq_true rfl)
  rotate_left
  dsimp only [params, Nat.reduceAdd] at hf
  rotate_right
  · exact arg2 h rfl
  have e := Ext.rfl' W
  have hl := cutT_len t
  have htl := toT_len (cutT t)
  have hg0 : ∀ {w : World}, ∀ b, Go.Mono.G0 b → b < w.heap.size := fun b hb => hb.elim
  repeat refine seq ?_
  refine regn0 ?_
  refine tl_as hf rfl (by decide) fun a hf => ?_
  refine tl_nil ?_
  repeat refine seq ?_
  refine regn 6 hf (by decide +kernel) ?_
  refine st (mv rfl) ?_
  refine st (call1 En16 rfl (fun v w he h => framed_spec t v w (hT.ext he) h)) ?_
  refine st (mv rfl) ?_
  refine st (ext_ rfl rfl) ?_
  refine st (ext_ rfl rfl) ?_
  refine st (ext_ rfl rfl) ?_
  refine en fun a w e' hf => ?_
  replace hT := hT.ext e'
  replace e := Ext.tr e e'
  clear e'
  refine tl_as hf rfl (by decide) fun a hf => ?_
  refine tl_as hf rfl (by decide) fun a hf => ?_
  refine tl_as hf rfl (by decide) fun a hf => ?_
  refine tl_nil ?_
  replace hf := hf.keep [1, 5, 6, 7]
  dsimp only [keep, List.filterMap, look, Nat.beq, Option.map] at hf
  by_cases hn : newR (toT (cutT t)) = 0
  rotate_left
  · rw [decide_eq_false hn] at hf
    repeat refine seq ?_
    refine regn 2 hf (by decide +kernel) ?_
    refine st (mv rfl) ?_
    refine st (notp rfl) ?_
    refine en fun a w e' hf => ?_
    replace hT := hT.ext e'
    replace e := Ext.tr e e'
    clear e'
    refine tl_nil ?_
    repeat refine seq ?_
    refine ifc hf rfl (fun _ => ?_) (fun h => by cases h)
    repeat refine seq ?_
    refine regn 1 hf (by decide +kernel) ?_
    refine st (call0 En17 (fun w he => known_spec w (hT.ext he))) ?_
    refine en fun a w e' hf => ?_
    replace hT := hT.ext e'
    replace e := Ext.tr e e'
    clear e'
    refine tl_as hf rfl (by decide) fun a hf => ?_
    refine tl_nil ?_
    refine wret ?_
    try simp only [Exit.then, Exit.inBlock]
    refine ret1 rfl hf rfl ?_
    rintro _ rfl
    exact ⟨_, rfl, e, rfl⟩
  have V := new_vals hn
  have hok := fm_ok V
  rw [decide_eq_true hn] at hf
  replace hf := hf.upd 5 rfl (B := Dv (ptE frE) Go.Mono.G0 (some (frM (cutT t)))) (fun v h => h.elim (·.2) (fun h => absurd hn h.1))
  replace hf := hf.keep [1, 5, 6, 7]
  dsimp only [keep, List.filterMap, look, Nat.beq, Option.map] at hf
  repeat refine seq ?_
  refine regn 2 hf (by decide +kernel) ?_
  refine st (mv rfl) ?_
  refine st (notp rfl) ?_
  refine en fun a w e' hf => ?_
  replace hT := hT.ext e'
  replace e := Ext.tr e e'
  clear e'
  refine tl_nil ?_
  repeat refine seq ?_
  refine ifc hf rfl (fun h => by cases h) (fun _ => ?_)
  refine wskip ?_
  try simp only [Exit.then, Exit.inBlock, ↓reduceIte]
  repeat refine seq ?_
  refine regn 2 hf (by decide +kernel) ?_
  refine st (mv rfl) ?_
  refine st (eqlP Tryd.underlying24 (isR rfl)) ?_
  refine en fun a w e' hf => ?_
  replace hT := hT.ext e'
  replace e := Ext.tr e e'
  clear e'
  refine tl_nil ?_
  repeat refine seq ?_
  refine ifc hf rfl (fun h => by cases h) (fun _ => ?_)
  refine wskip ?_
  try simp only [Exit.then, Exit.inBlock, ↓reduceIte]
  obtain ⟨xs, hxs⟩ : ∃ xs, xs = toT (cutT t) := ⟨_, rfl⟩
  rw [← hxs] at V hok hf htl
  have hfl : (frM (cutT t)).1.length ≤ 4096 := by show (cutT t).length ≤ 4096; omega
  have hfn := frM_len (cutT t)
  have hf1 : (frM (cutT t)).1 = cutT t := rfl
  have hway : ∀ j : Nat, j < xs.length → (ofF (frM (cutT t)) (j : Int)).2.2.2.1 = heavyR xs (j : Nat) := fun j hj => by
    rw [fm_nd (by omega), ← hxs]; rfl
  repeat refine seq ?_
  refine regn 4 hf (by decide +kernel) ?_
  refine st (mv rfl) ?_
  refine st (mv rfl) ?_
  refine st (call2 En48 rfl rfl (fun v u w he h h' => by cases h'; exact isR_spec _ _ _ w h)) ?_
  refine st (notp rfl) ?_
  refine en fun a w e' hf => ?_
  replace hT := hT.ext e'
  replace e := Ext.tr e e'
  clear e'
  refine tl_nil ?_
  replace hf := hf.keep [1, 5, 6, 22]
  dsimp only [keep, List.filterMap, look, Nat.beq, Option.map] at hf
  repeat refine seq ?_
  refine ifc hf rfl (fun hb => ?_) (fun hb => ?_)
  · have hb' : isR45 xs b = false := by simpa using hb
    have hin : inT (cutT t) b = false := by
      have h1 := of_decide_eq_false hb'
      rw [inT, Bool.and_eq_false_iff, decide_eq_false_iff_not, decide_eq_false_iff_not]
      omega
    have hof : ofF (frM (cutT t)) b = ([], [], 0, -1, 0) := by rw [ofF, hf1, hin]; rfl
    have hb1 : (ofF (frM (cutT t)) b).1.length ≤ 4096 := by rw [hof]; decide
    have hb2 : (ofF (frM (cutT t)) b).2.1.length ≤ 4096 := by rw [hof]; decide
    repeat refine seq ?_
    refine regn 60 hf (by decide +kernel) ?_
    refine st (call0 En17 (fun w he => known_spec w (hT.ext he))) ?_
    refine st (mv rfl) ?_
    first | refine sn rfl rfl rfl ?_ | refine su rfl rfl ?_ | refine sy rfl rfl (mv rfl) ?_
    first | refine sn rfl rfl rfl ?_ | refine su rfl rfl ?_ | refine sy rfl rfl (mv rfl) ?_
    first | refine sn rfl rfl rfl ?_ | refine su rfl rfl ?_ | refine sy rfl rfl ((call2 En29 rfl rfl (fun v u w he h h' => by cases h'; exact fparent_spec _ _ _ w h)).eq (show I _ = I (-1) from by rw [hf1, hin]; rfl)) ?_
    first | refine sn rfl rfl rfl ?_ | refine su rfl rfl ?_ | refine sy rfl rfl ((eql rfl rfl).eq (congrArg Value.bool (show ((-1 : Int) == -1) = true from rfl))) ?_
    first | refine st (pkT rfl rfl) ?_ | refine st (pkF rfl rfl) ?_ | refine st (pk rfl rfl rfl) ?_
    refine st (mv rfl) ?_
    first | refine sn rfl rfl rfl ?_ | refine su rfl rfl ?_ | refine sy rfl rfl (mv rfl) ?_
    first | refine sn rfl rfl rfl ?_ | refine su rfl rfl ?_ | refine sy rfl rfl (mv rfl) ?_
    first | refine sn rfl rfl rfl ?_ | refine su rfl rfl ?_ | refine sy rfl rfl ((call2 En22 rfl rfl (fun v u w he h h' => by cases h'; exact fbag_spec _ _ _ w h)).eq (show setV _ = setV 0 from by rw [hf1, hin]; rfl)) ?_
    first | refine sn rfl rfl rfl ?_ | refine su rfl rfl ?_ | refine sy rfl rfl ((bld0 Bz37).eq (z16_eq)) ?_
    first | refine sn rfl rfl rfl ?_ | refine su rfl rfl ?_ | refine sy rfl rfl ((eqS (S := 0) (T := 0) Tryd.underlying37 Tryd.underlying35 T35 (by kernel_rfl) rfl rfl).eq (congrArg Value.bool (show ((0 : BS) == 0) = true from beq_self_eq_true _))) ?_
    first | refine st (pkT rfl rfl) ?_ | refine st (pkF rfl rfl) ?_ | refine st (pk rfl rfl rfl) ?_
    refine st (mv rfl) ?_
    first | refine sn rfl rfl rfl ?_ | refine su rfl rfl ?_ | refine sy rfl rfl (mv rfl) ?_
    first | refine sn rfl rfl rfl ?_ | refine su rfl rfl ?_ | refine sy rfl rfl (mv rfl) ?_
    first | refine sn rfl rfl rfl ?_ | refine su rfl rfl ?_ | refine sy rfl rfl (call2 En43 rfl rfl (fun v u w he h h' => by cases h'; exact postG (G := Go.Mono.G0) (fchildren_spec _ _ _ w h hfn hb1) hg0)) ?_
    first | refine sn rfl rfl rfl ?_ | refine su rfl rfl ?_ | refine sy rfl rfl (lenD Tryd.underlying43 (isR rfl)) ?_
    first | refine sn rfl rfl rfl ?_ | refine su rfl rfl ?_ | refine sy rfl rfl ((eql rfl rfl).eq (congrArg Value.bool (show ((((ofF (frM (cutT t)) b).1.length : Nat) : Int) == 0) = true from by rw [hof]; rfl))) ?_
    first | refine st (pkT rfl rfl) ?_ | refine st (pkF rfl rfl) ?_ | refine st (pk rfl rfl rfl) ?_
    refine st (mv rfl) ?_
    first | refine sn rfl rfl rfl ?_ | refine su rfl rfl ?_ | refine sy rfl rfl (mv rfl) ?_
    first | refine sn rfl rfl rfl ?_ | refine su rfl rfl ?_ | refine sy rfl rfl (mv rfl) ?_
    first | refine sn rfl rfl rfl ?_ | refine su rfl rfl ?_ | refine sy rfl rfl ((call2 En49 rfl rfl (fun v u w he h h' => by cases h'; exact fsize_spec _ _ _ w h hfn)).eq (show I _ = I 0 from by rw [hof])) ?_
    first | refine sn rfl rfl rfl ?_ | refine su rfl rfl ?_ | refine sy rfl rfl ((eql rfl rfl).eq (congrArg Value.bool (show ((0 : Int) == 0) = true from rfl))) ?_
    first | refine st (pkT rfl rfl) ?_ | refine st (pkF rfl rfl) ?_ | refine st (pk rfl rfl rfl) ?_
    refine st (mv rfl) ?_
    first | refine sn rfl rfl rfl ?_ | refine su rfl rfl ?_ | refine sy rfl rfl (mv rfl) ?_
    first | refine sn rfl rfl rfl ?_ | refine su rfl rfl ?_ | refine sy rfl rfl (mv rfl) ?_
    first | refine sn rfl rfl rfl ?_ | refine su rfl rfl ?_ | refine sy rfl rfl ((call2 En50 rfl rfl (fun v u w he h h' => by cases h'; exact fheavy_spec _ _ _ w h hfn)).eq (show I _ = I (-1) from by rw [hof])) ?_
    first | refine sn rfl rfl rfl ?_ | refine su rfl rfl ?_ | refine sy rfl rfl ((eql rfl rfl).eq (congrArg Value.bool (show ((-1 : Int) == -1) = true from rfl))) ?_
    first | refine st (pkT rfl rfl) ?_ | refine st (pkF rfl rfl) ?_ | refine st (pk rfl rfl rfl) ?_
    refine st (mv rfl) ?_
    first | refine sn rfl rfl rfl ?_ | refine su rfl rfl ?_ | refine sy rfl rfl (mv rfl) ?_
    first | refine sn rfl rfl rfl ?_ | refine su rfl rfl ?_ | refine sy rfl rfl (mv rfl) ?_
    first | refine sn rfl rfl rfl ?_ | refine su rfl rfl ?_ | refine sy rfl rfl (call2 En27 rfl rfl (fun v u w he h h' => by cases h'; exact postG (G := Go.Mono.G0) (flight_spec _ _ _ w h hfn hb2) hg0)) ?_
    first | refine sn rfl rfl rfl ?_ | refine su rfl rfl ?_ | refine sy rfl rfl (lenD Tryd.underlying43 (isR rfl)) ?_
    first | refine sn rfl rfl rfl ?_ | refine su rfl rfl ?_ | refine sy rfl rfl ((eql rfl rfl).eq (congrArg Value.bool (show ((((ofF (frM (cutT t)) b).2.1.length : Nat) : Int) == 0) = true from by rw [hof]; rfl))) ?_
    first | refine st (pkT rfl rfl) ?_ | refine st (pkF rfl rfl) ?_ | refine st (pk rfl rfl rfl) ?_
    refine st (mv rfl) ?_
    first | refine sn rfl rfl rfl ?_ | refine su rfl rfl ?_ | refine sy rfl rfl (mv rfl) ?_
    first | refine sn rfl rfl rfl ?_ | refine su rfl rfl ?_ | refine sy rfl rfl (mv rfl) ?_
    first | refine sn rfl rfl rfl ?_ | refine su rfl rfl ?_ | refine sy rfl rfl ((call2 En28 rfl rfl (fun v u w he h h' => by cases h'; exact postG (G := Go.Mono.G0) (fway_spec _ xs V (by rw [hf1]; omega) hway b _ w h hfn hfl) hg0)).dv (show (if inT (frM (cutT t)).1 b = true then wayR xs b else []) = [] from by rw [hf1, hin]; rfl)) ?_
    first | refine sn rfl rfl rfl ?_ | refine su rfl rfl ?_ | refine sy rfl rfl (lenD Tryd.underlying43 (isR rfl)) ?_
    first | refine sn rfl rfl rfl ?_ | refine su rfl rfl ?_ | refine sy rfl rfl ((eql rfl rfl).eq (congrArg Value.bool (show (((([] : List Int).length : Nat) : Int) == 0) = true from rfl))) ?_
    first | refine st (pkT rfl rfl) ?_ | refine st (pkF rfl rfl) ?_ | refine st (pk rfl rfl rfl) ?_
    refine st (mv rfl) ?_
    first | refine sn rfl rfl rfl ?_ | refine su rfl rfl ?_ | refine sy rfl rfl (mv rfl) ?_
    first | refine sn rfl rfl rfl ?_ | refine su rfl rfl ?_ | refine sy rfl rfl (mv rfl) ?_
    first | refine sn rfl rfl rfl ?_ | refine su rfl rfl ?_ | refine sy rfl rfl ((call2 En46 rfl rfl (fun v u w he h h' => by cases h'; exact fadh_spec _ _ _ w h)).eq (show setV _ = setV 0 from by rw [show bagF (frM (cutT t)) b = 0 from by rw [bagF, hf1, hin]; rfl]; simp)) ?_
    first | refine sn rfl rfl rfl ?_ | refine su rfl rfl ?_ | refine sy rfl rfl ((bld0 Bz37).eq (z16_eq)) ?_
    first | refine sn rfl rfl rfl ?_ | refine su rfl rfl ?_ | refine sy rfl rfl ((eqS (S := 0) (T := 0) Tryd.underlying37 Tryd.underlying35 T35 (by kernel_rfl) rfl rfl).eq (congrArg Value.bool (show ((0 : BS) == 0) = true from beq_self_eq_true _))) ?_
    first | refine st (pkT rfl rfl) ?_ | refine st (pkF rfl rfl) ?_ | refine st (pk rfl rfl rfl) ?_
    refine st (mv rfl) ?_
    first | refine sn rfl rfl rfl ?_ | refine su rfl rfl ?_ | refine sy rfl rfl (mv rfl) ?_
    first | refine sn rfl rfl rfl ?_ | refine su rfl rfl ?_ | refine sy rfl rfl (mv rfl) ?_
    first | refine sn rfl rfl rfl ?_ | refine su rfl rfl ?_ | refine sy rfl rfl ((call2 En24 rfl rfl (fun v u w he h h' => by cases h'; exact fdepth_spec _ _ _ w h hfn)).eq (show I _ = I 0 from by rw [hof])) ?_
    first | refine sn rfl rfl rfl ?_ | refine su rfl rfl ?_ | refine sy rfl rfl ((eql rfl rfl).eq (congrArg Value.bool (show ((0 : Int) == 0) = true from rfl))) ?_
    first | refine st (pkT rfl rfl) ?_ | refine st (pkF rfl rfl) ?_ | refine st (pk rfl rfl rfl) ?_
    refine en fun a w e' hf => ?_
    replace hT := hT.ext e'
    replace e := Ext.tr e e'
    clear e'
    refine tl_as hf rfl (by decide) fun a hf => ?_
    refine tl_nil ?_
    refine wret ?_
    try simp only [Exit.then, Exit.inBlock]
    refine ret1 rfl hf rfl ?_
    rintro _ rfl
    exact ⟨_, rfl, e, rfl⟩
  · have hb' : isR45 xs b = true := by simpa using hb
    have hbb := of_decide_eq_true hb'
    obtain ⟨j, rfl⟩ : ∃ j : Nat, b = (j : Int) := ⟨b.toNat, by omega⟩
    have hj : j < xs.length := by omega
    have hin : inT (cutT t) (j : Int) = true := by simp [inT]; omega
    have hof : ofF (frM (cutT t)) (j : Int) = nodeR xs j := by rw [fm_nd (by omega), ← hxs]
    have hkl := kids_len xs (j : Nat)
    have hlt2 : (ofF (frM (cutT t)) (j : Int)).2.1.length ≤ 4096 := by
      rw [hof]
      show (lightR xs (j : Nat)).length ≤ 4096
      have : (lightR xs (j : Nat)).length ≤ (kids xs (j : Nat)).length := List.length_filter_le _ _
      omega
    have hll : (lightR xs (j : Nat)).length ≤ 4096 := by rw [hof] at hlt2; exact hlt2
    have hwl : (wayR xs (j : Nat)).length ≤ 4096 := Nat.le_trans (wayF_len xs _ _) (by omega)
    refine wskip ?_
    try simp only [Exit.then, Exit.inBlock, ↓reduceIte]
    repeat refine seq ?_
    refine regn 37 hf (by decide +kernel) ?_
    refine st (call0 En17 (fun w he => known_spec w (hT.ext he))) ?_
    refine st (mv rfl) ?_
    first | refine sn rfl rfl rfl ?_ | refine su rfl rfl ?_ | refine sy rfl rfl (mv rfl) ?_
    first | refine sn rfl rfl rfl ?_ | refine su rfl rfl ?_ | refine sy rfl rfl (mv rfl) ?_
    first | refine sn rfl rfl rfl ?_ | refine su rfl rfl ?_ | refine sy rfl rfl ((call2 En49 rfl rfl (fun v u w he h h' => by cases h'; exact fsize_spec _ _ _ w h hfn)).eq (show I _ = I (sizeR xs (j : Nat)) from by rw [hof]; rfl)) ?_
    first | refine sn rfl rfl rfl ?_ | refine su rfl rfl ?_ | refine sy rfl rfl (mv rfl) ?_
    first | refine sn rfl rfl rfl ?_ | refine su rfl rfl ?_ | refine sy rfl rfl (mv rfl) ?_
    first | refine sn rfl rfl rfl ?_ | refine su rfl rfl ?_ | refine sy rfl rfl (call2 En51 rfl rfl (fun v u w he h h' => by cases h'; exact sizeR_spec xs (by omega) V j hj _ _ w h)) ?_
    first | refine sn rfl rfl rfl ?_ | refine su rfl rfl ?_ | refine sy rfl rfl ((eql rfl rfl).eq (congrArg Value.bool (beq_self_eq_true _))) ?_
    first | refine st (pkT rfl rfl) ?_ | refine st (pkF rfl rfl) ?_ | refine st (pk rfl rfl rfl) ?_
    refine st (mv rfl) ?_
    first | refine sn rfl rfl rfl ?_ | refine su rfl rfl ?_ | refine sy rfl rfl (mv rfl) ?_
    first | refine sn rfl rfl rfl ?_ | refine su rfl rfl ?_ | refine sy rfl rfl (mv rfl) ?_
    first | refine sn rfl rfl rfl ?_ | refine su rfl rfl ?_ | refine sy rfl rfl ((call2 En50 rfl rfl (fun v u w he h h' => by cases h'; exact fheavy_spec _ _ _ w h hfn)).eq (show I _ = I (heavyR xs (j : Nat)) from by rw [hof]; rfl)) ?_
    first | refine sn rfl rfl rfl ?_ | refine su rfl rfl ?_ | refine sy rfl rfl (mv rfl) ?_
    first | refine sn rfl rfl rfl ?_ | refine su rfl rfl ?_ | refine sy rfl rfl (mv rfl) ?_
    first | refine sn rfl rfl rfl ?_ | refine su rfl rfl ?_ | refine sy rfl rfl (call2 En52 rfl rfl (fun v u w he h h' => by cases h'; exact heavyR_spec xs (by omega) V _ _ w h)) ?_
    first | refine sn rfl rfl rfl ?_ | refine su rfl rfl ?_ | refine sy rfl rfl ((eql rfl rfl).eq (congrArg Value.bool (beq_self_eq_true _))) ?_
    first | refine st (pkT rfl rfl) ?_ | refine st (pkF rfl rfl) ?_ | refine st (pk rfl rfl rfl) ?_
    refine st (mv rfl) ?_
    first | refine sn rfl rfl rfl ?_ | refine su rfl rfl ?_ | refine sy rfl rfl (mv rfl) ?_
    first | refine sn rfl rfl rfl ?_ | refine su rfl rfl ?_ | refine sy rfl rfl (mv rfl) ?_
    first | refine sn rfl rfl rfl ?_ | refine su rfl rfl ?_ | refine sy rfl rfl ((call2 En27 rfl rfl (fun v u w he h h' => by cases h'; exact postG (G := Go.Mono.G0) (flight_spec _ _ _ w h hfn hlt2) hg0)).dv (show (ofF (frM (cutT t)) (j : Int)).2.1 = lightR xs (j : Nat) from by rw [hof]; rfl)) ?_
    first | refine sn rfl rfl rfl ?_ | refine su rfl rfl ?_ | refine sy rfl rfl (mv rfl) ?_
    first | refine sn rfl rfl rfl ?_ | refine su rfl rfl ?_ | refine sy rfl rfl (mv rfl) ?_
    first | refine sn rfl rfl rfl ?_ | refine su rfl rfl ?_ | refine sy rfl rfl (call2 En53 rfl rfl (fun v u w he h h' => by cases h'; exact lightR_spec xs (by omega) V _ _ w h hg0)) ?_
    first | refine sn rfl rfl rfl ?_ | refine su rfl rfl ?_ | refine sy rfl rfl ((call2 En42 rfl rfl (fun v u w he h h' => ints_spec _ _ _ _ w h h' hll)).eq (congrArg Value.bool (decide_eq_true rfl))) ?_
    first | refine st (pkT rfl rfl) ?_ | refine st (pkF rfl rfl) ?_ | refine st (pk rfl rfl rfl) ?_
    refine st (mv rfl) ?_
    first | refine sn rfl rfl rfl ?_ | refine su rfl rfl ?_ | refine sy rfl rfl (mv rfl) ?_
    first | refine sn rfl rfl rfl ?_ | refine su rfl rfl ?_ | refine sy rfl rfl (mv rfl) ?_
    first | refine sn rfl rfl rfl ?_ | refine su rfl rfl ?_ | refine sy rfl rfl ((call2 En28 rfl rfl (fun v u w he h h' => by cases h'; exact postG (G := Go.Mono.G0) (fway_spec _ xs V (by rw [hf1]; omega) hway _ _ w h hfn hfl) hg0)).dv (show (if inT (frM (cutT t)).1 (j : Int) = true then wayR xs (j : Nat) else []) = wayR xs (j : Nat) from if_pos hin)) ?_
    first | refine sn rfl rfl rfl ?_ | refine su rfl rfl ?_ | refine sy rfl rfl (mv rfl) ?_
    first | refine sn rfl rfl rfl ?_ | refine su rfl rfl ?_ | refine sy rfl rfl (mv rfl) ?_
    first | refine sn rfl rfl rfl ?_ | refine su rfl rfl ?_ | refine sy rfl rfl (call2 En54 rfl rfl (fun v u w he h h' => by cases h'; exact wayR_spec xs (by omega) V _ _ w h hg0 (.inr ⟨j, hj, rfl⟩))) ?_
    first | refine sn rfl rfl rfl ?_ | refine su rfl rfl ?_ | refine sy rfl rfl ((call2 En42 rfl rfl (fun v u w he h h' => ints_spec _ _ _ _ w h h' hwl)).eq (congrArg Value.bool (decide_eq_true rfl))) ?_
    first | refine st (pkT rfl rfl) ?_ | refine st (pkF rfl rfl) ?_ | refine st (pk rfl rfl rfl) ?_
    refine en fun a w e' hf => ?_
    replace hT := hT.ext e'
    replace e := Ext.tr e e'
    clear e'
    refine tl_as hf rfl (by decide) fun a hf => ?_
    refine tl_nil ?_
    refine wret ?_
    try simp only [Exit.then, Exit.inBlock]
    refine ret1 rfl hf rfl ?_
    rintro _ rfl
    exact ⟨_, rfl, e, rfl⟩
end Go.Mono
