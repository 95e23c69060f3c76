/-
  FrameHomes, walked: it answers true.
  No condition.
-/
import Derived.Test.YtnhbkdliljcedaaDoorWE
set_option linter.unusedVariables false
set_option linter.unusedSimpArgs false
set_option linter.unusedVariables false
set_option linter.unusedSimpArgs false
namespace Go.Mono
open Go Go.Proofs Go.RowKit

theorem frameHomes_spec {G : Nat → Prop} (t : List (Int × BS)) (u v : Int) (x : Value) (W : World) (hT : Tab W) (h : (Dv treeE G t).p x W) (hu : (Lit.int .i64 u).wf = true) (hv : (Lit.int .i64 v).wf = true) :
    Calls Tryd.prog 3 #[x, I u, I v] W (Post (E (B true)) W) := by
  refine enter (args := [x, I u, I v]) (As := [Dv treeE G t, E (I u), E (I v)]) Tryd.func3 rfl Tryd.ntmps3 (Nat.le_of_ble_eq_true rfl) ?_ (fun a hf => ?_) (Nat.le_of_ble_eq_true rfl)
  rotate_left
  dsimp only [params, Nat.reduceAdd] at hf
  rotate_right
  · exact arg3 h rfl rfl
  have e := Ext.rfl' W
  have hl := cutT_len t
  have htl := toT_len (cutT t)
  repeat refine seq ?_
  refine regn0 ?_
  refine tl_as hf rfl (by decide) fun a hf => ?_
  refine tl_nil ?_
  repeat refine seq ?_
  refine regn 6 hf (by decide +kernel) ?_
  refine st (mv rfl) ?_
  refine st (call1 En16 rfl (fun v w he h => framed_spec t v w (hT.ext he) h)) ?_
  refine st (mv rfl) ?_
  refine st (ext_ rfl rfl) ?_
  refine st (ext_ rfl rfl) ?_
  refine st (ext_ rfl rfl) ?_
  refine en fun a w e' hf => ?_
  replace hT := hT.ext e'
  replace e := Ext.tr e e'
  clear e'
  refine tl_as hf rfl (by decide) fun a hf => ?_
  refine tl_as hf rfl (by decide) fun a hf => ?_
  refine tl_as hf rfl (by decide) fun a hf => ?_
  refine tl_nil ?_
  replace hf := hf.keep [1, 2, 7, 8, 9]
  dsimp only [keep, List.filterMap, look, Nat.beq, Option.map] at hf
  by_cases hn : newR (toT (cutT t)) = 0
  rotate_left
  · rw [decide_eq_false hn] at hf
    repeat refine seq ?_
    refine regn 2 hf (by decide +kernel) ?_
    refine st (mv rfl) ?_
    refine st (notp rfl) ?_
    refine en fun a w e' hf => ?_
    replace hT := hT.ext e'
    replace e := Ext.tr e e'
    clear e'
    refine tl_nil ?_
    repeat refine seq ?_
    refine ifc hf rfl (fun _ => ?_) (fun h => by cases h)
    repeat refine seq ?_
    refine regn 1 hf (by decide +kernel) ?_
    refine st (call0 En17 (fun w he => known_spec w (hT.ext he))) ?_
    refine en fun a w e' hf => ?_
    replace hT := hT.ext e'
    replace e := Ext.tr e e'
    clear e'
    refine tl_as hf rfl (by decide) fun a hf => ?_
    refine tl_nil ?_
    refine wret ?_
    try simp only [Exit.then, Exit.inBlock]
    refine ret1 rfl hf rfl ?_
    rintro _ rfl
    exact ⟨_, rfl, e, rfl⟩
  have V := new_vals hn
  have hok := fm_ok V
  rw [decide_eq_true hn] at hf
  replace hf := hf.upd 7 rfl (B := Dv (ptE frE) Go.Mono.G0 (some (frM (cutT t)))) (fun v h => h.elim (·.2) (fun h => absurd hn h.1))
  replace hf := hf.keep [1, 2, 7, 8, 9]
  dsimp only [keep, List.filterMap, look, Nat.beq, Option.map] at hf
  repeat refine seq ?_
  refine regn 2 hf (by decide +kernel) ?_
  refine st (mv rfl) ?_
  refine st (notp rfl) ?_
  refine en fun a w e' hf => ?_
  replace hT := hT.ext e'
  replace e := Ext.tr e e'
  clear e'
  refine tl_nil ?_
  repeat refine seq ?_
  refine ifc hf rfl (fun h => by cases h) (fun _ => ?_)
  refine wskip ?_
  try simp only [Exit.then, Exit.inBlock, ↓reduceIte]
  repeat refine seq ?_
  refine regn 2 hf (by decide +kernel) ?_
  refine st (mv rfl) ?_
  refine st (eqlP Tryd.underlying24 (isR rfl)) ?_
  refine en fun a w e' hf => ?_
  replace hT := hT.ext e'
  replace e := Ext.tr e e'
  clear e'
  refine tl_nil ?_
  repeat refine seq ?_
  refine ifc hf rfl (fun h => by cases h) (fun _ => ?_)
  refine wskip ?_
  try simp only [Exit.then, Exit.inBlock, ↓reduceIte]
  obtain ⟨xs, hxs⟩ : ∃ xs, xs = toT (cutT t) := ⟨_, rfl⟩
  have eu := fm_home (cutT t) u
  have ev := fm_home (cutT t) v
  have ee := fm_edge V u v
  rw [← hxs] at eu ev ee V hok hf htl
  have hfl : (frM (cutT t)).1.length ≤ 4096 := by show (cutT t).length ≤ 4096; omega
  have hfn := frM_len (cutT t)
  repeat refine seq ?_
  refine regn 6 hf (by decide +kernel) ?_
  refine st (mv rfl) ?_
  refine st (mv rfl) ?_
  refine st ((call2 En18 rfl rfl (fun v u w he h h' => by cases h'; exact fvhome_spec _ _ _ w h hu)).eq (show Value.tuple _ = .tuple #[I (max (homeR xs u) 0), B (decide (0 ≤ homeR xs u))] from by rw [eu.1, eu.2])) ?_
  refine st (mv rfl) ?_
  refine st (exE rfl rfl) ?_
  refine st (exE rfl rfl) ?_
  refine en fun a w e' hf => ?_
  replace hT := hT.ext e'
  replace e := Ext.tr e e'
  clear e'
  refine tl_as hf rfl (by decide) fun a hf => ?_
  refine tl_as hf rfl (by decide) fun a hf => ?_
  refine tl_nil ?_
  replace hf := hf.keep [1, 2, 7, 8, 10, 11]
  dsimp only [keep, List.filterMap, look, Nat.beq, Option.map] at hf
  repeat refine seq ?_
  refine regn 7 hf (by decide +kernel) ?_
  refine st (mv rfl) ?_
  refine st (mv rfl) ?_
  refine st (mv rfl) ?_
  refine st ((call3 En19 rfl rfl rfl (fun v u s w he h h' h'' => by cases h'; cases h''; exact fehome_spec _ _ _ _ w h hu hv hfl hfn)).eq (show Value.tuple _ = .tuple #[I (max (homeEdgeR xs u v) 0), B (decide (0 ≤ homeEdgeR xs u v))] from by rw [ee])) ?_
  refine st (mv rfl) ?_
  refine st (exE rfl rfl) ?_
  refine st (exE rfl rfl) ?_
  refine en fun a w e' hf => ?_
  replace hT := hT.ext e'
  replace e := Ext.tr e e'
  clear e'
  refine tl_as hf rfl (by decide) fun a hf => ?_
  refine tl_as hf rfl (by decide) fun a hf => ?_
  refine tl_nil ?_
  replace hf := hf.keep [1, 2, 7, 8, 10, 11, 12, 13]
  dsimp only [keep, List.filterMap, look, Nat.beq, Option.map] at hf
  repeat refine seq ?_
  refine regn 7 hf (by decide +kernel) ?_
  refine st (mv rfl) ?_
  refine st (mv rfl) ?_
  refine st (call2 En20 rfl rfl (fun v u w he h h' => by cases h'; exact homeR_spec _ _ _ w h (by omega) hok)) ?_
  refine st (mv rfl) ?_
  refine st (mv rfl) ?_
  refine st (mv rfl) ?_
  refine st (call3 En21 rfl rfl rfl (fun v u s w he h h' h'' => by cases h'; cases h''; exact homeEdgeR_spec _ _ _ _ w h (by omega) hok V)) ?_
  refine en fun a w e' hf => ?_
  replace hT := hT.ext e'
  replace e := Ext.tr e e'
  clear e'
  refine tl_as hf rfl (by decide) fun a hf => ?_
  refine tl_as hf rfl (by decide) fun a hf => ?_
  refine tl_nil ?_
  replace hf := hf.keep [1, 2, 7, 10, 11, 12, 13, 14, 15]
  dsimp only [keep, List.filterMap, look, Nat.beq, Option.map] at hf
  repeat refine seq ?_
  refine regn 22 hf (by decide +kernel) ?_
  refine st (mv rfl) ?_
  refine st (mv rfl) ?_
  refine st (geq rfl rfl) ?_
  refine st ((neqB Tryd.underlying4 rfl rfl).eq (congrArg Value.bool (show (decide (0 ≤ homeR xs u) != decide (0 ≤ homeR xs u)) = false from bne_self_eq_false _))) ?_
  refine st (mv rfl) ?_
  first | refine sn rfl rfl rfl ?_ | refine su rfl rfl ?_ | refine sy rfl rfl (mv rfl) ?_
  first | refine sn rfl rfl rfl ?_ | refine su rfl rfl ?_ | refine sy rfl rfl (mv rfl) ?_
  first | refine sn rfl rfl rfl ?_ | refine su rfl rfl ?_ | refine sy rfl rfl (max2 rfl rfl) ?_
  first | refine sn rfl rfl rfl ?_ | refine su rfl rfl ?_ | refine sy rfl rfl ((neq rfl rfl).eq (congrArg Value.bool (show (max (homeR xs u) 0 != max (homeR xs u) 0) = false from bne_self_eq_false _))) ?_
  first | refine st (pkT rfl rfl) ?_ | refine st (pkF rfl rfl) ?_ | refine st (pk rfl rfl rfl) ?_
  refine st (mv rfl) ?_
  first | refine sn rfl rfl rfl ?_ | refine su rfl rfl ?_ | refine sy rfl rfl (mv rfl) ?_
  first | refine sn rfl rfl rfl ?_ | refine su rfl rfl ?_ | refine sy rfl rfl (mv rfl) ?_
  first | refine sn rfl rfl rfl ?_ | refine su rfl rfl ?_ | refine sy rfl rfl (geq rfl rfl) ?_
  first | refine sn rfl rfl rfl ?_ | refine su rfl rfl ?_ | refine sy rfl rfl ((neqB Tryd.underlying4 rfl rfl).eq (congrArg Value.bool (show (decide (0 ≤ homeEdgeR xs u v) != decide (0 ≤ homeEdgeR xs u v)) = false from bne_self_eq_false _))) ?_
  first | refine st (pkT rfl rfl) ?_ | refine st (pkF rfl rfl) ?_ | refine st (pk rfl rfl rfl) ?_
  refine st (mv rfl) ?_
  first | refine sn rfl rfl rfl ?_ | refine su rfl rfl ?_ | refine sy rfl rfl (mv rfl) ?_
  first | refine sn rfl rfl rfl ?_ | refine su rfl rfl ?_ | refine sy rfl rfl (mv rfl) ?_
  first | refine sn rfl rfl rfl ?_ | refine su rfl rfl ?_ | refine sy rfl rfl (max2 rfl rfl) ?_
  first | refine sn rfl rfl rfl ?_ | refine su rfl rfl ?_ | refine sy rfl rfl ((neq rfl rfl).eq (congrArg Value.bool (show (max (homeEdgeR xs u v) 0 != max (homeEdgeR xs u v) 0) = false from bne_self_eq_false _))) ?_
  first | refine st (pkT rfl rfl) ?_ | refine st (pkF rfl rfl) ?_ | refine st (pk rfl rfl rfl) ?_
  refine en fun a w e' hf => ?_
  replace hT := hT.ext e'
  replace e := Ext.tr e e'
  clear e'
  refine tl_nil ?_
  repeat refine seq ?_
  refine ifc hf rfl (fun h => by cases h) (fun _ => ?_)
  refine wskip ?_
  try simp only [Exit.then, Exit.inBlock, ↓reduceIte]
  replace hf := hf.keep [1, 2, 7, 10, 12, 13]
  dsimp only [keep, List.filterMap, look, Nat.beq, Option.map] at hf
  repeat refine seq ?_
  refine regn 2 hf (by decide +kernel) ?_
  refine st (mv rfl) ?_
  refine st (notp rfl) ?_
  refine en fun a w e' hf => ?_
  replace hT := hT.ext e'
  replace e := Ext.tr e e'
  clear e'
  refine tl_nil ?_
  repeat refine seq ?_
  refine ifc hf rfl (fun hb => ?_) (fun hb => ?_)
  · repeat refine seq ?_
    refine regn 1 hf (by decide +kernel) ?_
    refine st (call0 En17 (fun w he => known_spec w (hT.ext he))) ?_
    refine en fun a w e' hf => ?_
    replace hT := hT.ext e'
    replace e := Ext.tr e e'
    clear e'
    refine tl_as hf rfl (by decide) fun a hf => ?_
    refine tl_nil ?_
    refine wret ?_
    try simp only [Exit.then, Exit.inBlock]
    refine ret1 rfl hf rfl ?_
    rintro _ rfl
    exact ⟨_, rfl, e, rfl⟩
  · have hy : 0 ≤ homeEdgeR xs u v := by simpa using hb
    obtain ⟨b, a', c, b1, a1, c1, b2, a2, c2, hbu, hbv, hor, hd1, hd2⟩ := edge_home V hy
    have m1 : max (homeR xs u) 0 = (a' : Int) := by omega
    have m2 : max (homeEdgeR xs u v) 0 = (b : Int) := by omega
    have m3 : max (homeR xs v) 0 = (c : Int) := by omega
    refine wskip ?_
    try simp only [Exit.then, Exit.inBlock, ↓reduceIte]
    replace hf := hf.keep [1, 2, 7, 10, 12]
    dsimp only [keep, List.filterMap, look, Nat.beq, Option.map] at hf
    rw [m1, m2] at hf
    rw [htl] at b1 a1 c1
    have nb := fm_nd b1
    have na := fm_nd a1
    have nc := fm_nd c1
    rw [← hxs] at nb na nc
    have eb : (if inT (frM (cutT t)).1 (b : Int) = true then (bg (frM (cutT t)).1 ((b : Int)).toNat).2 else 0) = (bg (cutT t) b).2 := by
      rw [Int.toNat_natCast, if_pos]; · rfl
      have : (frM (cutT t)).1.length = (cutT t).length := rfl
      simp [inT, this, b1]
    have hbu' : has (bg (cutT t) b).2 u = true := by rw [← hasL_toL, ← toT_hs b1, ← hxs]; exact hbu
    have hbv' : has (bg (cutT t) b).2 v = true := by rw [← hasL_toL, ← toT_hs b1, ← hxs]; exact hbv
    repeat refine seq ?_
    refine regn 6 hf (by decide +kernel) ?_
    refine st (mv rfl) ?_
    refine st (mv rfl) ?_
    refine st ((call2 En18 rfl rfl (fun v u w he h h' => by cases h'; exact fvhome_spec _ _ _ w h hv)).eq (show Value.tuple _ = .tuple #[I (c : Int), B (decide (0 ≤ homeR xs v))] from by rw [ev.1, ev.2, m3])) ?_
    refine st (mv rfl) ?_
    refine st (exE rfl rfl) ?_
    refine st (exE rfl rfl) ?_
    refine en fun a w e' hf => ?_
    replace hT := hT.ext e'
    replace e := Ext.tr e e'
    clear e'
    refine tl_as hf rfl (by decide) fun a hf => ?_
    refine tl_as hf rfl (by decide) fun a hf => ?_
    refine tl_nil ?_
    replace hf := hf.keep [1, 2, 7, 10, 12, 16]
    dsimp only [keep, List.filterMap, look, Nat.beq, Option.map] at hf
    by_cases hba : b = a'
    · repeat refine seq ?_
      refine regn 43 hf (by decide +kernel) ?_
      refine st (call0 En17 (fun w he => known_spec w (hT.ext he))) ?_
      refine st (mv rfl) ?_
      first | refine sn rfl rfl rfl ?_ | refine su rfl rfl ?_ | refine sy rfl rfl (mv rfl) ?_
      first | refine sn rfl rfl rfl ?_ | refine su rfl rfl ?_ | refine sy rfl rfl (mv rfl) ?_
      first | refine sn rfl rfl rfl ?_ | refine su rfl rfl ?_ | refine sy rfl rfl ((call2 En22 rfl rfl (fun v u w he h h' => by cases h'; exact fbag_spec _ _ _ w h)).eq (congrArg setV eb)) ?_
      first | refine sn rfl rfl rfl ?_ | refine su rfl rfl ?_ | refine sy rfl rfl (mv rfl) ?_
      first | refine sn rfl rfl rfl ?_ | refine su rfl rfl ?_ | refine sy rfl rfl ((call2 En23 rfl rfl (fun v u w he h h' => by cases h; cases h'; exact has_spec _ _ w)).eq (congrArg Value.bool (hbu'))) ?_
      first | refine st (pkT rfl rfl) ?_ | refine st (pkF rfl rfl) ?_ | refine st (pk rfl rfl rfl) ?_
      refine st (mv rfl) ?_
      first | refine sn rfl rfl rfl ?_ | refine su rfl rfl ?_ | refine sy rfl rfl (mv rfl) ?_
      first | refine sn rfl rfl rfl ?_ | refine su rfl rfl ?_ | refine sy rfl rfl (mv rfl) ?_
      first | refine sn rfl rfl rfl ?_ | refine su rfl rfl ?_ | refine sy rfl rfl ((call2 En22 rfl rfl (fun v u w he h h' => by cases h'; exact fbag_spec _ _ _ w h)).eq (congrArg setV eb)) ?_
      first | refine sn rfl rfl rfl ?_ | refine su rfl rfl ?_ | refine sy rfl rfl (mv rfl) ?_
      first | refine sn rfl rfl rfl ?_ | refine su rfl rfl ?_ | refine sy rfl rfl ((call2 En23 rfl rfl (fun v u w he h h' => by cases h; cases h'; exact has_spec _ _ w)).eq (congrArg Value.bool (hbv'))) ?_
      first | refine st (pkT rfl rfl) ?_ | refine st (pkF rfl rfl) ?_ | refine st (pk rfl rfl rfl) ?_
      refine st (mv rfl) ?_
      first | refine sn rfl rfl rfl ?_ | refine su rfl rfl ?_ | refine sy rfl rfl (mv rfl) ?_
      first | refine sn rfl rfl rfl ?_ | refine su rfl rfl ?_ | refine sy rfl rfl (mv rfl) ?_
      first | refine sn rfl rfl rfl ?_ | refine su rfl rfl ?_ | refine sy rfl rfl ((eql rfl rfl).eq (congrArg Value.bool (show ((b : Int) == (a' : Int)) = true from by rw [hba]; simp))) ?_
      first | refine sn rfl rfl rfl ?_ | refine su rfl rfl ?_ | refine sy rfl rfl (mv rfl) ?_
      first | refine sn rfl rfl rfl ?_ | refine su rfl rfl ?_ | refine sy rfl rfl (mv rfl) ?_
      first | refine sn rfl rfl rfl ?_ | refine su rfl rfl ?_ | refine sy rfl rfl (mv rfl) ?_
      first | refine sn rfl rfl rfl ?_ | refine su rfl rfl ?_ | refine sy rfl rfl (eql rfl rfl) ?_
      first | refine sn rfl rfl rfl ?_ | refine su rfl rfl ?_ | refine sy rfl rfl (pkT rfl rfl) ?_ | refine sy rfl rfl (pkF rfl rfl) ?_ | refine sy rfl rfl (pk rfl rfl rfl) ?_
      first | refine st (pkT rfl rfl) ?_ | refine st (pkF rfl rfl) ?_ | refine st (pk rfl rfl rfl) ?_
      refine st (mv rfl) ?_
      first | refine sn rfl rfl rfl ?_ | refine su rfl rfl ?_ | refine sy rfl rfl (mv rfl) ?_
      first | refine sn rfl rfl rfl ?_ | refine su rfl rfl ?_ | refine sy rfl rfl (mv rfl) ?_
      first | refine sn rfl rfl rfl ?_ | refine su rfl rfl ?_ | refine sy rfl rfl ((call2 En24 rfl rfl (fun v u w he h h' => by cases h'; exact fdepth_spec _ _ _ w h hfn)).eq (show I _ = I (depthR xs b : Nat) from by rw [nb]; rfl)) ?_
      first | refine sn rfl rfl rfl ?_ | refine su rfl rfl ?_ | refine sy rfl rfl (mv rfl) ?_
      first | refine sn rfl rfl rfl ?_ | refine su rfl rfl ?_ | refine sy rfl rfl (mv rfl) ?_
      first | refine sn rfl rfl rfl ?_ | refine su rfl rfl ?_ | refine sy rfl rfl ((call2 En24 rfl rfl (fun v u w he h h' => by cases h'; exact fdepth_spec _ _ _ w h hfn)).eq (show I _ = I (depthR xs a' : Nat) from by rw [na]; rfl)) ?_
      first | refine sn rfl rfl rfl ?_ | refine su rfl rfl ?_ | refine sy rfl rfl ((geq rfl rfl).eq (congrArg Value.bool (decide_eq_true (by omega)))) ?_
      first | refine st (pkT rfl rfl) ?_ | refine st (pkF rfl rfl) ?_ | refine st (pk rfl rfl rfl) ?_
      refine st (mv rfl) ?_
      first | refine sn rfl rfl rfl ?_ | refine su rfl rfl ?_ | refine sy rfl rfl (mv rfl) ?_
      first | refine sn rfl rfl rfl ?_ | refine su rfl rfl ?_ | refine sy rfl rfl (mv rfl) ?_
      first | refine sn rfl rfl rfl ?_ | refine su rfl rfl ?_ | refine sy rfl rfl ((call2 En24 rfl rfl (fun v u w he h h' => by cases h'; exact fdepth_spec _ _ _ w h hfn)).eq (show I _ = I (depthR xs b : Nat) from by rw [nb]; rfl)) ?_
      first | refine sn rfl rfl rfl ?_ | refine su rfl rfl ?_ | refine sy rfl rfl (mv rfl) ?_
      first | refine sn rfl rfl rfl ?_ | refine su rfl rfl ?_ | refine sy rfl rfl (mv rfl) ?_
      first | refine sn rfl rfl rfl ?_ | refine su rfl rfl ?_ | refine sy rfl rfl ((call2 En24 rfl rfl (fun v u w he h h' => by cases h'; exact fdepth_spec _ _ _ w h hfn)).eq (show I _ = I (depthR xs c : Nat) from by rw [nc]; rfl)) ?_
      first | refine sn rfl rfl rfl ?_ | refine su rfl rfl ?_ | refine sy rfl rfl ((geq rfl rfl).eq (congrArg Value.bool (decide_eq_true (by omega)))) ?_
      first | refine st (pkT rfl rfl) ?_ | refine st (pkF rfl rfl) ?_ | refine st (pk rfl rfl rfl) ?_
      refine en fun a w e' hf => ?_
      replace hT := hT.ext e'
      replace e := Ext.tr e e'
      clear e'
      refine tl_as hf rfl (by decide) fun a hf => ?_
      refine tl_nil ?_
      refine wret ?_
      try simp only [Exit.then, Exit.inBlock]
      refine ret1 rfl hf rfl ?_
      rintro _ rfl
      exact ⟨_, rfl, e, rfl⟩
    · have hbc : b = c := hor.resolve_left hba
      repeat refine seq ?_
      refine regn 43 hf (by decide +kernel) ?_
      refine st (call0 En17 (fun w he => known_spec w (hT.ext he))) ?_
      refine st (mv rfl) ?_
      first | refine sn rfl rfl rfl ?_ | refine su rfl rfl ?_ | refine sy rfl rfl (mv rfl) ?_
      first | refine sn rfl rfl rfl ?_ | refine su rfl rfl ?_ | refine sy rfl rfl (mv rfl) ?_
      first | refine sn rfl rfl rfl ?_ | refine su rfl rfl ?_ | refine sy rfl rfl ((call2 En22 rfl rfl (fun v u w he h h' => by cases h'; exact fbag_spec _ _ _ w h)).eq (congrArg setV eb)) ?_
      first | refine sn rfl rfl rfl ?_ | refine su rfl rfl ?_ | refine sy rfl rfl (mv rfl) ?_
      first | refine sn rfl rfl rfl ?_ | refine su rfl rfl ?_ | refine sy rfl rfl ((call2 En23 rfl rfl (fun v u w he h h' => by cases h; cases h'; exact has_spec _ _ w)).eq (congrArg Value.bool (hbu'))) ?_
      first | refine st (pkT rfl rfl) ?_ | refine st (pkF rfl rfl) ?_ | refine st (pk rfl rfl rfl) ?_
      refine st (mv rfl) ?_
      first | refine sn rfl rfl rfl ?_ | refine su rfl rfl ?_ | refine sy rfl rfl (mv rfl) ?_
      first | refine sn rfl rfl rfl ?_ | refine su rfl rfl ?_ | refine sy rfl rfl (mv rfl) ?_
      first | refine sn rfl rfl rfl ?_ | refine su rfl rfl ?_ | refine sy rfl rfl ((call2 En22 rfl rfl (fun v u w he h h' => by cases h'; exact fbag_spec _ _ _ w h)).eq (congrArg setV eb)) ?_
      first | refine sn rfl rfl rfl ?_ | refine su rfl rfl ?_ | refine sy rfl rfl (mv rfl) ?_
      first | refine sn rfl rfl rfl ?_ | refine su rfl rfl ?_ | refine sy rfl rfl ((call2 En23 rfl rfl (fun v u w he h h' => by cases h; cases h'; exact has_spec _ _ w)).eq (congrArg Value.bool (hbv'))) ?_
      first | refine st (pkT rfl rfl) ?_ | refine st (pkF rfl rfl) ?_ | refine st (pk rfl rfl rfl) ?_
      refine st (mv rfl) ?_
      first | refine sn rfl rfl rfl ?_ | refine su rfl rfl ?_ | refine sy rfl rfl (mv rfl) ?_
      first | refine sn rfl rfl rfl ?_ | refine su rfl rfl ?_ | refine sy rfl rfl (mv rfl) ?_
      first | refine sn rfl rfl rfl ?_ | refine su rfl rfl ?_ | refine sy rfl rfl ((eql rfl rfl).eq (congrArg Value.bool (show ((b : Int) == (a' : Int)) = false from by simp; omega))) ?_
      first | refine sn rfl rfl rfl ?_ | refine su rfl rfl ?_ | refine sy rfl rfl (mv rfl) ?_
      first | refine sn rfl rfl rfl ?_ | refine su rfl rfl ?_ | refine sy rfl rfl (mv rfl) ?_
      first | refine sn rfl rfl rfl ?_ | refine su rfl rfl ?_ | refine sy rfl rfl (mv rfl) ?_
      first | refine sn rfl rfl rfl ?_ | refine su rfl rfl ?_ | refine sy rfl rfl ((eql rfl rfl).eq (congrArg Value.bool (show ((b : Int) == (c : Int)) = true from by rw [hbc]; simp))) ?_
      first | refine sn rfl rfl rfl ?_ | refine su rfl rfl ?_ | refine sy rfl rfl (pkT rfl rfl) ?_ | refine sy rfl rfl (pkF rfl rfl) ?_ | refine sy rfl rfl (pk rfl rfl rfl) ?_
      first | refine st (pkT rfl rfl) ?_ | refine st (pkF rfl rfl) ?_ | refine st (pk rfl rfl rfl) ?_
      refine st (mv rfl) ?_
      first | refine sn rfl rfl rfl ?_ | refine su rfl rfl ?_ | refine sy rfl rfl (mv rfl) ?_
      first | refine sn rfl rfl rfl ?_ | refine su rfl rfl ?_ | refine sy rfl rfl (mv rfl) ?_
      first | refine sn rfl rfl rfl ?_ | refine su rfl rfl ?_ | refine sy rfl rfl ((call2 En24 rfl rfl (fun v u w he h h' => by cases h'; exact fdepth_spec _ _ _ w h hfn)).eq (show I _ = I (depthR xs b : Nat) from by rw [nb]; rfl)) ?_
      first | refine sn rfl rfl rfl ?_ | refine su rfl rfl ?_ | refine sy rfl rfl (mv rfl) ?_
      first | refine sn rfl rfl rfl ?_ | refine su rfl rfl ?_ | refine sy rfl rfl (mv rfl) ?_
      first | refine sn rfl rfl rfl ?_ | refine su rfl rfl ?_ | refine sy rfl rfl ((call2 En24 rfl rfl (fun v u w he h h' => by cases h'; exact fdepth_spec _ _ _ w h hfn)).eq (show I _ = I (depthR xs a' : Nat) from by rw [na]; rfl)) ?_
      first | refine sn rfl rfl rfl ?_ | refine su rfl rfl ?_ | refine sy rfl rfl ((geq rfl rfl).eq (congrArg Value.bool (decide_eq_true (by omega)))) ?_
      first | refine st (pkT rfl rfl) ?_ | refine st (pkF rfl rfl) ?_ | refine st (pk rfl rfl rfl) ?_
      refine st (mv rfl) ?_
      first | refine sn rfl rfl rfl ?_ | refine su rfl rfl ?_ | refine sy rfl rfl (mv rfl) ?_
      first | refine sn rfl rfl rfl ?_ | refine su rfl rfl ?_ | refine sy rfl rfl (mv rfl) ?_
      first | refine sn rfl rfl rfl ?_ | refine su rfl rfl ?_ | refine sy rfl rfl ((call2 En24 rfl rfl (fun v u w he h h' => by cases h'; exact fdepth_spec _ _ _ w h hfn)).eq (show I _ = I (depthR xs b : Nat) from by rw [nb]; rfl)) ?_
      first | refine sn rfl rfl rfl ?_ | refine su rfl rfl ?_ | refine sy rfl rfl (mv rfl) ?_
      first | refine sn rfl rfl rfl ?_ | refine su rfl rfl ?_ | refine sy rfl rfl (mv rfl) ?_
      first | refine sn rfl rfl rfl ?_ | refine su rfl rfl ?_ | refine sy rfl rfl ((call2 En24 rfl rfl (fun v u w he h h' => by cases h'; exact fdepth_spec _ _ _ w h hfn)).eq (show I _ = I (depthR xs c : Nat) from by rw [nc]; rfl)) ?_
      first | refine sn rfl rfl rfl ?_ | refine su rfl rfl ?_ | refine sy rfl rfl ((geq rfl rfl).eq (congrArg Value.bool (decide_eq_true (by omega)))) ?_
      first | refine st (pkT rfl rfl) ?_ | refine st (pkF rfl rfl) ?_ | refine st (pk rfl rfl rfl) ?_
      refine en fun a w e' hf => ?_
      replace hT := hT.ext e'
      replace e := Ext.tr e e'
      clear e'
      refine tl_as hf rfl (by decide) fun a hf => ?_
      refine tl_nil ?_
      refine wret ?_
      try simp only [Exit.then, Exit.inBlock]
      refine ret1 rfl hf rfl ?_
      rintro _ rfl
      exact ⟨_, rfl, e, rfl⟩
end Go.Mono
