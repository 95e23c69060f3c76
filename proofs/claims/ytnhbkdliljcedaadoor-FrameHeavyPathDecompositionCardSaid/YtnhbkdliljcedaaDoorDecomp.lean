/-
  FrameHeavyPathDecomposition, walked: it answers true.
  No condition.
-/
import Derived.Test.YtnhbkdliljcedaaDoorWE
import Derived.Test.YtnhbkdliljcedaaDoorMonoU
set_option linter.unusedVariables false
set_option linter.unusedSimpArgs false
set_option linter.unusedVariables false
set_option linter.unusedSimpArgs false
namespace Go.Mono
open Go Go.Proofs Go.RowKit

theorem ct_cells_get {n m : Nat} {f : Nat → Nat} (h : m < n) : (intsC ((List.range n).map fun b => ((f b : Nat) : Int)))[0 + m * 1]? = some (I (f m : Nat)) := by
  rw [Nat.zero_add, Nat.mul_one, intsC, List.getElem?_toArray, List.getElem?_map, List.getElem?_map, List.getElem?_range h]; rfl
theorem bt_cells_get {n m : Nat} {f : Nat → Bool} (h : m < n) : (boolsC ((List.range n).map f))[0 + m * 1]? = some (B (f m)) := by
  rw [Nat.zero_add, Nat.mul_one, boolsC, List.getElem?_toArray, List.getElem?_map, List.getElem?_map, List.getElem?_range h]; rfl
theorem map_cast_len (l : List Nat) : (l.map fun i : Nat => (i : Int)).length = l.length := List.length_map _

theorem frameDecomp_spec {G : Nat → Prop} (t : List (Int × BS)) (x : Value) (W : World) (hT : Tab W) (h : (Dv treeE G t).p x W) :
    Calls Tryd.prog 4 #[x] W (Post (E (B true)) W) := by
  refine enter (args := [x]) (As := [Dv treeE G t]) Tryd.func4 rfl Tryd.ntmps4 (Nat.le_of_ble_eq_true rfl) ?_ (fun a hf => ?_) (Nat.le_of_ble_eq_true rfl)
  rotate_left
  dsimp only [params, Nat.reduceAdd] at hf
  rotate_right
  · exact arg1 h
  have e := Ext.rfl' W
  have hl := cutT_len t
  have htl := toT_len (cutT t)
  repeat refine seq ?_
  refine regn0 ?_
  refine tl_as hf rfl (by decide) fun a hf => ?_
  refine tl_nil ?_
  repeat refine seq ?_
  refine regn 6 hf (by decide +kernel) ?_
  refine st (mv rfl) ?_
  refine st (call1 En16 rfl (fun v w he h => framed_spec t v w (hT.ext he) h)) ?_
  refine st (mv rfl) ?_
  refine st (ext_ rfl rfl) ?_
  refine st (ext_ rfl rfl) ?_
  refine st (ext_ rfl rfl) ?_
  refine en fun a w e' hf => ?_
  replace hT := hT.ext e'
  replace e := Ext.tr e e'
  clear e'
  refine tl_as hf rfl (by decide) fun a hf => ?_
  refine tl_as hf rfl (by decide) fun a hf => ?_
  refine tl_as hf rfl (by decide) fun a hf => ?_
  refine tl_nil ?_
  replace hf := hf.keep [3, 5]
  dsimp only [keep, List.filterMap, look, Nat.beq, Option.map] at hf
  by_cases hn : newR (toT (cutT t)) = 0
  rotate_left
  · rw [decide_eq_false hn] at hf
    repeat refine seq ?_
    refine regn 2 hf (by decide +kernel) ?_
    refine st (mv rfl) ?_
    refine st (notp rfl) ?_
    refine en fun a w e' hf => ?_
    replace hT := hT.ext e'
    replace e := Ext.tr e e'
    clear e'
    refine tl_nil ?_
    repeat refine seq ?_
    refine ifc hf rfl (fun _ => ?_) (fun h => by cases h)
    repeat refine seq ?_
    refine regn 1 hf (by decide +kernel) ?_
    refine st (call0 En17 (fun w he => known_spec w (hT.ext he))) ?_
    refine en fun a w e' hf => ?_
    replace hT := hT.ext e'
    replace e := Ext.tr e e'
    clear e'
    refine tl_as hf rfl (by decide) fun a hf => ?_
    refine tl_nil ?_
    refine wret ?_
    try simp only [Exit.then, Exit.inBlock]
    refine ret1 rfl hf rfl ?_
    rintro _ rfl
    exact ⟨_, rfl, e, rfl⟩
  have V := new_vals hn
  have hok := fm_ok V
  rw [decide_eq_true hn] at hf
  replace hf := hf.upd 3 rfl (B := Dv (ptE frE) Go.Mono.G0 (some (frM (cutT t)))) (fun v h => h.elim (·.2) (fun h => absurd hn h.1))
  replace hf := hf.keep [3, 5]
  dsimp only [keep, List.filterMap, look, Nat.beq, Option.map] at hf
  repeat refine seq ?_
  refine regn 2 hf (by decide +kernel) ?_
  refine st (mv rfl) ?_
  refine st (notp rfl) ?_
  refine en fun a w e' hf => ?_
  replace hT := hT.ext e'
  replace e := Ext.tr e e'
  clear e'
  refine tl_nil ?_
  repeat refine seq ?_
  refine ifc hf rfl (fun h => by cases h) (fun _ => ?_)
  refine wskip ?_
  try simp only [Exit.then, Exit.inBlock, ↓reduceIte]
  repeat refine seq ?_
  refine regn 2 hf (by decide +kernel) ?_
  refine st (mv rfl) ?_
  refine st (eqlP Tryd.underlying24 (isR rfl)) ?_
  refine en fun a w e' hf => ?_
  replace hT := hT.ext e'
  replace e := Ext.tr e e'
  clear e'
  refine tl_nil ?_
  repeat refine seq ?_
  refine ifc hf rfl (fun h => by cases h) (fun _ => ?_)
  refine wskip ?_
  try simp only [Exit.then, Exit.inBlock, ↓reduceIte]
  replace hf := hf.keep [3]
  dsimp only [keep, List.filterMap, look, Nat.beq, Option.map] at hf
  obtain ⟨xs, hxs⟩ : ∃ xs, xs = toT (cutT t) := ⟨_, rfl⟩
  have hrt := fun r => fm_nd (t := cutT t) (i := r)
  rw [← hxs] at V hok htl
  simp only [← hxs] at hrt
  have hfl : (frM (cutT t)).1.length ≤ 4096 := by show (cutT t).length ≤ 4096; omega
  have hfn := frM_len (cutT t)
  have hf1 : (frM (cutT t)).1 = cutT t := rfl
  have hway : ∀ j : Nat, j < xs.length → (ofF (frM (cutT t)) (j : Int)).2.2.2.1 = heavyR xs (j : Nat) := fun j hj => by
    rw [hrt j (by omega)]; rfl
  obtain ⟨r, hr1, hr2, hr3⟩ := chkR_root V
  have hroot : fstB (fun b => decide (b.1 < 0)) (frM (cutT t)).1 = (r : Int) := by
    rw [hf1, fstB]
    refine fstN_hit (by omega) (fun i hi => ?_) ?_
    · refine decide_eq_false fun hu => ?_
      have : up xs i < 0 := by rw [hxs, toT_up (by omega)]; exact hu
      have := hr3 i (by omega) this
      omega
    · refine decide_eq_true ?_
      have : up xs r = (bg (cutT t) r).1 := by rw [hxs, toT_up (by omega)]
      omega
  obtain ⟨F, hF⟩ : ∃ F, F = frM (cutT t) := ⟨_, rfl⟩
  have hFn : F.1.length = xs.length := by rw [hF, hf1]; omega
  rw [← hF] at hrt hfl hfn hway hroot hf
  have hin : ∀ j : Nat, j < xs.length → inT F.1 (j : Int) = true := fun j hj => by simp [inT, hFn, hj]
  have hpar : ∀ j : Nat, j < xs.length → parF F (j : Int) = up xs j := fun j hj => by
    rw [parF, hin j hj, Int.toNat_natCast, hxs, toT_up (by omega), hF]; rfl
  refine rebase e ?_
  clear e
  replace hf := hf.upd 3 rfl (fun v => Dv.toB (G := Go.Mono.G0))
  generalize w = W at *
  have e := Ext.rfl' W
  repeat refine seq ?_
  refine regn 2 hf (by decide +kernel) ?_
  refine st (mv rfl) ?_
  refine st ((call1 En25 rfl (fun v w he h => flen_spec _ v w h hfl)).eq (congrArg (Value.int .i64) (show ((F.1.length : Nat) : Int) = (xs.length : Nat) from by rw [hFn]))) ?_
  refine en fun a w e' hf => ?_
  replace e := Ext.tr e e'
  clear e'
  refine tl_as hf rfl (by decide) fun a hf => ?_
  refine tl_nil ?_
  replace hf := hf.keep [3, 6]
  dsimp only [keep, List.filterMap, look, Nat.beq, Option.map] at hf
  repeat refine seq ?_
  refine regn 1 hf (by decide +kernel) ?_
  refine st (mv rfl) ?_
  refine en fun a w e' hf => ?_
  replace e := Ext.tr e e'
  clear e'
  refine tl_mk Tryd.underlying43 I3 rfl hf (by decide) rfl (by omega) (by decide) fun a b34 w e' hb34 hs34 B34 hf => ?_
  have hle34 := Nat.le_trans e.size (Nat.le_of_eq hb34.symm)
  replace e := Ext.tr e e'
  clear e'
  refine tl_as hf rfl (by decide) fun a hf => ?_
  refine tl_nil ?_
  rw [show (List.replicate xs.length (I 0)).toArray = intsC ((List.range xs.length).map fun b => ((onC xs (stTo xs r xs.length) 0 0 b : Nat) : Int)) from by
    rw [intsC]
    congr 1
    refine List.ext_getElem (by simp) fun i h1 h2 => ?_
    simp [onC_zero]] at B34
  replace hf := hf.keep [3, 6, 7]
  dsimp only [keep, List.filterMap, look, Nat.beq, Option.map] at hf
  have hGW : ∀ b, b < W.heap.size → b < W.heap.size := fun b hb => hb
  obtain ⟨Nb, hNb⟩ : ∃ Nb, Nb = w.heap.size := ⟨_, rfl⟩
  have l34 := B34.lt
  have hWN := e.size
  repeat refine seq ?_
  refine regn 3 hf (by decide +kernel) ?_
  refine st (mv rfl) ?_
  refine st ((call1 En26 rfl (fun v w he h => froot_spec _ v w h hfl)).eq (congrArg (Value.int .i64) hroot)) ?_
  refine st (bslO1 (B := Nb) (G := Go.Mono.G0) Tryd.underlying43 I3 rfl rfl (by omega) (fun b hb => hb.elim)) ?_
  refine en fun a w e' hf => ?_
  replace e := Ext.tr e e'
  replace B34 := B34.ext e'
  clear e'
  refine tl_as hf rfl (by decide) fun a hf => ?_
  refine tl_nil ?_
  obtain ⟨u0, Ho0, hf⟩ := hf.fix 8 rfl
  have Ho0 : OwR intE 3 Nb Go.Mono.G0 w ((stTo xs r 0).map fun i : Nat => (i : Int)) u0 := Ho0
  have hov : u0.ownBlock ≠ some b34 := fun hb => by
    have := (Ho0.lt hb).1
    omega
  have Ho : OwR intE 3 W.heap.size (fun b => b < W.heap.size) w ((stTo xs r 0).map fun i : Nat => (i : Int)) u0 := OwR.reG (Ho0.lower (by omega) fun b hb => hb.elim) hGW
  clear Ho0
  replace hf := hf.keep [3, 6, 7, 8]
  dsimp only [keep, List.filterMap, look, Nat.beq, Option.map] at hf
  repeat refine seq ?_
  refine regn0 ?_
  refine tl_as hf rfl (by decide) fun a hf => ?_
  refine tl_nil ?_
  replace hf := hf.keep [3, 6, 7, 8, 9]
  dsimp only [keep, List.filterMap, look, Nat.beq, Option.map] at hf
  repeat refine seq ?_
  refine blk (loopN (fun r0 a w => ∃ (k : Nat) (u : Value), r0 = xs.length - k ∧ k ≤ xs.length ∧ Fr 186 a w [(3, Dv (ptE frE) (GB W Go.Mono.G0) (some F)), (6, E (I (xs.length : Nat))), (7, E (.slice (some ⟨b34, 0, none⟩) xs.length xs.length)), (8, E u), (9, E (I k))] ∧ Ext W w ∧ Blk w b34 (intsC ((List.range xs.length).map fun b => ((onC xs (stTo xs r xs.length) 0 0 b : Nat) : Int))) 3 ∧ u.ownBlock ≠ some b34 ∧ OwR intE 3 W.heap.size (fun b => b < W.heap.size) w ((stTo xs r k).map fun i : Nat => (i : Int)) u) xs.length ⟨0, u0, rfl, by omega, hf, e, B34, hov, Ho⟩ ?_)
  clear hf e; try clear B34; try clear hov; try clear Ho
  rintro r0 a w ⟨k, u, rfl, hk, hf, e, B34, hov, Ho⟩
  repeat refine seq ?_
  refine regn 3 hf (by decide +kernel) ?_
  refine st (mv rfl) ?_
  refine st (mv rfl) ?_
  refine st (lss rfl rfl) ?_
  refine en fun a w e' hf => ?_
  replace e := Ext.tr e e'
  replace B34 := B34.ext e'
  replace Ho := Ho.ext e'
  clear e'
  refine tl_nil ?_
  repeat refine seq ?_
  refine ifc hf rfl (fun hc => wskip ?_) (fun hc => wexit ?_)
  rotate_left
  rotate_left
  · have hlt : k < xs.length := by have := of_decide_eq_true hc; (try dsimp only at this); omega
    clear hc
    replace hf := hf.keep [3, 6, 7, 8, 9]
    dsimp only [keep, List.filterMap, look, Nat.beq, Option.map] at hf
    repeat refine seq ?_
    refine blk ?_
    have hnd := hrt k (by omega)
    have hlt1 : (lightR xs (k : Nat)).length ≤ xs.length := by
      have h1 : (lightR xs (k : Nat)).length ≤ (kids xs (k : Nat)).length := List.length_filter_le _ _
      have h2 := kids_len xs (k : Nat)
      omega
    have hlt2 : (ofF F (k : Int)).2.1.length ≤ 4096 := by rw [hnd]; show (lightR xs (k : Nat)).length ≤ 4096; omega
    have hst1 : ((stTo xs r k).map fun i : Nat => (i : Int)).length ≤ 4000 := by
      rw [map_cast_len]
      have h1 := stTo_len xs r k
      have h2 : k * xs.length ≤ 60 * 60 := Nat.mul_le_mul (by omega) (by omega)
      omega
    repeat refine seq ?_
    refine regn 4 hf (by decide +kernel) ?_
    refine st (mv rfl) ?_
    refine st (mv rfl) ?_
    refine st (mv rfl) ?_
    refine st (call2 (A := Dv (slE intE) (GO (fun b => b < W.heap.size) u) (lightR xs (k : Nat))) En27 rfl rfl (fun v x w he h h' => by cases h'; rw [show lightR xs (k : Nat) = (ofF F (k : Int)).2.1 from by rw [hnd]; rfl]; exact postG (flight_spec _ _ _ w h hfn hlt2) (fun b hb => Nat.lt_of_lt_of_le (Ho.avs b hb) he.size))) ?_
    refine en fun a w e' hf => ?_
    replace e := Ext.tr e e'
    replace B34 := B34.ext e'
    replace Ho := Ho.ext e'
    clear e'
    haveI hin : ∀ G0, InR (GB W G0) _ := OwR.inGB Ho (Nat.le_refl _)
    refine tl_app Tryd.underlying43 I3 rfl rfl hf (by decide) rfl Ho (isR rfl) (by omega) (by simp only [maxLen]; omega) fun a v w hg hat Hn hf => ?_
    replace e := e.gro hg (Ho.row (Nat.le_refl _))
    have hov' := own_ne hat hov B34.lt
    replace B34 := B34.gro hg (by assumption)
    replace hov := hov'; clear hov'
    replace Ho := Hn; clear Hn hg hat hin
    refine tl_as hf rfl (by decide) fun a hf => ?_
    refine tl_nil ?_
    try simp only [Exit.then, Exit.inBlock, ↓reduceIte]
    repeat refine seq ?_
    refine regn 2 hf (by decide +kernel) ?_
    refine st (mv rfl) ?_
    refine st ((add rfl rfl (by omega)).eq (congrArg (Value.int .i64) (show (k : Int) + 1 = ((k + 1 : Nat) : Int) from rfl))) ?_
    refine en fun a w e' hf => ?_
    replace e := Ext.tr e e'
    replace B34 := B34.ext e'
    replace Ho := Ho.ext e'
    clear e'
    refine tl_as hf rfl (by decide) fun a hf => ?_
    refine tl_nil ?_
    replace hf := hf.keep [3, 6, 7, 8, 9]
    dsimp only [keep, List.filterMap, look, Nat.beq, Option.map] at hf
    refine ⟨_, ?_, k + 1, _, rfl, by omega, hf, e, ?_⟩
    · omega
    rw [stTo_succ, List.map_append, ← lightR_eq]
    exact ⟨B34, hov, Ho⟩
  · obtain rfl : k = xs.length := by have := of_decide_eq_false hc; (try dsimp only at this); omega
    clear hc
    simp only [Exit.then, Exit.inBlock, ↓reduceIte]
    replace hf := hf.keep [3, 6, 7, 8]
    dsimp only [keep, List.filterMap, look, Nat.beq, Option.map] at hf
    obtain ⟨S, hS⟩ : ∃ S, S = stTo xs r xs.length := ⟨_, rfl⟩
    rw [← hS] at B34 Ho
    obtain ⟨SI, hSI0⟩ : ∃ SI, SI = S.map fun i : Nat => (i : Int) := ⟨_, rfl⟩
    have hSIl : SI.length = S.length := by rw [hSI0, map_cast_len]
    rw [← hSI0] at Ho
    repeat refine seq ?_
    refine regn 1 hf (by decide +kernel) ?_
    refine st (mv rfl) ?_
    refine en fun a w e' hf => ?_
    replace e := Ext.tr e e'
    replace B34 := B34.ext e'
    replace Ho := Ho.ext e'
    clear e'
    refine tl_mk Tryd.underlying45 I4 rfl hf (by decide) rfl (by omega) (by decide) fun a b49 w e' hb49 hs49 B49 hf => ?_
    have hle49 := Nat.le_trans e.size (Nat.le_of_eq hb49.symm)
    have ne49_Ho := Ho.ne_new hb49
    have lt49_B34 := B34.lt
    replace e := Ext.tr e e'
    replace B34 := B34.ext e'
    replace Ho := Ho.ext e'
    clear e'
    refine tl_as hf rfl (by decide) fun a hf => ?_
    refine tl_nil ?_
    rw [show (List.replicate xs.length (B false)).toArray = boolsC ((List.range xs.length).map (ltC S 0)) from by
      rw [boolsC]
      congr 1
      refine List.ext_getElem (by simp) fun i h1 h2 => ?_
      simp [ltC]] at B49
    have h49 : b49 ≠ b34 := by omega
    have hov9 : u.ownBlock ≠ some b49 := fun hb => by
      have := (ne49_Ho : u.ownBlock ≠ some b49)
      exact this hb
    have hW34 : W.heap.size ≤ b34 := by omega
    have hW49 : W.heap.size ≤ b49 := by omega
    have HS : (Dv (slE intE) (fun b => b = b34 ∨ b = b49) SI).p u w := OwR.slN Ho fun b hb h => by
      rcases h with rfl | rfl
      · exact hov hb
      · exact hov9 hb
    clear Ho
    replace hf := hf.upd 8 rfl (B := Dv (slE intE) (fun b => b = b34 ∨ b = b49) SI) (fun v hv => by cases hv; exact HS)
    clear HS hov hov9
    haveI iN34 : InR (fun b => b = b34 ∨ b = b49) (some b34) := ⟨fun c hc => by cases hc; exact .inl rfl⟩
    haveI iN49 : InR (fun b => b = b34 ∨ b = b49) (some b49) := ⟨fun c hc => by cases hc; exact .inr rfl⟩
    haveI iW34 : InR (GB W Go.Mono.G0) (some b34) := InR.gb hW34
    haveI iW49 : InR (GB W Go.Mono.G0) (some b49) := InR.gb hW49
    have hSlt : ∀ s ∈ S, s < xs.length := fun s hs => by rw [hS] at hs; have := stTo_lt hr1 _ s hs; omega
    have hSn : S.length ≤ 4000 := by
      have h1 := stTo_len xs r xs.length
      have h2 : xs.length * xs.length ≤ 60 * 60 := Nat.mul_le_mul (by omega) (by omega)
      rw [hS]; omega
    have hons : ∀ i k b, i ≤ S.length → onC xs S i k b ≤ 4001 * 62 := fun i k b hi => Nat.le_trans (onC_le xs S i k b hi) (Nat.mul_le_mul (by omega) (by omega))
    replace hf := hf.keep [3, 6, 7, 8, 10]
    dsimp only [keep, List.filterMap, look, Nat.beq, Option.map] at hf
    repeat refine seq ?_
    refine regn0 ?_
    refine tl_as hf rfl (by decide) fun a hf => ?_
    refine tl_nil ?_
    replace hf := hf.keep [3, 6, 7, 8, 10, 11]
    dsimp only [keep, List.filterMap, look, Nat.beq, Option.map] at hf
    repeat refine seq ?_
    refine blk (loopN (fun r0 a w => ∃ (k : Nat) , r0 = SI.length - k ∧ k ≤ SI.length ∧ Fr 186 a w [(3, Dv (ptE frE) (GB W Go.Mono.G0) (some F)), (6, E (I (xs.length : Nat))), (7, E (.slice (some ⟨b34, 0, none⟩) xs.length xs.length)), (8, Dv (slE intE) (fun b => b = b34 ∨ b = b49) SI), (10, E (.slice (some ⟨b49, 0, none⟩) xs.length xs.length)), (11, E (I k))] ∧ Ext W w ∧ Blk w b34 (intsC ((List.range xs.length).map fun b => ((onC xs S k 0 b : Nat) : Int))) 3 ∧ Blk w b49 (boolsC ((List.range xs.length).map (ltC S k))) 4) SI.length ⟨0, rfl, by omega, hf, e, B34, B49⟩ ?_)
    clear hf e; try clear B34; try clear B49
    rintro r0 a w ⟨k, rfl, hk, hf, e, B34, B49⟩
    repeat refine seq ?_
    refine regn 4 hf (by decide +kernel) ?_
    refine st (mv rfl) ?_
    refine st (mv rfl) ?_
    refine st (lenD Tryd.underlying43 (isR rfl)) ?_
    refine st (lss rfl rfl) ?_
    refine en fun a w e' hf => ?_
    replace e := Ext.tr e e'
    replace B34 := B34.ext e'
    replace B49 := B49.ext e'
    clear e'
    refine tl_nil ?_
    repeat refine seq ?_
    refine ifc hf rfl (fun hc => wskip ?_) (fun hc => wexit ?_)
    rotate_left
    rotate_left
    · have hlt : k < SI.length := by have := of_decide_eq_true hc; (try dsimp only at this); omega
      clear hc
      replace hf := hf.keep [3, 6, 7, 8, 10, 11]
      dsimp only [keep, List.filterMap, look, Nat.beq, Option.map] at hf
      repeat refine seq ?_
      refine blk ?_
      rw [hSIl] at hlt hk
      obtain ⟨s, hs⟩ : ∃ s, S[k]? = some s := ⟨_, List.getElem?_eq_getElem hlt⟩
      have hsn := hSlt s (List.mem_of_getElem? hs)
      have hsx : s < xs.length := by omega
      have hSI : SI[k]? = some (s : Int) := by rw [hSI0, List.getElem?_map, hs]; rfl
      have l34' := B34.lt
      have l49' := B49.lt
      have hwe := wayR_eq V hsx
      have hw0 : (wayR xs (s : Nat))[0]? = some (s : Int) := by rw [hwe]; rfl
      have hwl : ¬ ((((wayR xs (s : Nat)).length : Nat) : Int) = 0) := by rw [hwe]; simp; omega
      have hwl2 := wayR_len xs (s : Nat)
      repeat refine seq ?_
      refine regn 6 hf (by decide +kernel) ?_
      refine st (mv rfl) ?_
      refine st (mv rfl) ?_
      refine st (mv rfl) ?_
      refine st (idxD Tryd.underlying43 S3 (isR rfl) rfl (by omega) (hSI)) ?_
      refine st (ldI T3 (isR rfl)) ?_
      refine st (call2 (A := Dv (slE intE) (fun b => b = b34 ∨ b = b49) (wayR xs (s : Nat))) En28 rfl rfl (fun v x w he h h' => by cases h'; have := fway_spec F xs V (by omega) hway (s : Int) _ w h hfn hfl; rw [if_pos (hin s hsn)] at this; exact postG this (fun b hb => by have := he.size; rcases hb with (rfl|rfl) <;> omega))) ?_
      refine en fun a w e' hf => ?_
      replace e := Ext.tr e e'
      replace B34 := B34.ext e'
      replace B49 := B49.ext e'
      clear e'
      refine tl_as hf rfl (by decide) fun a hf => ?_
      refine tl_nil ?_
      replace hf := hf.keep [3, 6, 7, 8, 10, 11, 12]
      dsimp only [keep, List.filterMap, look, Nat.beq, Option.map] at hf
      repeat refine seq ?_
      refine reg 28 Mix.mix hf (by decide +kernel) ?_
      refine st (mv rfl) ?_
      refine st (mv rfl) ?_
      refine st (idxD Tryd.underlying43 S3 (isR rfl) rfl (by omega) (hSI)) ?_
      refine st (ldI T3 (isR rfl)) ?_
      refine st ((lss rfl rfl).eq (congrArg Value.bool (show decide ((s : Int) < 0) = false from decide_eq_false (by omega)))) ?_
      refine st (mv rfl) ?_
      first | refine sn rfl rfl rfl ?_ | refine su rfl rfl ?_ | refine sy rfl rfl (mv rfl) ?_
      first | refine sn rfl rfl rfl ?_ | refine su rfl rfl ?_ | refine sy rfl rfl (mv rfl) ?_
      first | refine sn rfl rfl rfl ?_ | refine su rfl rfl ?_ | refine sy rfl rfl (idxD Tryd.underlying43 S3 (isR rfl) rfl (by omega) (hSI)) ?_
      first | refine sn rfl rfl rfl ?_ | refine su rfl rfl ?_ | refine sy rfl rfl (ldI T3 (isR rfl)) ?_
      first | refine sn rfl rfl rfl ?_ | refine su rfl rfl ?_ | refine sy rfl rfl (mv rfl) ?_
      first | refine sn rfl rfl rfl ?_ | refine su rfl rfl ?_ | refine sy rfl rfl ((geq rfl rfl).eq (congrArg Value.bool (show decide ((xs.length : Int) ≤ (s : Int)) = false from decide_eq_false (by omega)))) ?_
      first | refine st (pkT rfl rfl) ?_ | refine st (pkF rfl rfl) ?_ | refine st (pk rfl rfl rfl) ?_
      refine st (mv rfl) ?_
      first | refine sn rfl rfl rfl ?_ | refine su rfl rfl ?_ | refine sy rfl rfl (mv rfl) ?_
      first | refine sn rfl rfl rfl ?_ | refine su rfl rfl ?_ | refine sy rfl rfl (lenD Tryd.underlying43 (isR rfl)) ?_
      first | refine sn rfl rfl rfl ?_ | refine su rfl rfl ?_ | refine sy rfl rfl ((eql rfl rfl).eq (congrArg Value.bool (beq_eq_false_iff_ne.2 hwl))) ?_
      first | refine st (pkT rfl rfl) ?_ | refine st (pkF rfl rfl) ?_ | refine st (pk rfl rfl rfl) ?_
      refine st (mv rfl) ?_
      first | refine sn rfl rfl rfl ?_ | refine su rfl rfl ?_ | refine sy rfl rfl (mv rfl) ?_
      first | refine sn rfl rfl rfl ?_ | refine su rfl rfl ?_ | refine sy rfl rfl (idxD (j := 0) Tryd.underlying43 S3 (isR rfl) rfl rfl hw0) ?_
      first | refine sn rfl rfl rfl ?_ | refine su rfl rfl ?_ | refine sy rfl rfl (ldI T3 (isR rfl)) ?_
      first | refine sn rfl rfl rfl ?_ | refine su rfl rfl ?_ | refine sy rfl rfl (mv rfl) ?_
      first | refine sn rfl rfl rfl ?_ | refine su rfl rfl ?_ | refine sy rfl rfl (mv rfl) ?_
      first | refine sn rfl rfl rfl ?_ | refine su rfl rfl ?_ | refine sy rfl rfl (idxD Tryd.underlying43 S3 (isR rfl) rfl (by omega) (hSI)) ?_
      first | refine sn rfl rfl rfl ?_ | refine su rfl rfl ?_ | refine sy rfl rfl (ldI T3 (isR rfl)) ?_
      first | refine sn rfl rfl rfl ?_ | refine su rfl rfl ?_ | refine sy rfl rfl ((neq rfl rfl).eq (congrArg Value.bool (bne_self_eq_false _))) ?_
      first | refine st (pkT rfl rfl) ?_ | refine st (pkF rfl rfl) ?_ | refine st (pk rfl rfl rfl) ?_
      refine en fun a w e' hf => ?_
      replace e := Ext.tr e e'
      replace B34 := B34.ext e'
      replace B49 := B49.ext e'
      clear e'
      refine tl_nil ?_
      repeat refine seq ?_
      refine ifc hf rfl (fun h => by cases h) (fun _ => ?_)
      refine wskip ?_
      try simp only [Exit.then, Exit.inBlock, ↓reduceIte]
      replace hf := hf.keep [3, 6, 7, 8, 10, 11, 12]
      dsimp only [keep, List.filterMap, look, Nat.beq, Option.map] at hf
      have hb49 : s < (boolsC ((List.range xs.length).map (ltC S k))).size := by rw [boolsC_size]; simpa using hsn
      repeat refine seq ?_
      refine regn 8 hf (by decide +kernel) ?_
      refine st (mv rfl) ?_
      refine st (mv rfl) ?_
      refine st (mv rfl) ?_
      refine st (idxD Tryd.underlying43 S3 (isR rfl) rfl (by omega) (hSI)) ?_
      refine st (ldI T3 (isR rfl)) ?_
      refine st (mv rfl) ?_
      refine st (gtr rfl rfl) ?_
      refine st (idxS Tryd.underlying45 S4 rfl rfl (by omega)) ?_
      refine en fun a w e' hf => ?_
      replace e := Ext.tr e e'
      replace B34 := B34.ext e'
      replace B49 := B49.ext e'
      clear e'
      refine tl_st1 T4 hf rfl rfl rfl B49 (by simpa using hb49) fun w hg hsz B49 hf => ?_
      replace e := e.gr hg (by omega)
      replace B34 := B34.gr hg (by omega)
      clear hg
      refine tl_nil ?_
      rw [show 0 + (s : Int).toNat * 1 = s from by omega, boolsC_set, map_range_set, show (fun b => if b = s then decide ((0 : Int) < (k : Int)) else ltC S k b) = ltC S (k + 1) from by
        funext b
        rw [ltC_step hs]
        have : decide ((0 : Int) < (k : Int)) = decide (0 < k) := by rw [decide_eq_decide]; omega
        rw [this]] at B49
      replace hf := hf.keep [3, 6, 7, 8, 10, 11, 12]
      dsimp only [keep, List.filterMap, look, Nat.beq, Option.map] at hf
      repeat refine seq ?_
      refine regn0 ?_
      refine tl_as hf rfl (by decide) fun a hf => ?_
      refine tl_nil ?_
      replace hf := hf.keep [3, 6, 7, 8, 10, 11, 12, 13]
      dsimp only [keep, List.filterMap, look, Nat.beq, Option.map] at hf
      repeat refine seq ?_
      refine blk (loopN (fun r0 a w => ∃ (j : Nat) , r0 = (wayR xs (s : Nat)).length - j ∧ j ≤ (wayR xs (s : Nat)).length ∧ Fr 186 a w [(3, Dv (ptE frE) (GB W Go.Mono.G0) (some F)), (6, E (I (xs.length : Nat))), (7, E (.slice (some ⟨b34, 0, none⟩) xs.length xs.length)), (8, Dv (slE intE) (fun b => b = b34 ∨ b = b49) SI), (10, E (.slice (some ⟨b49, 0, none⟩) xs.length xs.length)), (11, E (I k)), (12, Dv (slE intE) (fun b => b = b34 ∨ b = b49) (wayR xs (s : Nat))), (13, E (I j))] ∧ Ext W w ∧ Blk w b34 (intsC ((List.range xs.length).map fun b => ((onC xs S k j b : Nat) : Int))) 3 ∧ Blk w b49 (boolsC ((List.range xs.length).map (ltC S (k + 1)))) 4) (wayR xs (s : Nat)).length ⟨0, rfl, by omega, hf, e, B34, B49⟩ ?_)
      clear hf e; try clear B34; try clear B49
      rintro r0 a w ⟨j, rfl, hj, hf, e, B34, B49⟩
      repeat refine seq ?_
      refine regn 4 hf (by decide +kernel) ?_
      refine st (mv rfl) ?_
      refine st (mv rfl) ?_
      refine st (lenD Tryd.underlying43 (isR rfl)) ?_
      refine st (lss rfl rfl) ?_
      refine en fun a w e' hf => ?_
      replace e := Ext.tr e e'
      replace B34 := B34.ext e'
      replace B49 := B49.ext e'
      clear e'
      refine tl_nil ?_
      repeat refine seq ?_
      refine ifc hf rfl (fun hc => wskip ?_) (fun hc => wexit ?_)
      rotate_left
      rotate_left
      · have hltj : j < (wayR xs (s : Nat)).length := by have := of_decide_eq_true hc; (try dsimp only at this); omega
        clear hc
        replace hf := hf.keep [3, 6, 7, 8, 10, 11, 12, 13]
        dsimp only [keep, List.filterMap, look, Nat.beq, Option.map] at hf
        repeat refine seq ?_
        refine blk ?_
        obtain ⟨m, m1, m2, m3⟩ := way_ok V s hsx j hltj
        have hgj := gi_get hltj
        rw [m2] at hgj
        have hmn : m < xs.length := by omega
        have hstep : (fun b => if b = m then (((onC xs S k j m : Nat) : Int) + 1) else ((onC xs S k j b : Nat) : Int)) = fun b => ((onC xs S k (j + 1) b : Nat) : Int) := by
          funext b
          rw [onC_step hs hltj m2]
          by_cases hbm : b = m
          · subst hbm; simp
          · simp [hbm]
        have hcell := ct_cells_get (f := fun b => onC xs S k j b) hmn
        have hbnd := hons k j m (by omega)
        have hsz34 : m < (intsC ((List.range xs.length).map fun b => ((onC xs S k j b : Nat) : Int))).size := by rw [intsC_size]; simpa using hmn
        repeat refine seq ?_
        refine cut (J := fun a w => Fr 186 a w [(3, Dv (ptE frE) (GB W Go.Mono.G0) (some F)), (6, E (I (xs.length : Nat))), (7, E (.slice (some ⟨b34, 0, none⟩) xs.length xs.length)), (8, Dv (slE intE) (fun b => b = b34 ∨ b = b49) SI), (10, E (.slice (some ⟨b49, 0, none⟩) xs.length xs.length)), (11, E (I k)), (12, Dv (slE intE) (fun b => b = b34 ∨ b = b49) (wayR xs (s : Nat))), (13, E (I j)), (134, E (B false))] ∧ Ext W w ∧ Blk w b34 (intsC ((List.range xs.length).map fun b => ((onC xs S k j b : Nat) : Int))) 3 ∧ Blk w b49 (boolsC ((List.range xs.length).map (ltC S (k + 1)))) 4) ?_ (fun a w hJ => ?_)
        · cases h0 : decide ((0 : Int) < (j : Int))
          · repeat refine seq ?_
            refine reg 31 Mix.mix hf (by decide +kernel) ?_
            refine st (mv rfl) ?_
            refine st (mv rfl) ?_
            refine st (idxD Tryd.underlying43 S3 (isR rfl) rfl (by omega) (hgj)) ?_
            refine st (ldI T3 (isR rfl)) ?_
            refine st ((lss rfl rfl).eq (congrArg Value.bool (show decide ((m : Int) < 0) = false from decide_eq_false (by omega)))) ?_
            refine st (mv rfl) ?_
            first | refine sn rfl rfl rfl ?_ | refine su rfl rfl ?_ | refine sy rfl rfl (mv rfl) ?_
            first | refine sn rfl rfl rfl ?_ | refine su rfl rfl ?_ | refine sy rfl rfl (mv rfl) ?_
            first | refine sn rfl rfl rfl ?_ | refine su rfl rfl ?_ | refine sy rfl rfl (idxD Tryd.underlying43 S3 (isR rfl) rfl (by omega) (hgj)) ?_
            first | refine sn rfl rfl rfl ?_ | refine su rfl rfl ?_ | refine sy rfl rfl (ldI T3 (isR rfl)) ?_
            first | refine sn rfl rfl rfl ?_ | refine su rfl rfl ?_ | refine sy rfl rfl (mv rfl) ?_
            first | refine sn rfl rfl rfl ?_ | refine su rfl rfl ?_ | refine sy rfl rfl ((geq rfl rfl).eq (congrArg Value.bool (show decide ((xs.length : Int) ≤ (m : Int)) = false from decide_eq_false (by omega)))) ?_
            first | refine st (pkT rfl rfl) ?_ | refine st (pkF rfl rfl) ?_ | refine st (pk rfl rfl rfl) ?_
            refine st (mv rfl) ?_
            first | refine sn rfl rfl rfl ?_ | refine su rfl rfl ?_ | refine sy rfl rfl (mv rfl) ?_
            first | refine sn rfl rfl rfl ?_ | refine su rfl rfl ?_ | refine sy rfl rfl ((gtr rfl rfl).eq (congrArg Value.bool (h0))) ?_
            first | refine sn rfl rfl rfl ?_ | refine su rfl rfl ?_ | refine sy rfl rfl (mv rfl) ?_
            first | refine sn rfl rfl rfl ?_ | refine su rfl rfl ?_ | refine sy rfl rfl (mv rfl) ?_
            first | refine sn rfl rfl rfl ?_ | refine su rfl rfl ?_ | refine sy rfl rfl (mv rfl) ?_
            first | refine sn rfl rfl rfl ?_ | refine su rfl rfl ?_ | refine sy rfl rfl (mv rfl) ?_
            first | refine sn rfl rfl rfl ?_ | refine su rfl rfl ?_ | refine sy rfl rfl (idxD Tryd.underlying43 S3 (isR rfl) rfl (by omega) (by assumption)) ?_
            first | refine sn rfl rfl rfl ?_ | refine su rfl rfl ?_ | refine sy rfl rfl (ldI T3 (isR rfl)) ?_
            first | refine sn rfl rfl rfl ?_ | refine su rfl rfl ?_ | refine sy rfl rfl (TODO_call) ?_
            first | refine sn rfl rfl rfl ?_ | refine su rfl rfl ?_ | refine sy rfl rfl (mv rfl) ?_
            first | refine sn rfl rfl rfl ?_ | refine su rfl rfl ?_ | refine sy rfl rfl (mv rfl) ?_
            first | refine sn rfl rfl rfl ?_ | refine su rfl rfl ?_ | refine sy rfl rfl (sub rfl rfl (by omega)) ?_
            first | refine sn rfl rfl rfl ?_ | refine su rfl rfl ?_ | refine sy rfl rfl (idxD Tryd.underlying43 S3 (isR rfl) rfl (by omega) (by assumption)) ?_
            first | refine sn rfl rfl rfl ?_ | refine su rfl rfl ?_ | refine sy rfl rfl (ldI T3 (isR rfl)) ?_
            first | refine sn rfl rfl rfl ?_ | refine su rfl rfl ?_ | refine sy rfl rfl (neq rfl rfl) ?_
            first | refine sn rfl rfl rfl ?_ | refine su rfl rfl ?_ | refine sy rfl rfl (pkT rfl rfl) ?_ | refine sy rfl rfl (pkF rfl rfl) ?_ | refine sy rfl rfl (pk rfl rfl rfl) ?_
            first | refine st (pkT rfl rfl) ?_ | refine st (pkF rfl rfl) ?_ | refine st (pk rfl rfl rfl) ?_
            refine en fun a w e' hf => ?_
            replace e := Ext.tr e e'
            replace B34 := B34.ext e'
            replace B49 := B49.ext e'
            clear e'
            refine tl_nil ?_
            replace hf := hf.keep [3, 6, 7, 8, 10, 11, 12, 13, 134]
            dsimp only [keep, List.filterMap, look, Nat.beq, Option.map] at hf
            exact ⟨rfl, hf, e, B34, B49⟩
          · have hj0 := of_decide_eq_true h0
            have hgj1 := gi_get (r := wayR xs (s : Nat)) (k := j - 1) (by omega)
            repeat refine seq ?_
            refine reg 31 Mix.mix hf (by decide +kernel) ?_
            refine st (mv rfl) ?_
            refine st (mv rfl) ?_
            refine st (idxD Tryd.underlying43 S3 (isR rfl) rfl (by omega) (hgj)) ?_
            refine st (ldI T3 (isR rfl)) ?_
            refine st ((lss rfl rfl).eq (congrArg Value.bool (show decide ((m : Int) < 0) = false from decide_eq_false (by omega)))) ?_
            refine st (mv rfl) ?_
            first | refine sn rfl rfl rfl ?_ | refine su rfl rfl ?_ | refine sy rfl rfl (mv rfl) ?_
            first | refine sn rfl rfl rfl ?_ | refine su rfl rfl ?_ | refine sy rfl rfl (mv rfl) ?_
            first | refine sn rfl rfl rfl ?_ | refine su rfl rfl ?_ | refine sy rfl rfl (idxD Tryd.underlying43 S3 (isR rfl) rfl (by omega) (hgj)) ?_
            first | refine sn rfl rfl rfl ?_ | refine su rfl rfl ?_ | refine sy rfl rfl (ldI T3 (isR rfl)) ?_
            first | refine sn rfl rfl rfl ?_ | refine su rfl rfl ?_ | refine sy rfl rfl (mv rfl) ?_
            first | refine sn rfl rfl rfl ?_ | refine su rfl rfl ?_ | refine sy rfl rfl ((geq rfl rfl).eq (congrArg Value.bool (show decide ((xs.length : Int) ≤ (m : Int)) = false from decide_eq_false (by omega)))) ?_
            first | refine st (pkT rfl rfl) ?_ | refine st (pkF rfl rfl) ?_ | refine st (pk rfl rfl rfl) ?_
            refine st (mv rfl) ?_
            first | refine sn rfl rfl rfl ?_ | refine su rfl rfl ?_ | refine sy rfl rfl (mv rfl) ?_
            first | refine sn rfl rfl rfl ?_ | refine su rfl rfl ?_ | refine sy rfl rfl ((gtr rfl rfl).eq (congrArg Value.bool (h0))) ?_
            first | refine sn rfl rfl rfl ?_ | refine su rfl rfl ?_ | refine sy rfl rfl (mv rfl) ?_
            first | refine sn rfl rfl rfl ?_ | refine su rfl rfl ?_ | refine sy rfl rfl (mv rfl) ?_
            first | refine sn rfl rfl rfl ?_ | refine su rfl rfl ?_ | refine sy rfl rfl (mv rfl) ?_
            first | refine sn rfl rfl rfl ?_ | refine su rfl rfl ?_ | refine sy rfl rfl (mv rfl) ?_
            first | refine sn rfl rfl rfl ?_ | refine su rfl rfl ?_ | refine sy rfl rfl (idxD Tryd.underlying43 S3 (isR rfl) rfl (by omega) (hgj)) ?_
            first | refine sn rfl rfl rfl ?_ | refine su rfl rfl ?_ | refine sy rfl rfl (ldI T3 (isR rfl)) ?_
            first | refine sn rfl rfl rfl ?_ | refine su rfl rfl ?_ | refine sy rfl rfl ((call2 En29 rfl rfl (fun v x w he h h' => by cases h'; exact fparent_spec _ _ _ w h)).eq (congrArg (Value.int .i64) (hpar m hmn))) ?_
            first | refine sn rfl rfl rfl ?_ | refine su rfl rfl ?_ | refine sy rfl rfl (mv rfl) ?_
            first | refine sn rfl rfl rfl ?_ | refine su rfl rfl ?_ | refine sy rfl rfl (mv rfl) ?_
            first | refine sn rfl rfl rfl ?_ | refine su rfl rfl ?_ | refine sy rfl rfl ((sub rfl rfl (by omega)).eq (congrArg (Value.int .i64) (show (j : Int) - 1 = ((j - 1 : Nat) : Int) from by omega))) ?_
            first | refine sn rfl rfl rfl ?_ | refine su rfl rfl ?_ | refine sy rfl rfl (idxD Tryd.underlying43 S3 (isR rfl) rfl (by omega) (hgj1)) ?_
            first | refine sn rfl rfl rfl ?_ | refine su rfl rfl ?_ | refine sy rfl rfl (ldI T3 (isR rfl)) ?_
            first | refine sn rfl rfl rfl ?_ | refine su rfl rfl ?_ | refine sy rfl rfl ((neq rfl rfl).eq (congrArg Value.bool (show (up xs m != gi (wayR xs (s : Nat)) (j - 1)) = false from by rw [m3 (by omega)]; exact bne_self_eq_false _))) ?_
            first | refine sn rfl rfl rfl ?_ | refine su rfl rfl ?_ | refine sy rfl rfl (pkT rfl rfl) ?_ | refine sy rfl rfl (pkF rfl rfl) ?_ | refine sy rfl rfl (pk rfl rfl rfl) ?_
            first | refine st (pkT rfl rfl) ?_ | refine st (pkF rfl rfl) ?_ | refine st (pk rfl rfl rfl) ?_
            refine en fun a w e' hf => ?_
            replace e := Ext.tr e e'
            replace B34 := B34.ext e'
            replace B49 := B49.ext e'
            clear e'
            refine tl_nil ?_
            replace hf := hf.keep [3, 6, 7, 8, 10, 11, 12, 13, 134]
            dsimp only [keep, List.filterMap, look, Nat.beq, Option.map] at hf
            exact ⟨rfl, hf, e, B34, B49⟩
        clear hf e B34 B49
        obtain ⟨hf, e, B34, B49⟩ := hJ
        try simp only [Exit.then]
        repeat refine seq ?_
        refine ifc hf rfl (fun h => by cases h) (fun _ => ?_)
        refine wskip ?_
        try simp only [Exit.then, Exit.inBlock, ↓reduceIte]
        replace hf := hf.keep [3, 6, 7, 8, 10, 11, 12, 13]
        dsimp only [keep, List.filterMap, look, Nat.beq, Option.map] at hf
        repeat refine seq ?_
        refine regn 9 hf (by decide +kernel) ?_
        refine st (mv rfl) ?_
        refine st (mv rfl) ?_
        refine st (mv rfl) ?_
        refine st (idxD Tryd.underlying43 S3 (isR rfl) rfl (by omega) (hgj)) ?_
        refine st (ldI T3 (isR rfl)) ?_
        refine st (idxS Tryd.underlying43 S3 rfl rfl (by omega)) ?_
        refine st (ld1 T3 rfl B34 hcell) ?_
        refine st (add rfl rfl (by omega)) ?_
        refine st (idxS Tryd.underlying43 S3 rfl rfl (by omega)) ?_
        refine en fun a w e' hf => ?_
        replace e := Ext.tr e e'
        replace B34 := B34.ext e'
        replace B49 := B49.ext e'
        clear e'
        refine tl_st1 T3 hf rfl rfl rfl B34 (by simpa using hsz34) fun w hg hsz B34 hf => ?_
        replace e := e.gr hg (by omega)
        replace B49 := B49.gr hg (by omega)
        clear hg
        refine tl_nil ?_
        rw [show 0 + (m : Int).toNat * 1 = m from by omega, intsC_set, map_range_set, hstep] at B34
        try simp only [Exit.then, Exit.inBlock, ↓reduceIte]
        try simp only [Exit.then, Exit.inBlock, ↓reduceIte]
        repeat refine seq ?_
        refine regn 2 hf (by decide +kernel) ?_
        refine st (mv rfl) ?_
        refine st ((add rfl rfl (by omega)).eq (congrArg (Value.int .i64) (show (j : Int) + 1 = ((j + 1 : Nat) : Int) from rfl))) ?_
        refine en fun a w e' hf => ?_
        replace e := Ext.tr e e'
        replace B34 := B34.ext e'
        replace B49 := B49.ext e'
        clear e'
        refine tl_as hf rfl (by decide) fun a hf => ?_
        refine tl_nil ?_
        replace hf := hf.keep [3, 6, 7, 8, 10, 11, 12, 13]
        dsimp only [keep, List.filterMap, look, Nat.beq, Option.map] at hf
        refine ⟨_, ?_, j + 1, rfl, by omega, hf, e, ?_⟩
        · omega
        exact ⟨B34, B49⟩
      · obtain rfl : j = (wayR xs (s : Nat)).length := by have := of_decide_eq_false hc; (try dsimp only at this); omega
        clear hc
        simp only [Exit.then, Exit.inBlock, ↓reduceIte]
        try simp only [Exit.then, Exit.inBlock, ↓reduceIte]
        rw [show (fun b => ((onC xs S k (wayR xs (s : Nat)).length b : Nat) : Int)) = fun b => ((onC xs S (k + 1) 0 b : Nat) : Int) from by funext b; rw [onC_next hs]] at B34
        try simp only [Exit.then, Exit.inBlock, ↓reduceIte]
        repeat refine seq ?_
        refine regn 2 hf (by decide +kernel) ?_
        refine st (mv rfl) ?_
        refine st ((add rfl rfl (by omega)).eq (congrArg (Value.int .i64) (show (k : Int) + 1 = ((k + 1 : Nat) : Int) from rfl))) ?_
        refine en fun a w e' hf => ?_
        replace e := Ext.tr e e'
        replace B34 := B34.ext e'
        replace B49 := B49.ext e'
        clear e'
        refine tl_as hf rfl (by decide) fun a hf => ?_
        refine tl_nil ?_
        replace hf := hf.keep [3, 6, 7, 8, 10, 11]
        dsimp only [keep, List.filterMap, look, Nat.beq, Option.map] at hf
        refine ⟨_, ?_, k + 1, rfl, by omega, hf, e, ?_⟩
        · omega
        exact ⟨B34, B49⟩
    · obtain rfl : k = SI.length := by have := of_decide_eq_false hc; (try dsimp only at this); omega
      clear hc
      simp only [Exit.then, Exit.inBlock, ↓reduceIte]
      replace hf := hf.keep [3, 6, 7, 10]
      dsimp only [keep, List.filterMap, look, Nat.beq, Option.map] at hf
      rw [show (List.range xs.length).map (fun b => ((onC xs S SI.length 0 b : Nat) : Int)) = (List.range xs.length).map (fun b => ((1 : Nat) : Int)) from List.map_congr_left fun b hb => by
        rw [hSIl, onC_all, hS, ways_once V hr1 (by omega) hr3 b (List.mem_range.1 hb)]] at B34
      rw [show (List.range xs.length).map (ltC S SI.length) = (List.range xs.length).map (fun b : Nat => isLt xs (b : Nat)) from List.map_congr_left fun b hb => by
        rw [hSIl, hS, ltC_all]] at B49
      repeat refine seq ?_
      refine regn0 ?_
      refine tl_as hf rfl (by decide) fun a hf => ?_
      refine tl_nil ?_
      repeat refine seq ?_
      refine regn 1 hf (by decide +kernel) ?_
      refine st (mv rfl) ?_
      refine en fun a w e' hf => ?_
      replace e := Ext.tr e e'
      replace B34 := B34.ext e'
      replace B49 := B49.ext e'
      clear e'
      refine tl_as hf rfl (by decide) fun a hf => ?_
      refine tl_nil ?_
      replace hf := hf.keep [3, 6, 7, 10, 14, 15]
      dsimp only [keep, List.filterMap, look, Nat.beq, Option.map] at hf
      repeat refine seq ?_
      refine blk (loopN (fun r0 a w => ∃ (d q : Nat), r0 = q ∧ d + digits q = digits xs.length ∧ q ≤ xs.length ∧ Fr 186 a w [(3, Dv (ptE frE) (GB W Go.Mono.G0) (some F)), (6, E (I (xs.length : Nat))), (7, E (.slice (some ⟨b34, 0, none⟩) xs.length xs.length)), (10, E (.slice (some ⟨b49, 0, none⟩) xs.length xs.length)), (14, E (I (d : Nat))), (15, E (I (q : Nat)))] ∧ Ext W w ∧
        Blk w b34 (intsC ((List.range xs.length).map (fun b => ((1 : Nat) : Int)))) 3 ∧ Blk w b49 (boolsC ((List.range xs.length).map (fun b : Nat => isLt xs (b : Nat)))) 4) xs.length ⟨0, xs.length, rfl, by omega, Nat.le_refl _, hf, e, B34, B49⟩ ?_)
      clear hf e B34 B49
      rintro r0 a w ⟨d, q, rfl, hd, hq, hf, e, B34, B49⟩
      repeat refine seq ?_
      refine regn 2 hf (by decide +kernel) ?_
      refine st (mv rfl) ?_
      refine st (gtr rfl rfl) ?_
      refine en fun a w e' hf => ?_
      replace e := Ext.tr e e'
      replace B34 := B34.ext e'
      replace B49 := B49.ext e'
      clear e'
      refine tl_nil ?_
      repeat refine seq ?_
      refine ifc hf rfl (fun hc => wskip ?_) (fun hc => wexit ?_)
      · have hq0 : 0 < r0 := by have := of_decide_eq_true hc; omega
        clear hc
        have hdg : digits r0 = digits (r0 / 2) + 1 := by
          obtain ⟨k, rfl⟩ : ∃ k, r0 = k + 1 := ⟨r0 - 1, by omega⟩
          rw [digits]
        have hdl : d ≤ 70 := by
          have : ∀ m, digits m ≤ m := by
            intro m
            induction m using Nat.strongRecOn with
            | _ m ih =>
              cases m with
              | zero => rw [digits]; exact Nat.le_refl _
              | succ m =>
                rw [digits]
                have := ih ((m + 1) / 2) (by omega)
                omega
          have := this xs.length
          omega
        repeat refine seq ?_
        refine blk ?_
        replace hf := hf.keep [3, 6, 7, 10, 14, 15]
        dsimp only [keep, List.filterMap, look, Nat.beq, Option.map] at hf
        repeat refine seq ?_
        refine regn 2 hf (by decide +kernel) ?_
        refine st (mv rfl) ?_
        refine st ((add rfl rfl (by omega)).eq (congrArg (Value.int .i64) (show (d : Int) + 1 = ((d + 1 : Nat) : Int) from rfl))) ?_
        refine en fun a w e' hf => ?_
        replace e := Ext.tr e e'
        replace B34 := B34.ext e'
        replace B49 := B49.ext e'
        clear e'
        refine tl_as hf rfl (by decide) fun a hf => ?_
        refine tl_nil ?_
        try simp only [Exit.then, Exit.inBlock, ↓reduceIte]
        replace hf := hf.keep [3, 6, 7, 10, 14, 15]
        dsimp only [keep, List.filterMap, look, Nat.beq, Option.map] at hf
        repeat refine seq ?_
        refine regn 2 hf (by decide +kernel) ?_
        refine st (mv rfl) ?_
        refine st ((quo rfl rfl (by omega)).eq (congrArg (Value.int .i64) (show Int.tdiv (r0 : Int) 2 = ((r0 / 2 : Nat) : Int) from rfl))) ?_
        refine en fun a w e' hf => ?_
        replace e := Ext.tr e e'
        replace B34 := B34.ext e'
        replace B49 := B49.ext e'
        clear e'
        refine tl_as hf rfl (by decide) fun a hf => ?_
        refine tl_nil ?_
        replace hf := hf.keep [3, 6, 7, 10, 14, 15]
        dsimp only [keep, List.filterMap, look, Nat.beq, Option.map] at hf
        exact ⟨r0 / 2, by omega, d + 1, r0 / 2, rfl, by omega, by omega, hf, e, B34, B49⟩
      · obtain rfl : r0 = 0 := by have := of_decide_eq_false hc; omega
        clear hc
        simp only [Exit.then, Exit.inBlock, ↓reduceIte]
        rw [digits, Nat.add_zero] at hd
        replace hf := hf.keep [3, 6, 7, 10, 14]
        dsimp only [keep, List.filterMap, look, Nat.beq, Option.map] at hf
        rw [hd] at hf
        repeat refine seq ?_
        refine regn0 ?_
        refine tl_as hf rfl (by decide) fun a hf => ?_
        refine tl_nil ?_
        replace hf := hf.keep [3, 6, 7, 10, 14, 16]
        dsimp only [keep, List.filterMap, look, Nat.beq, Option.map] at hf
        repeat refine seq ?_
        refine blk (loopN (fun r0 a w => ∃ (k : Nat) , r0 = xs.length - k ∧ k ≤ xs.length ∧ Fr 186 a w [(3, Dv (ptE frE) (GB W Go.Mono.G0) (some F)), (6, E (I (xs.length : Nat))), (7, E (.slice (some ⟨b34, 0, none⟩) xs.length xs.length)), (10, E (.slice (some ⟨b49, 0, none⟩) xs.length xs.length)), (14, E (I (digits xs.length : Nat))), (16, E (I k))] ∧ Ext W w ∧ Blk w b34 (intsC ((List.range xs.length).map (fun b => ((1 : Nat) : Int)))) 3 ∧ Blk w b49 (boolsC ((List.range xs.length).map (fun b : Nat => isLt xs (b : Nat)))) 4) xs.length ⟨0, rfl, by omega, hf, e, B34, B49⟩ ?_)
        clear hf e; try clear B34; try clear B49
        rintro r0 a w ⟨k, rfl, hk, hf, e, B34, B49⟩
        repeat refine seq ?_
        refine regn 3 hf (by decide +kernel) ?_
        refine st (mv rfl) ?_
        refine st (mv rfl) ?_
        refine st (lss rfl rfl) ?_
        refine en fun a w e' hf => ?_
        replace e := Ext.tr e e'
        replace B34 := B34.ext e'
        replace B49 := B49.ext e'
        clear e'
        refine tl_nil ?_
        repeat refine seq ?_
        refine ifc hf rfl (fun hc => wskip ?_) (fun hc => wexit ?_)
        rotate_left
        rotate_left
        · have hlt : k < xs.length := by have := of_decide_eq_true hc; (try dsimp only at this); omega
          clear hc
          replace hf := hf.keep [3, 6, 7, 10, 14, 16]
          dsimp only [keep, List.filterMap, look, Nat.beq, Option.map] at hf
          repeat refine seq ?_
          refine blk ?_
          have hcell := ct_cells_get (f := fun b => 1) hlt
          have hdc := depth_cnt V k hlt
          have hdp := cnt_pos V hlt
          have hlc := lcnt_digits V hlt
          have hll : lcnt xs k ≤ 70 := by
            have h1 := depth_le V hlt
            have h2 : lcnt xs k ≤ ((k : Int) :: ab xs k).length := by
              unfold lcnt
              have : ∀ l : List Int, (l.map fun k => ind (isLt xs k)).sum ≤ l.length := by
                intro l
                induction l with
                | nil => simp
                | cons x l ih =>
                  have : ind (isLt xs x) ≤ 1 := by unfold ind; split <;> omega
                  simp; omega
              exact this _
            rw [List.length_cons, ← depthR_eq] at h2
            omega
          repeat refine seq ?_
          refine regn0 ?_
          refine tl_as hf rfl (by decide) fun a hf => ?_
          refine tl_nil ?_
          repeat refine seq ?_
          refine regn 1 hf (by decide +kernel) ?_
          refine st (mv rfl) ?_
          refine en fun a w e' hf => ?_
          replace e := Ext.tr e e'
          replace B34 := B34.ext e'
          replace B49 := B49.ext e'
          clear e'
          refine tl_as hf rfl (by decide) fun a hf => ?_
          refine tl_as hf rfl (by decide) fun a hf => ?_
          refine tl_nil ?_
          replace hf := hf.keep [3, 6, 7, 10, 14, 16, 17, 18, 19]
          dsimp only [keep, List.filterMap, look, Nat.beq, Option.map] at hf
          repeat refine seq ?_
          refine cut (J := fun a w => ∃ l : Nat, l = lcnt xs k ∧ Fr 186 a w [(3, Dv (ptE frE) (GB W Go.Mono.G0) (some F)), (6, E (I (xs.length : Nat))), (7, E (.slice (some ⟨b34, 0, none⟩) xs.length xs.length)), (10, E (.slice (some ⟨b49, 0, none⟩) xs.length xs.length)), (14, E (I (digits xs.length : Nat))), (16, E (I k)), (17, E (I (l : Nat)))] ∧ Ext W w ∧
            Blk w b34 (intsC ((List.range xs.length).map (fun b => ((1 : Nat) : Int)))) 3 ∧ Blk w b49 (boolsC ((List.range xs.length).map (fun b : Nat => isLt xs (b : Nat)))) 4) ?_ (fun a w hJ => ?_)
          · refine blk (loopN (fun r0 a w => ∃ (c : Int) (q l : Nat), r0 + q = xs.length + 2 ∧ ((c = -1 ∧ l = lcnt xs k) ∨ ∃ j : Nat, j < xs.length ∧ c = (j : Int) ∧ l + lcnt xs j = lcnt xs k ∧ q + depthR xs j = depthR xs k) ∧ q ≤ xs.length ∧ Fr 186 a w [(3, Dv (ptE frE) (GB W Go.Mono.G0) (some F)), (6, E (I (xs.length : Nat))), (7, E (.slice (some ⟨b34, 0, none⟩) xs.length xs.length)), (10, E (.slice (some ⟨b49, 0, none⟩) xs.length xs.length)), (14, E (I (digits xs.length : Nat))), (16, E (I k)), (17, E (I (l : Nat))), (18, E (I c)), (19, E (I (q : Nat)))] ∧ Ext W w ∧
              Blk w b34 (intsC ((List.range xs.length).map (fun b => ((1 : Nat) : Int)))) 3 ∧ Blk w b49 (boolsC ((List.range xs.length).map (fun b : Nat => isLt xs (b : Nat)))) 4) (xs.length + 2) ⟨(k : Int), 0, 0, rfl, .inr ⟨k, hlt, rfl, by omega, by omega⟩, by omega, hf, e, B34, B49⟩ ?_)
            clear hf e B34 B49
            rintro r0 a w ⟨c, q, l, hr0, hcc, hq, hf, e, B34, B49⟩
            rcases hcc with ⟨rfl, hlk⟩ | ⟨j, hj, rfl, hlj, hqj⟩
            · repeat refine seq ?_
              refine regn 7 hf (by decide +kernel) ?_
              refine st (mv rfl) ?_
              refine st ((geq rfl rfl).eq (congrArg Value.bool (show decide ((0 : Int) ≤ -1) = false from rfl))) ?_
              refine st (mv rfl) ?_
              first | refine sn rfl rfl rfl ?_ | refine su rfl rfl ?_ | refine sy rfl rfl (mv rfl) ?_
              first | refine sn rfl rfl rfl ?_ | refine su rfl rfl ?_ | refine sy rfl rfl (mv rfl) ?_
              first | refine sn rfl rfl rfl ?_ | refine su rfl rfl ?_ | refine sy rfl rfl (leq rfl rfl) ?_
              first | refine st (pkT rfl rfl) ?_ | refine st (pkF rfl rfl) ?_ | refine st (pk rfl rfl rfl) ?_
              refine en fun a w e' hf => ?_
              replace e := Ext.tr e e'
              replace B34 := B34.ext e'
              replace B49 := B49.ext e'
              clear e'
              refine tl_nil ?_
              repeat refine seq ?_
              refine ifc hf rfl (fun h => by cases h) (fun _ => ?_)
              refine wexit ?_
              simp only [Exit.then, Exit.inBlock, ↓reduceIte]
              replace hf := hf.keep [3, 6, 7, 10, 14, 16, 17]
              dsimp only [keep, List.filterMap, look, Nat.beq, Option.map] at hf
              exact ⟨trivial, l, hlk, hf, e, B34, B49⟩
            · have hbc := bt_cells_get (f := fun b : Nat => isLt xs (b : Nat)) hj
              repeat refine seq ?_
              refine regn 7 hf (by decide +kernel) ?_
              refine st (mv rfl) ?_
              refine st ((geq rfl rfl).eq (congrArg Value.bool (show decide ((0 : Int) ≤ (j : Int)) = true from decide_eq_true (by omega)))) ?_
              refine st (mv rfl) ?_
              first | refine sn rfl rfl rfl ?_ | refine su rfl rfl ?_ | refine sy rfl rfl (mv rfl) ?_
              first | refine sn rfl rfl rfl ?_ | refine su rfl rfl ?_ | refine sy rfl rfl (mv rfl) ?_
              first | refine sn rfl rfl rfl ?_ | refine su rfl rfl ?_ | refine sy rfl rfl ((leq rfl rfl).eq (congrArg Value.bool (show decide ((q : Int) ≤ (xs.length : Int)) = true from decide_eq_true (by omega)))) ?_
              first | refine st (pkT rfl rfl) ?_ | refine st (pkF rfl rfl) ?_ | refine st (pk rfl rfl rfl) ?_
              refine en fun a w e' hf => ?_
              replace e := Ext.tr e e'
              replace B34 := B34.ext e'
              replace B49 := B49.ext e'
              clear e'
              refine tl_nil ?_
              repeat refine seq ?_
              refine ifc hf rfl (fun _ => ?_) (fun h => by cases h)
              refine wskip ?_
              try simp only [Exit.then, Exit.inBlock, ↓reduceIte]
              repeat refine seq ?_
              refine blk ?_
              replace hf := hf.keep [3, 6, 7, 10, 14, 16, 17, 18, 19]
              dsimp only [keep, List.filterMap, look, Nat.beq, Option.map] at hf
              repeat refine seq ?_
              refine regn 4 hf (by decide +kernel) ?_
              refine st (mv rfl) ?_
              refine st (mv rfl) ?_
              refine st (idxS Tryd.underlying45 S4 rfl rfl (by omega)) ?_
              refine st (ld1 T4 rfl B49 hbc) ?_
              refine en fun a w e' hf => ?_
              replace e := Ext.tr e e'
              replace B34 := B34.ext e'
              replace B49 := B49.ext e'
              clear e'
              refine tl_nil ?_
              have hnx : ∀ l', l' = l + ind (isLt xs (j : Nat)) → (up xs j = -1 ∧ l' = lcnt xs k) ∨ ∃ p : Nat, p < xs.length ∧ up xs j = (p : Int) ∧ l' + lcnt xs p = lcnt xs k ∧ q + 1 + depthR xs p = depthR xs k := by
                rintro l' rfl
                rcases up_cases V hj with h | ⟨p, hp, h⟩
                · refine .inl ⟨h, ?_⟩
                  have : lcnt xs j = ind (isLt xs (j : Nat)) := by rw [lcnt, ab_root (by omega)]; simp
                  omega
                · refine .inr ⟨p, hp, h, ?_, ?_⟩
                  · have : lcnt xs j = ind (isLt xs (j : Nat)) + lcnt xs p := by rw [lcnt, (ab_step V hj h).1, List.map_cons, List.sum_cons]; rfl
                    omega
                  · have := depth_step V hj h; omega
              repeat refine seq ?_
              refine ifc hf rfl (fun hb => ?_) (fun hb => ?_)
              · repeat refine seq ?_
                refine regn 2 hf (by decide +kernel) ?_
                refine st (mv rfl) ?_
                refine st ((add rfl rfl (by omega)).eq (congrArg (Value.int .i64) (show (l : Int) + 1 = ((l + 1 : Nat) : Int) from rfl))) ?_
                refine en fun a w e' hf => ?_
                replace e := Ext.tr e e'
                replace B34 := B34.ext e'
                replace B49 := B49.ext e'
                clear e'
                refine tl_as hf rfl (by decide) fun a hf => ?_
                refine tl_nil ?_
                try simp only [Exit.then, Exit.inBlock, ↓reduceIte]
                replace hf := hf.keep [3, 6, 7, 10, 14, 16, 17, 18, 19]
                dsimp only [keep, List.filterMap, look, Nat.beq, Option.map] at hf
                repeat refine seq ?_
                refine regn 5 hf (by decide +kernel) ?_
                refine st (mv rfl) ?_
                refine st (mv rfl) ?_
                refine st ((call2 En29 rfl rfl (fun v x w he h h' => by cases h'; exact fparent_spec _ _ _ w h)).eq (congrArg (Value.int .i64) (hpar j hj))) ?_
                refine st (mv rfl) ?_
                refine st ((add rfl rfl (by omega)).eq (congrArg (Value.int .i64) (show (q : Int) + 1 = ((q + 1 : Nat) : Int) from rfl))) ?_
                refine en fun a w e' hf => ?_
                replace e := Ext.tr e e'
                replace B34 := B34.ext e'
                replace B49 := B49.ext e'
                clear e'
                refine tl_as hf rfl (by decide) fun a hf => ?_
                refine tl_as hf rfl (by decide) fun a hf => ?_
                refine tl_nil ?_
                replace hf := hf.keep [3, 6, 7, 10, 14, 16, 17, 18, 19]
                dsimp only [keep, List.filterMap, look, Nat.beq, Option.map] at hf
                have hb' : isLt xs (j : Nat) = true := hb
                exact ⟨r0 - 1, by omega, _, q + 1, l + 1, by omega, hnx (l + 1) (by rw [hb']; rfl), by omega, hf, e, B34, B49⟩
              · have hb' : isLt xs (j : Nat) = false := hb
                refine wskip ?_
                try simp only [Exit.then, Exit.inBlock, ↓reduceIte]
                replace hf := hf.keep [3, 6, 7, 10, 14, 16, 17, 18, 19]
                dsimp only [keep, List.filterMap, look, Nat.beq, Option.map] at hf
                repeat refine seq ?_
                refine regn 5 hf (by decide +kernel) ?_
                refine st (mv rfl) ?_
                refine st (mv rfl) ?_
                refine st ((call2 En29 rfl rfl (fun v x w he h h' => by cases h'; exact fparent_spec _ _ _ w h)).eq (congrArg (Value.int .i64) (hpar j hj))) ?_
                refine st (mv rfl) ?_
                refine st ((add rfl rfl (by omega)).eq (congrArg (Value.int .i64) (show (q : Int) + 1 = ((q + 1 : Nat) : Int) from rfl))) ?_
                refine en fun a w e' hf => ?_
                replace e := Ext.tr e e'
                replace B34 := B34.ext e'
                replace B49 := B49.ext e'
                clear e'
                refine tl_as hf rfl (by decide) fun a hf => ?_
                refine tl_as hf rfl (by decide) fun a hf => ?_
                refine tl_nil ?_
                replace hf := hf.keep [3, 6, 7, 10, 14, 16, 17, 18, 19]
                dsimp only [keep, List.filterMap, look, Nat.beq, Option.map] at hf
                exact ⟨r0 - 1, by omega, _, q + 1, l, by omega, hnx l (by rw [hb']; rfl), by omega, hf, e, B34, B49⟩
          clear hf e B34 B49
          obtain ⟨l, rfl, hf, e, B34, B49⟩ := hJ
          try simp only [Exit.then]
          repeat refine seq ?_
          refine regn 10 hf (by decide +kernel) ?_
          refine st (mv rfl) ?_
          refine st (mv rfl) ?_
          refine st (idxS Tryd.underlying43 S3 rfl rfl (by omega)) ?_
          refine st (ld1 T3 rfl B34 hcell) ?_
          refine st ((neq rfl rfl).eq (congrArg Value.bool (show ((((1 : Nat) : Int)) != 1) = false from rfl))) ?_
          refine st (mv rfl) ?_
          first | refine sn rfl rfl rfl ?_ | refine su rfl rfl ?_ | refine sy rfl rfl (mv rfl) ?_
          first | refine sn rfl rfl rfl ?_ | refine su rfl rfl ?_ | refine sy rfl rfl (mv rfl) ?_
          first | refine sn rfl rfl rfl ?_ | refine su rfl rfl ?_ | refine sy rfl rfl ((gtr rfl rfl).eq (congrArg Value.bool (show decide (((digits xs.length : Nat) : Int) < ((lcnt xs k : Nat) : Int)) = false from decide_eq_false (by omega)))) ?_
          first | refine st (pkT rfl rfl) ?_ | refine st (pkF rfl rfl) ?_ | refine st (pk rfl rfl rfl) ?_
          refine en fun a w e' hf => ?_
          replace e := Ext.tr e e'
          replace B34 := B34.ext e'
          replace B49 := B49.ext e'
          clear e'
          refine tl_nil ?_
          repeat refine seq ?_
          refine ifc hf rfl (fun h => by cases h) (fun _ => ?_)
          refine wskip ?_
          try simp only [Exit.then, Exit.inBlock, ↓reduceIte]
          try simp only [Exit.then, Exit.inBlock, ↓reduceIte]
          repeat refine seq ?_
          refine regn 2 hf (by decide +kernel) ?_
          refine st (mv rfl) ?_
          refine st ((add rfl rfl (by omega)).eq (congrArg (Value.int .i64) (show (k : Int) + 1 = ((k + 1 : Nat) : Int) from rfl))) ?_
          refine en fun a w e' hf => ?_
          replace e := Ext.tr e e'
          replace B34 := B34.ext e'
          replace B49 := B49.ext e'
          clear e'
          refine tl_as hf rfl (by decide) fun a hf => ?_
          refine tl_nil ?_
          replace hf := hf.keep [3, 6, 7, 10, 14, 16]
          dsimp only [keep, List.filterMap, look, Nat.beq, Option.map] at hf
          refine ⟨_, ?_, k + 1, rfl, by omega, hf, e, ?_⟩
          · omega
          exact ⟨B34, B49⟩
        · obtain rfl : k = xs.length := by have := of_decide_eq_false hc; (try dsimp only at this); omega
          clear hc
          simp only [Exit.then, Exit.inBlock, ↓reduceIte]
          repeat refine seq ?_
          refine regn 1 hf (by decide +kernel) ?_
          refine st (call0 En17 (fun w he => known_spec w (hT.ext (Ext.tr e he)))) ?_
          refine en fun a w e' hf => ?_
          replace e := Ext.tr e e'
          replace B34 := B34.ext e'
          replace B49 := B49.ext e'
          clear e'
          refine tl_as hf rfl (by decide) fun a hf => ?_
          refine tl_nil ?_
          refine wret ?_
          try simp only [Exit.then, Exit.inBlock]
          refine ret1 rfl hf rfl ?_
          rintro _ rfl
          exact ⟨_, rfl, e, rfl⟩
end Go.Mono
