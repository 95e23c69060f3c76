/-
  FrameAddLeaf, walked: it answers true.
  No condition.
-/
import Derived.Test.YtnhbkdliljcedaaDoorPlain5
set_option linter.unusedVariables false
set_option linter.unusedSimpArgs false
set_option linter.unusedVariables false
set_option linter.unusedSimpArgs false
namespace Go.Mono
open Go Go.Proofs Go.RowKit

theorem frameAdd_spec {G : Nat → Prop} (t : List (Int × BS)) (p : Int) (S : BS) (x : Value) (W : World) (hT : Tab W) (h : (Dv treeE G t).p x W) :
    Calls Tryd.prog 10 #[x, I p, setV S] W (Post (E (B true)) W) := by
  refine enter (args := [x, I p, setV S]) (As := [Dv treeE Go.Mono.G0 t, E (I p), E (setV S)]) Tryd.func10 rfl Tryd.ntmps10 (Nat.le_of_ble_eq_true rfl) ?_ (fun a hf => ?_) (Nat.le_of_ble_eq_true rfl)
  rotate_left
  dsimp only [params, Nat.reduceAdd] at hf
  rotate_right
  · exact arg3 (Dv.weak h fun b _ hb => hb.elim) rfl rfl
  have e := Ext.rfl' W
  have hT0 := hT.lt
  have hl := cutT_len t
  have htl := toT_len (cutT t)
  have hg0 : ∀ {w : World}, ∀ b, Go.Mono.G0 b → b < w.heap.size := fun b hb => hb.elim
  repeat refine seq ?_
  refine regn0 ?_
  refine tl_box hf rfl (by decide) fun a b5 w v5 hv5 e' hb5 hs5 B5 hf => ?_
  have hle5 := Nat.le_trans e.size (Nat.le_of_eq hb5.symm)
  replace hT := hT.ext e'
  replace e := Ext.tr e e'
  clear e'
  refine tl_as hf rfl (by decide) fun a hf => ?_
  refine tl_nil ?_
  cases hv5
  replace hf := hf.keep [0, 1, 5]
  dsimp only [keep, List.filterMap, look, Nat.beq, Option.map] at hf
  repeat refine seq ?_
  refine regn 6 hf (by decide +kernel) ?_
  refine st (mv rfl) ?_
  refine st (call1 En16 rfl (fun v w he h => framed_spec t v w (hT.ext he) h)) ?_
  refine st (mv rfl) ?_
  refine st (ext_ rfl rfl) ?_
  refine st (ext_ rfl rfl) ?_
  refine st (ext_ rfl rfl) ?_
  refine en fun a w e' hf => ?_
  replace hT := hT.ext e'
  replace e := Ext.tr e e'
  replace B5 := B5.ext e'
  clear e'
  refine tl_as hf rfl (by decide) fun a hf => ?_
  refine tl_as hf rfl (by decide) fun a hf => ?_
  refine tl_as hf rfl (by decide) fun a hf => ?_
  refine tl_nil ?_
  replace hf := hf.keep [1, 5, 7, 8, 9]
  dsimp only [keep, List.filterMap, look, Nat.beq, Option.map] at hf
  by_cases hn : newR (toT (cutT t)) = 0
  rotate_left
  · rw [decide_eq_false hn] at hf
    repeat refine seq ?_
    refine regn 2 hf (by decide +kernel) ?_
    refine st (mv rfl) ?_
    refine st (notp rfl) ?_
    refine en fun a w e' hf => ?_
    replace hT := hT.ext e'
    replace e := Ext.tr e e'
    replace B5 := B5.ext e'
    clear e'
    refine tl_nil ?_
    repeat refine seq ?_
    refine ifc hf rfl (fun _ => ?_) (fun h => by cases h)
    repeat refine seq ?_
    refine regn 1 hf (by decide +kernel) ?_
    refine st (call0 En17 (fun w he => known_spec w (hT.ext he))) ?_
    refine en fun a w e' hf => ?_
    replace hT := hT.ext e'
    replace e := Ext.tr e e'
    replace B5 := B5.ext e'
    clear e'
    refine tl_as hf rfl (by decide) fun a hf => ?_
    refine tl_nil ?_
    refine wret ?_
    try simp only [Exit.then, Exit.inBlock]
    refine ret1 rfl hf rfl ?_
    rintro _ rfl
    exact ⟨_, rfl, e, rfl⟩
  have V := new_vals hn
  have h4 := new_hs hn
  rw [decide_eq_true hn] at hf
  replace hf := hf.upd 7 rfl (B := Dv (ptE frE) Go.Mono.G0 (some (frM (cutT t)))) (fun v h => h.elim (·.2) (fun h => absurd hn h.1))
  replace hf := hf.keep [1, 5, 7, 8, 9]
  dsimp only [keep, List.filterMap, look, Nat.beq, Option.map] at hf
  repeat refine seq ?_
  refine regn 2 hf (by decide +kernel) ?_
  refine st (mv rfl) ?_
  refine st (notp rfl) ?_
  refine en fun a w e' hf => ?_
  replace hT := hT.ext e'
  replace e := Ext.tr e e'
  replace B5 := B5.ext e'
  clear e'
  refine tl_nil ?_
  repeat refine seq ?_
  refine ifc hf rfl (fun h => by cases h) (fun _ => ?_)
  refine wskip ?_
  try simp only [Exit.then, Exit.inBlock, ↓reduceIte]
  repeat refine seq ?_
  refine regn 2 hf (by decide +kernel) ?_
  refine st (mv rfl) ?_
  refine st (eqlP Tryd.underlying24 (isR rfl)) ?_
  refine en fun a w e' hf => ?_
  replace hT := hT.ext e'
  replace e := Ext.tr e e'
  replace B5 := B5.ext e'
  clear e'
  refine tl_nil ?_
  repeat refine seq ?_
  refine ifc hf rfl (fun h => by cases h) (fun _ => ?_)
  refine wskip ?_
  try simp only [Exit.then, Exit.inBlock, ↓reduceIte]
  obtain ⟨tt, htt⟩ : ∃ tt, tt = cutT t := ⟨_, rfl⟩
  rw [← htt] at V hf htl h4 hl hn
  have hfl : (frM tt).1.length ≤ 4096 := by show tt.length ≤ 4096; omega
  have hf1 : (frM tt).1 = tt := rfl
  have hSl : (toL S).length ≤ 4096 := by
    rw [toL_card, card]
    refine Nat.le_trans (List.countP_le_length) ?_
    simp
  have hsl : ∀ b ∈ toT tt, b.2.length ≤ 4096 := fun b hb => by
    obtain ⟨i, hi⟩ := List.mem_iff_getElem?.1 hb
    have hlt := (List.getElem?_eq_some_iff.1 hi).1
    rw [up_get hlt] at hi
    cases hi
    have := h4 i hlt
    show (hs (toT tt) i).length ≤ 4096
    omega
  replace hf := hf.keep [1, 5, 7, 8]
  dsimp only [keep, List.filterMap, look, Nat.beq, Option.map] at hf
  repeat refine seq ?_
  refine regn 7 hf (by decide +kernel) ?_
  refine st (mv rfl) ?_
  refine st (mv rfl) ?_
  refine st (ldW T37 rfl B5 rfl) ?_
  refine st (call3 En63 rfl rfl rfl (fun v u s w he h h' h'' => by cases h'; cases h''; exact fadd_spec (frM tt) p S v w (hT.ext he) h (by rw [hf1]; omega))) ?_
  refine st (mv rfl) ?_
  refine st (ext_ rfl rfl) ?_
  refine st (ext_ rfl rfl) ?_
  refine en fun a w e' hf => ?_
  replace hT := hT.ext e'
  replace e := Ext.tr e e'
  replace B5 := B5.ext e'
  clear e'
  refine tl_as hf rfl (by decide) fun a hf => ?_
  refine tl_as hf rfl (by decide) fun a hf => ?_
  refine tl_nil ?_
  replace hf := hf.keep [1, 5, 7, 8, 10, 11]
  dsimp only [keep, List.filterMap, look, Nat.beq, Option.map] at hf
  repeat refine seq ?_
  refine regn 8 hf (by decide +kernel) ?_
  refine st (mv rfl) ?_
  refine st (mv rfl) ?_
  refine st (ldW T37 rfl B5 rfl) ?_
  refine st (call1 En41 rfl (fun v w he h => by cases h; exact toL_spec (G := Go.Mono.G0) _ w hg0)) ?_
  refine st (call3 En64 rfl rfl rfl (fun v u s w he h h' h'' => by cases h'; exact attach_spec (toT tt) p (toL S) v s w h h'' (by omega) hSl h4)) ?_
  refine st (mv rfl) ?_
  refine st (ext_ rfl rfl) ?_
  refine st (ext_ rfl rfl) ?_
  refine en fun a w e' hf => ?_
  replace hT := hT.ext e'
  replace e := Ext.tr e e'
  replace B5 := B5.ext e'
  clear e'
  refine tl_as hf rfl (by decide) fun a hf => ?_
  refine tl_as hf rfl (by decide) fun a hf => ?_
  refine tl_nil ?_
  replace hf := hf.keep [7, 8, 10, 11, 12, 13]
  dsimp only [keep, List.filterMap, look, Nat.beq, Option.map] at hf
  have hca := add_att (t := tt) p S
  by_cases hc : attC (toT tt) p (toL S) = 0
  rotate_left
  · have hN : addN (frM tt) p S = attC (toT tt) p (toL S) := by rw [addN, if_neg (by rw [hca]; exact hc), hca]
    replace hf := hf.upd 10 rfl (B := E (.pointer none)) (fun v h => h.elim (fun h => absurd (hca.symm.trans h.1) hc) (·.2))
    have hnb : (attC (toT tt) p (toL S) == 0) = false := by simpa using hc
    rw [hN] at hf
    repeat refine seq ?_
    refine regn 18 hf (by decide +kernel) ?_
    refine st (mv rfl) ?_
    refine st (mv rfl) ?_
    refine st ((neq rfl rfl).eq (congrArg Value.bool (bne_self_eq_false _))) ?_
    refine st (mv rfl) ?_
    first | refine sn rfl rfl rfl ?_ | refine su rfl rfl ?_ | refine sy rfl rfl (mv rfl) ?_
    first | refine sn rfl rfl rfl ?_ | refine su rfl rfl ?_ | refine sy rfl rfl (neqP0 Tryd.underlying24 (isR rfl)) ?_
    first | refine sn rfl rfl rfl ?_ | refine su rfl rfl ?_ | refine sy rfl rfl (mv rfl) ?_
    first | refine sn rfl rfl rfl ?_ | refine su rfl rfl ?_ | refine sy rfl rfl ((eql rfl rfl).eq (congrArg Value.bool (hnb))) ?_
    first | refine sn rfl rfl rfl ?_ | refine su rfl rfl ?_ | refine sy rfl rfl ((neqB Tryd.underlying4 rfl rfl).eq (congrArg Value.bool (show (false != false) = false from rfl))) ?_
    first | refine st (pkT rfl rfl) ?_ | refine st (pkF rfl rfl) ?_ | refine st (pk rfl rfl rfl) ?_
    refine st (mv rfl) ?_
    first | refine sn rfl rfl rfl ?_ | refine su rfl rfl ?_ | refine sy rfl rfl (mv rfl) ?_
    first | refine sn rfl rfl rfl ?_ | refine su rfl rfl ?_ | refine sy rfl rfl (call1 (A := Dv treeE Go.Mono.G0 tt) En36 rfl (fun v w he h => postG (G := Go.Mono.G0) (fbags_spec (frM tt) v w h hfl) hg0)) ?_
    first | refine sn rfl rfl rfl ?_ | refine su rfl rfl ?_ | refine sy rfl rfl (call1 (A := Dv rtE Go.Mono.G0 (toT tt)) En31 rfl (fun v w he h => toT_spec tt v w h hg0 (by omega))) ?_
    first | refine sn rfl rfl rfl ?_ | refine su rfl rfl ?_ | refine sy rfl rfl (mv rfl) ?_
    first | refine sn rfl rfl rfl ?_ | refine su rfl rfl ?_ | refine sy rfl rfl ((call2 En35 rfl rfl (fun v u w he h h' => sameT_spec (toT tt) (toT tt) v u w h h' (by omega) (by omega) hsl hsl)).eq (congrArg Value.bool (decide_eq_true ⟨rfl, fun i _ => ⟨rfl, cmpL_self _⟩⟩))) ?_
    first | refine sn rfl rfl rfl ?_ | refine su rfl rfl ?_ | refine sy rfl rfl (notp rfl) ?_
    first | refine st (pkT rfl rfl) ?_ | refine st (pkF rfl rfl) ?_ | refine st (pk rfl rfl rfl) ?_
    refine en fun a w e' hf => ?_
    replace hT := hT.ext e'
    replace e := Ext.tr e e'
    replace B5 := B5.ext e'
    clear e'
    refine tl_nil ?_
    repeat refine seq ?_
    refine ifc hf rfl (fun h => by cases h) (fun _ => ?_)
    refine wskip ?_
    try simp only [Exit.then, Exit.inBlock, ↓reduceIte]
    replace hf := hf.keep [13]
    dsimp only [keep, List.filterMap, look, Nat.beq, Option.map] at hf
    repeat refine seq ?_
    refine regn 2 hf (by decide +kernel) ?_
    refine st (mv rfl) ?_
    refine st ((neq rfl rfl).eq (congrArg Value.bool (show (attC (toT tt) p (toL S) != 0) = true from by rw [bne, hnb]; rfl))) ?_
    refine en fun a w e' hf => ?_
    replace hT := hT.ext e'
    replace e := Ext.tr e e'
    replace B5 := B5.ext e'
    clear e'
    refine tl_nil ?_
    repeat refine seq ?_
    refine ifc hf rfl (fun _ => ?_) (fun h => by cases h)
    repeat refine seq ?_
    refine regn 1 hf (by decide +kernel) ?_
    refine st (call0 En17 (fun w he => known_spec w (hT.ext he))) ?_
    refine en fun a w e' hf => ?_
    replace hT := hT.ext e'
    replace e := Ext.tr e e'
    replace B5 := B5.ext e'
    clear e'
    refine tl_as hf rfl (by decide) fun a hf => ?_
    refine tl_nil ?_
    refine wret ?_
    try simp only [Exit.then, Exit.inBlock]
    refine ret1 rfl hf rfl ?_
    rintro _ rfl
    exact ⟨_, rfl, e, rfl⟩
  obtain ⟨hnew, hp0, hp1⟩ := add_new hn hc
  have hN : addN (frM tt) p S = 0 := by rw [addN, if_pos (hca.trans hc)]; exact hnew
  rw [hN, hc] at hf
  obtain ⟨t2, ht2⟩ : ∃ t2, t2 = tt ++ [(p, S)] := ⟨_, rfl⟩
  have ht2l : t2.length = tt.length + 1 := by rw [ht2]; simp
  have hx2 : toT tt ++ [(p, toL S)] = toT t2 := by rw [ht2, toT_app]
  have hnew2 : newR (toT t2) = 0 := by rw [ht2]; exact hnew
  replace hf := hf.upd 10 rfl (B := Dv (ptE frE) Go.Mono.G0 (some (frM t2))) (fun v h => h.elim (fun h => h.2.elim (fun h => by rw [ht2]; exact h.2) (fun h => absurd hnew h.1)) (fun h => absurd (hca.trans hc) h.1))
  replace hf := hf.upd 12 rfl (B := Dv rtE Go.Mono.G0 (toT t2)) (fun v h => by have := h.1 hc; rwa [hx2] at this)
  replace hf := hf.keep [7, 8, 10, 11, 12, 13]
  dsimp only [keep, List.filterMap, look, Nat.beq, Option.map] at hf
  repeat refine seq ?_
  refine regn 18 hf (by decide +kernel) ?_
  refine st (mv rfl) ?_
  refine st (mv rfl) ?_
  refine st ((neq rfl rfl).eq (congrArg Value.bool (show ((0 : Int) != 0) = false from rfl))) ?_
  refine st (mv rfl) ?_
  first | refine sn rfl rfl rfl ?_ | refine su rfl rfl ?_ | refine sy rfl rfl (mv rfl) ?_
  first | refine sn rfl rfl rfl ?_ | refine su rfl rfl ?_ | refine sy rfl rfl (neqP Tryd.underlying24 (isR rfl)) ?_
  first | refine sn rfl rfl rfl ?_ | refine su rfl rfl ?_ | refine sy rfl rfl (mv rfl) ?_
  first | refine sn rfl rfl rfl ?_ | refine su rfl rfl ?_ | refine sy rfl rfl ((eql rfl rfl).eq (congrArg Value.bool (show ((0 : Int) == 0) = true from rfl))) ?_
  first | refine sn rfl rfl rfl ?_ | refine su rfl rfl ?_ | refine sy rfl rfl ((neqB Tryd.underlying4 rfl rfl).eq (congrArg Value.bool (show (true != true) = false from rfl))) ?_
  first | refine st (pkT rfl rfl) ?_ | refine st (pkF rfl rfl) ?_ | refine st (pk rfl rfl rfl) ?_
  refine st (mv rfl) ?_
  first | refine sn rfl rfl rfl ?_ | refine su rfl rfl ?_ | refine sy rfl rfl (mv rfl) ?_
  first | refine sn rfl rfl rfl ?_ | refine su rfl rfl ?_ | refine sy rfl rfl (call1 (A := Dv treeE Go.Mono.G0 tt) En36 rfl (fun v w he h => postG (G := Go.Mono.G0) (fbags_spec (frM tt) v w h hfl) hg0)) ?_
  first | refine sn rfl rfl rfl ?_ | refine su rfl rfl ?_ | refine sy rfl rfl (call1 (A := Dv rtE Go.Mono.G0 (toT tt)) En31 rfl (fun v w he h => toT_spec tt v w h hg0 (by omega))) ?_
  first | refine sn rfl rfl rfl ?_ | refine su rfl rfl ?_ | refine sy rfl rfl (mv rfl) ?_
  first | refine sn rfl rfl rfl ?_ | refine su rfl rfl ?_ | refine sy rfl rfl ((call2 En35 rfl rfl (fun v u w he h h' => sameT_spec (toT tt) (toT tt) v u w h h' (by omega) (by omega) hsl hsl)).eq (congrArg Value.bool (decide_eq_true ⟨rfl, fun i _ => ⟨rfl, cmpL_self _⟩⟩))) ?_
  first | refine sn rfl rfl rfl ?_ | refine su rfl rfl ?_ | refine sy rfl rfl (notp rfl) ?_
  first | refine st (pkT rfl rfl) ?_ | refine st (pkF rfl rfl) ?_ | refine st (pk rfl rfl rfl) ?_
  refine en fun a w e' hf => ?_
  replace hT := hT.ext e'
  replace e := Ext.tr e e'
  replace B5 := B5.ext e'
  clear e'
  refine tl_nil ?_
  repeat refine seq ?_
  refine ifc hf rfl (fun h => by cases h) (fun _ => ?_)
  refine wskip ?_
  try simp only [Exit.then, Exit.inBlock, ↓reduceIte]
  replace hf := hf.keep [7, 10, 12, 13]
  dsimp only [keep, List.filterMap, look, Nat.beq, Option.map] at hf
  repeat refine seq ?_
  refine regn 2 hf (by decide +kernel) ?_
  refine st (mv rfl) ?_
  refine st ((neq rfl rfl).eq (congrArg Value.bool (show ((0 : Int) != 0) = false from rfl))) ?_
  refine en fun a w e' hf => ?_
  replace hT := hT.ext e'
  replace e := Ext.tr e e'
  replace B5 := B5.ext e'
  clear e'
  refine tl_nil ?_
  repeat refine seq ?_
  refine ifc hf rfl (fun h => by cases h) (fun _ => ?_)
  refine wskip ?_
  try simp only [Exit.then, Exit.inBlock, ↓reduceIte]
  have hxl2 : (toT t2).length = t2.length := toT_len t2
  have h42 := new_hs hnew2
  have V2 := new_vals hnew2
  have hsl2 : ∀ b ∈ toT t2, b.2.length ≤ 4096 := fun b hb => by
    obtain ⟨i, hi⟩ := List.mem_iff_getElem?.1 hb
    have hlt := (List.getElem?_eq_some_iff.1 hi).1
    rw [up_get hlt] at hi
    cases hi
    have := h42 i hlt
    show (hs (toT t2) i).length ≤ 4096
    omega
  have hfl2 : (frM t2).1.length ≤ 4096 := by show t2.length ≤ 4096; omega
  have hrg : ∀ i, i < tt.length → (bg tt i).1 < tt.length := fun i hi => by
    have := V.range i (by omega)
    rw [toT_up hi, htl] at this
    exact this.2
  have hdet : detM t2 tt.length = tt := by rw [ht2]; exact det_app hrg _
  have hkid : (ofF (frM t2) ((tt.length : Nat) : Int)).1 = [] := by
    rw [fm_nd (by omega)]
    show kids (toT t2) ((tt.length : Nat) : Int) = []
    rw [← hx2, ← htl]
    exact kids_new (fun i hi => by have := V.range i hi; omega) (by omega) _
  have hbn : (bg t2 tt.length).1 = p := by rw [ht2, bg_new]
  have hf2 : (frM t2).1 = t2 := rfl
  repeat refine seq ?_
  refine regn 8 hf (by decide +kernel) ?_
  refine st (mv rfl) ?_
  refine st (mv rfl) ?_
  refine st (call1 En25 rfl (fun v w he h => flen_spec (frM t2) v w h hfl2)) ?_
  refine st ((sub rfl rfl (by omega)).eq (congrArg (Value.int .i64) (show (((frM t2).1.length : Nat) : Int) - 1 = ((tt.length : Nat) : Int) from by rw [hf2]; omega))) ?_
  refine st (call2 En65 rfl rfl (fun v u w he h h' => by cases h'; exact fremove_ok (frM t2) tt.length v w (hT.ext he) h (by rw [hf2]; omega) (frM_len t2) (by rw [hf2]; omega) (by rw [hf2, hbn]; exact hp0) hkid)) ?_
  refine st (mv rfl) ?_
  refine st (ext_ rfl rfl) ?_
  refine st (ext_ rfl rfl) ?_
  refine en fun a w e' hf => ?_
  replace hT := hT.ext e'
  replace e := Ext.tr e e'
  replace B5 := B5.ext e'
  clear e'
  refine tl_as hf rfl (by decide) fun a hf => ?_
  refine tl_as hf rfl (by decide) fun a hf => ?_
  refine tl_nil ?_
  rw [show newR (toT (detM (frM t2).1 tt.length)) = 0 from by rw [hf2, hdet]; exact hn] at hf
  replace hf := hf.upd 14 rfl (B := Dv (ptE frE) Go.Mono.G0 (some (frM tt))) (fun v h => by
    have h : (NewA (detM t2 tt.length) Go.Mono.G0).p v _ := h
    rw [hdet] at h
    exact h.elim (·.2) (fun h => absurd hn h.1))
  replace hf := hf.keep [7, 10, 12, 14, 15]
  dsimp only [keep, List.filterMap, look, Nat.beq, Option.map] at hf
  repeat refine seq ?_
  refine regn 22 hf (by decide +kernel) ?_
  refine st (call0 En17 (fun w he => known_spec w (hT.ext he))) ?_
  refine st (mv rfl) ?_
  first | refine sn rfl rfl rfl ?_ | refine su rfl rfl ?_ | refine sy rfl rfl (mv rfl) ?_
  first | refine sn rfl rfl rfl ?_ | refine su rfl rfl ?_ | refine sy rfl rfl (call1 (A := Dv treeE Go.Mono.G0 t2) En36 rfl (fun v w he h => postG (G := Go.Mono.G0) (fbags_spec (frM t2) v w h hfl2) hg0)) ?_
  first | refine sn rfl rfl rfl ?_ | refine su rfl rfl ?_ | refine sy rfl rfl (call1 (A := Dv rtE Go.Mono.G0 (toT t2)) En31 rfl (fun v w he h => toT_spec t2 v w h hg0 (by omega))) ?_
  first | refine sn rfl rfl rfl ?_ | refine su rfl rfl ?_ | refine sy rfl rfl (mv rfl) ?_
  first | refine sn rfl rfl rfl ?_ | refine su rfl rfl ?_ | refine sy rfl rfl ((call2 En35 rfl rfl (fun v u w he h h' => sameT_spec (toT t2) (toT t2) v u w h h' (by omega) (by omega) hsl2 hsl2)).eq (congrArg Value.bool (decide_eq_true ⟨rfl, fun i _ => ⟨rfl, cmpL_self _⟩⟩))) ?_
  first | refine st (pkT rfl rfl) ?_ | refine st (pkF rfl rfl) ?_ | refine st (pk rfl rfl rfl) ?_
  refine st (mv rfl) ?_
  first | refine sn rfl rfl rfl ?_ | refine su rfl rfl ?_ | refine sy rfl rfl (mv rfl) ?_
  first | refine sn rfl rfl rfl ?_ | refine su rfl rfl ?_ | refine sy rfl rfl ((call1 En33 rfl (fun v w he h => newR_spec (toT t2) v w h (by omega) (fun i _ => Nat.le_trans (hs_le t2 i) (by decide)))).eq (congrArg (Value.int .i64) hnew2)) ?_
  first | refine sn rfl rfl rfl ?_ | refine su rfl rfl ?_ | refine sy rfl rfl ((eql rfl rfl).eq (congrArg Value.bool (show ((0 : Int) == 0) = true from rfl))) ?_
  first | refine st (pkT rfl rfl) ?_ | refine st (pkF rfl rfl) ?_ | refine st (pk rfl rfl rfl) ?_
  refine st (mv rfl) ?_
  first | refine sn rfl rfl rfl ?_ | refine su rfl rfl ?_ | refine sy rfl rfl (mv rfl) ?_
  first | refine sn rfl rfl rfl ?_ | refine su rfl rfl ?_ | refine sy rfl rfl ((eql rfl rfl).eq (congrArg Value.bool (show ((0 : Int) == 0) = true from rfl))) ?_
  first | refine st (pkT rfl rfl) ?_ | refine st (pkF rfl rfl) ?_ | refine st (pk rfl rfl rfl) ?_
  refine st (mv rfl) ?_
  first | refine sn rfl rfl rfl ?_ | refine su rfl rfl ?_ | refine sy rfl rfl (mv rfl) ?_
  first | refine sn rfl rfl rfl ?_ | refine su rfl rfl ?_ | refine sy rfl rfl (mv rfl) ?_
  first | refine sn rfl rfl rfl ?_ | refine su rfl rfl ?_ | refine sy rfl rfl ((call2 En66 rfl rfl (fun v u w he h h' => fEqual_spec (frM tt) (frM tt) v u w h h' hfl)).eq (congrArg Value.bool (decide_eq_true rfl))) ?_
  first | refine st (pkT rfl rfl) ?_ | refine st (pkF rfl rfl) ?_ | refine st (pk rfl rfl rfl) ?_
  refine en fun a w e' hf => ?_
  replace hT := hT.ext e'
  replace e := Ext.tr e e'
  replace B5 := B5.ext e'
  clear e'
  refine tl_as hf rfl (by decide) fun a hf => ?_
  refine tl_nil ?_
  refine wret ?_
  try simp only [Exit.then, Exit.inBlock]
  refine ret1 rfl hf rfl ?_
  rintro _ rfl
  exact ⟨_, rfl, e, rfl⟩
end Go.Mono
