/-
  A leaf attached: the reference's Attach and the program's AddLeaf, walked.
  No condition.
-/
import Derived.Test.YtnhbkdliljcedaaDoorRemove
set_option linter.unusedVariables false
set_option linter.unusedSimpArgs false
set_option linter.unusedVariables false
set_option linter.unusedSimpArgs false
namespace Go.Mono
open Go Go.Proofs Go.RowKit

/-- what Attach refuses -/
def attC (xs : List RB) (p : Int) (l : List Int) : Int :=
  if isR45 xs p = false then 9 else if 1024 ≤ xs.length then 2 else if 4 < l.length then 14 else if l.any (fun x => hasL (idsR xs) x && !hasL (hs xs p.toNat) x) then 7 else 0
def AttA (xs : List RB) (p : Int) (l : List Int) (G : Nat → Prop) : VA := ⟨fun v w => (attC xs p l = 0 → (Dv rtE G (xs ++ [(p, l)])).p v w) ∧ (attC xs p l ≠ 0 → v = .slice none 0 0), fun v w w' e h => ⟨fun hc => Dv.ex (h.1 hc) e, h.2⟩⟩

theorem attach_spec {G : Nat → Prop} (xs : List RB) (p : Int) (l : List Int) (v u : Value) (W : World) (h : (Dv rtE G xs).p v W) (h' : (Dv (slE intE) G l).p u W) (hl : xs.length ≤ 1000) (hl2 : l.length ≤ 4096) (h4 : ∀ i, i < xs.length → (hs xs i).length ≤ 4) :
    Calls Tryd.prog 64 #[v, I p, u] W (Post (Tup [AttA xs p l Go.Mono.G0, E (I (attC xs p l))]) W) := by
  have hil : (idsR xs).length ≤ 4096 := by
    have := idsTo_len h4 xs.length (Nat.le_refl _)
    rw [List.take_length] at this
    show (xs.foldl (fun out b => b.2.foldl withL out) []).length ≤ 4096
    omega
  refine enter (args := [v, I p, u]) (As := [Dv rtE (GB W Go.Mono.G0) xs, E (I p), Dv (slE intE) (GB W Go.Mono.G0) l]) Tryd.func64 rfl Tryd.ntmps64 (Nat.le_of_ble_eq_true rfl) ?_ (fun a hf => ?_) (Nat.le_of_ble_eq_true rfl)
  rotate_left
  dsimp only [params, Nat.reduceAdd] at hf
  rotate_right
  · exact arg3 (Dv.toB (Dv.weak h fun b _ hb => hb.elim)) rfl (Dv.toB (Dv.weak h' fun b _ hb => hb.elim))
  have e := Ext.rfl' W
  repeat refine seq ?_
  refine regn0 ?_
  refine tl_as hf rfl (by decide) fun a hf => ?_
  refine tl_as hf rfl (by decide) fun a hf => ?_
  refine tl_nil ?_
  repeat refine seq ?_
  refine regn 4 hf (by decide +kernel) ?_
  refine st (mv rfl) ?_
  refine st (mv rfl) ?_
  refine st (call2 En48 rfl rfl (fun v u w he h h' => by cases h'; exact isR_spec xs _ _ w h)) ?_
  refine st (notp rfl) ?_
  refine en fun a w e' hf => ?_
  replace e := Ext.tr e e'
  clear e'
  refine tl_nil ?_
  repeat refine seq ?_
  refine ifc hf rfl (fun hb => ?_) (fun hb => ?_)
  · have hb' : isR45 xs p = false := by simpa using hb
    have hc : attC xs p l = 9 := by rw [attC, if_pos hb']
    repeat refine seq ?_
    refine regn0 ?_
    refine tl_as hf rfl (by decide) fun a hf => ?_
    refine tl_as hf rfl (by decide) fun a hf => ?_
    refine tl_nil ?_
    refine wret (ret2 rfl hf rfl rfl ?_)
    rintro _ _ rfl rfl
    exact ⟨_, rfl, e, by rw [hc]; exact Tup.two ⟨fun h => absurd (hc.symm.trans h) (by decide), fun _ => rfl⟩ rfl⟩
  have hi : isR45 xs p = true := by simpa using hb
  have hi2 : p.toNat < xs.length := by simp [isR45] at hi; omega
  have hi3 : p = (p.toNat : Int) := by simp [isR45] at hi; omega
  clear hb
  refine wskip ?_
  try simp only [Exit.then, Exit.inBlock, ↓reduceIte]
  repeat refine seq ?_
  refine regn 3 hf (by decide +kernel) ?_
  refine st (mv rfl) ?_
  refine st (lenD Tryd.underlying26 (isR rfl)) ?_
  refine st ((geq rfl rfl).eq (congrArg Value.bool (decide_eq_false (by omega)))) ?_
  refine en fun a w e' hf => ?_
  replace e := Ext.tr e e'
  clear e'
  refine tl_nil ?_
  repeat refine seq ?_
  refine ifc hf rfl (fun h => by cases h) (fun _ => ?_)
  refine wskip ?_
  try simp only [Exit.then, Exit.inBlock, ↓reduceIte]
  repeat refine seq ?_
  refine regn 3 hf (by decide +kernel) ?_
  refine st (mv rfl) ?_
  refine st (lenD Tryd.underlying57 (isR rfl)) ?_
  refine st (gtr rfl rfl) ?_
  refine en fun a w e' hf => ?_
  replace e := Ext.tr e e'
  clear e'
  refine tl_nil ?_
  repeat refine seq ?_
  refine ifc hf rfl (fun hb => ?_) (fun hb => ?_)
  · have hb' : 4 < l.length := by have := of_decide_eq_true hb; omega
    have hc : attC xs p l = 14 := by rw [attC, if_neg (by simp [hi]), if_neg (by omega), if_pos hb']
    repeat refine seq ?_
    refine regn0 ?_
    refine tl_as hf rfl (by decide) fun a hf => ?_
    refine tl_as hf rfl (by decide) fun a hf => ?_
    refine tl_nil ?_
    refine wret (ret2 rfl hf rfl rfl ?_)
    rintro _ _ rfl rfl
    exact ⟨_, rfl, e, by rw [hc]; exact Tup.two ⟨fun h => absurd (hc.symm.trans h) (by decide), fun _ => rfl⟩ rfl⟩
  have h4l : ¬ 4 < l.length := by have := of_decide_eq_false hb; omega
  have hcc : attC xs p l = if l.any (fun x => hasL (idsR xs) x && !hasL (hs xs p.toNat) x) then 7 else 0 := by rw [attC, if_neg (by simp [hi]), if_neg (by omega), if_neg h4l]
  clear hb
  refine wskip ?_
  try simp only [Exit.then, Exit.inBlock, ↓reduceIte]
  repeat refine seq ?_
  refine regn 2 hf (by decide +kernel) ?_
  refine st (mv rfl) ?_
  refine st (call1 En39 rfl (fun v w he h => idsR_spec (G := Go.Mono.G0) xs v w (Dv.weak h fun b _ hb => hb.elim) (fun b hb => hb.elim) hl h4)) ?_
  refine en fun a w e' hf => ?_
  replace e := Ext.tr e e'
  clear e'
  refine tl_as hf rfl (by decide) fun a hf => ?_
  refine tl_nil ?_
  repeat refine seq ?_
  refine regn0 ?_
  refine tl_as hf rfl (by decide) fun a hf => ?_
  refine tl_nil ?_
  replace hf := hf.keep [0, 1, 2, 8, 9]
  dsimp only [keep, List.filterMap, look, Nat.beq, Option.map] at hf
  repeat refine seq ?_
  refine blk (loopN (fun r0 a w => ∃ (k : Nat) , r0 = l.length - k ∧ k ≤ l.length ∧ Fr 55 a w [(0, Dv rtE (GB W Go.Mono.G0) xs), (1, E (I p)), (2, Dv (slE intE) (GB W Go.Mono.G0) l), (8, Dv (slE intE) Go.Mono.G0 (idsR xs)), (9, E (I k))] ∧ Ext W w ∧ (l.take k).any (fun x => hasL (idsR xs) x && !hasL (hs xs p.toNat) x) = false) l.length ⟨0, rfl, by omega, hf, e, rfl⟩ ?_)
  clear hf e; try clear Ho
  rintro r0 a w ⟨k, rfl, hk, hf, e, Ho⟩
  repeat refine seq ?_
  refine regn 4 hf (by decide +kernel) ?_
  refine st (mv rfl) ?_
  refine st (mv rfl) ?_
  refine st (lenD Tryd.underlying57 (isR rfl)) ?_
  refine st (lss rfl rfl) ?_
  refine en fun a w e' hf => ?_
  replace e := Ext.tr e e'
  clear e'
  refine tl_nil ?_
  repeat refine seq ?_
  refine ifc hf rfl (fun hc => wskip ?_) (fun hc => wexit ?_)
  rotate_left
  rotate_left
  · have hlt : k < l.length := by have := of_decide_eq_true hc; (try dsimp only at this); omega
    clear hc
    replace hf := hf.keep [0, 1, 2, 8, 9]
    dsimp only [keep, List.filterMap, look, Nat.beq, Option.map] at hf
    repeat refine seq ?_
    refine blk ?_
    have hx := gi_get hlt
    have hu := up_get hi2
    have hsz4 := h4 _ hi2
    cases h1 : hasL (idsR xs) (gi l k)
    · repeat refine seq ?_
      refine reg 19 Mix.mix hf (by decide +kernel) ?_
      refine st (mv rfl) ?_
      refine st (mv rfl) ?_
      refine st (mv rfl) ?_
      refine st (idxD Tryd.underlying57 S3 (isR rfl) rfl (by omega) (hx)) ?_
      refine st (ldI T3 (isR rfl)) ?_
      refine st ((call2 En84 rfl rfl (fun v u w he h h' => by cases h'; exact hasL_spec _ _ _ w h hil)).eq (congrArg Value.bool (h1))) ?_
      refine st (mv rfl) ?_
      first | refine sn rfl rfl rfl ?_ | refine su rfl rfl ?_ | refine sy rfl rfl (mv rfl) ?_
      first | refine sn rfl rfl rfl ?_ | refine su rfl rfl ?_ | refine sy rfl rfl (mv rfl) ?_
      first | refine sn rfl rfl rfl ?_ | refine su rfl rfl ?_ | refine sy rfl rfl (idxD Tryd.underlying26 S60 (isR rfl) rfl (by omega) (by assumption)) ?_
      first | refine sn rfl rfl rfl ?_ | refine su rfl rfl ?_ | refine sy rfl rfl (fldD Tryd.underlying60 rfl T57 (by decide) (Fld.snd Fld.refl rfl) (isR rfl)) ?_
      first | refine sn rfl rfl rfl ?_ | refine su rfl rfl ?_ | refine sy rfl rfl (ldD T57 (isR rfl)) ?_
      first | refine sn rfl rfl rfl ?_ | refine su rfl rfl ?_ | refine sy rfl rfl (mv rfl) ?_
      first | refine sn rfl rfl rfl ?_ | refine su rfl rfl ?_ | refine sy rfl rfl (mv rfl) ?_
      first | refine sn rfl rfl rfl ?_ | refine su rfl rfl ?_ | refine sy rfl rfl (idxD Tryd.underlying57 S3 (isR rfl) rfl (by omega) (by assumption)) ?_
      first | refine sn rfl rfl rfl ?_ | refine su rfl rfl ?_ | refine sy rfl rfl (ldI T3 (isR rfl)) ?_
      first | refine sn rfl rfl rfl ?_ | refine su rfl rfl ?_ | refine sy rfl rfl (TODO_call) ?_
      first | refine sn rfl rfl rfl ?_ | refine su rfl rfl ?_ | refine sy rfl rfl (notp rfl) ?_
      first | refine st (pkT rfl rfl) ?_ | refine st (pkF rfl rfl) ?_ | refine st (pk rfl rfl rfl) ?_
      refine en fun a w e' hf => ?_
      replace e := Ext.tr e e'
      clear e'
      refine tl_nil ?_
      repeat refine seq ?_
      refine ifc hf rfl (fun h => by cases h) (fun _ => ?_)
      refine wskip ?_
      try simp only [Exit.then, Exit.inBlock, ↓reduceIte]
      try simp only [Exit.then, Exit.inBlock, ↓reduceIte]
      repeat refine seq ?_
      refine regn 2 hf (by decide +kernel) ?_
      refine st (mv rfl) ?_
      refine st ((add rfl rfl (by omega)).eq (congrArg (Value.int .i64) (show (k : Int) + 1 = ((k + 1 : Nat) : Int) from rfl))) ?_
      refine en fun a w e' hf => ?_
      replace e := Ext.tr e e'
      clear e'
      refine tl_as hf rfl (by decide) fun a hf => ?_
      refine tl_nil ?_
      replace hf := hf.keep [0, 1, 2, 8, 9]
      dsimp only [keep, List.filterMap, look, Nat.beq, Option.map] at hf
      refine ⟨_, ?_, k + 1, rfl, by omega, hf, e, ?_⟩
      · omega
      rw [take_succ_get hx, List.any_append, Ho]; simp [h1]
    · cases h2 : hasL (hs xs p.toNat) (gi l k)
      · repeat refine seq ?_
        refine reg 19 Mix.mix hf (by decide +kernel) ?_
        refine st (mv rfl) ?_
        refine st (mv rfl) ?_
        refine st (mv rfl) ?_
        refine st (idxD Tryd.underlying57 S3 (isR rfl) rfl (by omega) (hx)) ?_
        refine st (ldI T3 (isR rfl)) ?_
        refine st ((call2 En84 rfl rfl (fun v u w he h h' => by cases h'; exact hasL_spec _ _ _ w h hil)).eq (congrArg Value.bool (h1))) ?_
        refine st (mv rfl) ?_
        first | refine sn rfl rfl rfl ?_ | refine su rfl rfl ?_ | refine sy rfl rfl (mv rfl) ?_
        first | refine sn rfl rfl rfl ?_ | refine su rfl rfl ?_ | refine sy rfl rfl (mv rfl) ?_
        first | refine sn rfl rfl rfl ?_ | refine su rfl rfl ?_ | refine sy rfl rfl (idxD Tryd.underlying26 S60 (isR rfl) rfl (by omega) (hu)) ?_
        first | refine sn rfl rfl rfl ?_ | refine su rfl rfl ?_ | refine sy rfl rfl (fldD Tryd.underlying60 rfl T57 (by decide) (Fld.snd Fld.refl rfl) (isR rfl)) ?_
        first | refine sn rfl rfl rfl ?_ | refine su rfl rfl ?_ | refine sy rfl rfl (ldD T57 (isR rfl)) ?_
        first | refine sn rfl rfl rfl ?_ | refine su rfl rfl ?_ | refine sy rfl rfl (mv rfl) ?_
        first | refine sn rfl rfl rfl ?_ | refine su rfl rfl ?_ | refine sy rfl rfl (mv rfl) ?_
        first | refine sn rfl rfl rfl ?_ | refine su rfl rfl ?_ | refine sy rfl rfl (idxD Tryd.underlying57 S3 (isR rfl) rfl (by omega) (hx)) ?_
        first | refine sn rfl rfl rfl ?_ | refine su rfl rfl ?_ | refine sy rfl rfl (ldI T3 (isR rfl)) ?_
        first | refine sn rfl rfl rfl ?_ | refine su rfl rfl ?_ | refine sy rfl rfl ((call2 En84 rfl rfl (fun v u w he h h' => by cases h'; exact hasL_spec _ _ _ w h (by omega))).eq (congrArg Value.bool (h2))) ?_
        first | refine sn rfl rfl rfl ?_ | refine su rfl rfl ?_ | refine sy rfl rfl (notp rfl) ?_
        first | refine st (pkT rfl rfl) ?_ | refine st (pkF rfl rfl) ?_ | refine st (pk rfl rfl rfl) ?_
        refine en fun a w e' hf => ?_
        replace e := Ext.tr e e'
        clear e'
        refine tl_nil ?_
        repeat refine seq ?_
        refine ifc hf rfl (fun _ => ?_) (fun h => by cases h)
        have hc : attC xs p l = 7 := by
          rw [hcc, if_pos]
          rw [List.any_eq_true]
          exact ⟨gi l k, List.mem_of_getElem? hx, by rw [h1, h2]; rfl⟩
        repeat refine seq ?_
        refine regn0 ?_
        refine tl_as hf rfl (by decide) fun a hf => ?_
        refine tl_as hf rfl (by decide) fun a hf => ?_
        refine tl_nil ?_
        refine wret (ret2 rfl hf rfl rfl ?_)
        rintro _ _ rfl rfl
        exact ⟨_, rfl, e, by rw [hc]; exact Tup.two ⟨fun h => absurd (hc.symm.trans h) (by decide), fun _ => rfl⟩ rfl⟩
      · repeat refine seq ?_
        refine reg 19 Mix.mix hf (by decide +kernel) ?_
        refine st (mv rfl) ?_
        refine st (mv rfl) ?_
        refine st (mv rfl) ?_
        refine st (idxD Tryd.underlying57 S3 (isR rfl) rfl (by omega) (hx)) ?_
        refine st (ldI T3 (isR rfl)) ?_
        refine st ((call2 En84 rfl rfl (fun v u w he h h' => by cases h'; exact hasL_spec _ _ _ w h hil)).eq (congrArg Value.bool (h1))) ?_
        refine st (mv rfl) ?_
        first | refine sn rfl rfl rfl ?_ | refine su rfl rfl ?_ | refine sy rfl rfl (mv rfl) ?_
        first | refine sn rfl rfl rfl ?_ | refine su rfl rfl ?_ | refine sy rfl rfl (mv rfl) ?_
        first | refine sn rfl rfl rfl ?_ | refine su rfl rfl ?_ | refine sy rfl rfl (idxD Tryd.underlying26 S60 (isR rfl) rfl (by omega) (hu)) ?_
        first | refine sn rfl rfl rfl ?_ | refine su rfl rfl ?_ | refine sy rfl rfl (fldD Tryd.underlying60 rfl T57 (by decide) (Fld.snd Fld.refl rfl) (isR rfl)) ?_
        first | refine sn rfl rfl rfl ?_ | refine su rfl rfl ?_ | refine sy rfl rfl (ldD T57 (isR rfl)) ?_
        first | refine sn rfl rfl rfl ?_ | refine su rfl rfl ?_ | refine sy rfl rfl (mv rfl) ?_
        first | refine sn rfl rfl rfl ?_ | refine su rfl rfl ?_ | refine sy rfl rfl (mv rfl) ?_
        first | refine sn rfl rfl rfl ?_ | refine su rfl rfl ?_ | refine sy rfl rfl (idxD Tryd.underlying57 S3 (isR rfl) rfl (by omega) (hx)) ?_
        first | refine sn rfl rfl rfl ?_ | refine su rfl rfl ?_ | refine sy rfl rfl (ldI T3 (isR rfl)) ?_
        first | refine sn rfl rfl rfl ?_ | refine su rfl rfl ?_ | refine sy rfl rfl ((call2 En84 rfl rfl (fun v u w he h h' => by cases h'; exact hasL_spec _ _ _ w h (by omega))).eq (congrArg Value.bool (h2))) ?_
        first | refine sn rfl rfl rfl ?_ | refine su rfl rfl ?_ | refine sy rfl rfl (notp rfl) ?_
        first | refine st (pkT rfl rfl) ?_ | refine st (pkF rfl rfl) ?_ | refine st (pk rfl rfl rfl) ?_
        refine en fun a w e' hf => ?_
        replace e := Ext.tr e e'
        clear e'
        refine tl_nil ?_
        repeat refine seq ?_
        refine ifc hf rfl (fun h => by cases h) (fun _ => ?_)
        refine wskip ?_
        try simp only [Exit.then, Exit.inBlock, ↓reduceIte]
        try simp only [Exit.then, Exit.inBlock, ↓reduceIte]
        repeat refine seq ?_
        refine regn 2 hf (by decide +kernel) ?_
        refine st (mv rfl) ?_
        refine st ((add rfl rfl (by omega)).eq (congrArg (Value.int .i64) (show (k : Int) + 1 = ((k + 1 : Nat) : Int) from rfl))) ?_
        refine en fun a w e' hf => ?_
        replace e := Ext.tr e e'
        clear e'
        refine tl_as hf rfl (by decide) fun a hf => ?_
        refine tl_nil ?_
        replace hf := hf.keep [0, 1, 2, 8, 9]
        dsimp only [keep, List.filterMap, look, Nat.beq, Option.map] at hf
        refine ⟨_, ?_, k + 1, rfl, by omega, hf, e, ?_⟩
        · omega
        rw [take_succ_get hx, List.any_append, Ho]; simp [h2]
  · obtain rfl : k = l.length := by have := of_decide_eq_false hc; (try dsimp only at this); omega
    clear hc
    simp only [Exit.then, Exit.inBlock, ↓reduceIte]
    rw [List.take_length] at Ho
    have hc : attC xs p l = 0 := by rw [hcc, if_neg (by rw [Ho]; decide)]
    replace hf := hf.keep [0, 1, 2]
    dsimp only [keep, List.filterMap, look, Nat.beq, Option.map] at hf
    have hG : ∀ b, Go.Mono.G0 b → b < W.heap.size := fun b hb => hb.elim
    repeat refine seq ?_
    refine regn0 ?_
    refine tl_bsl0 W.heap.size Go.Mono.G0 rbE Tryd.underlying26 S60 hf (by decide) e.size hG fun a v w e' hov Ho hf => ?_
    replace e := Ext.tr e e'
    clear e'
    refine tl_op hf (by decide) (mv rfl) fun a w e' hf => ?_
    replace e := Ext.tr e e'
    replace Ho := Ho.ext e'
    clear e'
    haveI hin : ∀ G0, InR (GB W G0) _ := OwR.inGB Ho (Nat.le_refl _)
    refine tl_app Tryd.underlying26 I60 rfl rfl hf (by decide) rfl Ho (show Is _ _ _ (Dv (slE rbE) _ xs) from ⟨_, rfl, fun u w he hu => Dv.weak hu fun b _ hb => hb.elim (fun h => h.elim) (fun h => .inr (Ho.row (Nat.le_refl _) b h))⟩) (by simp only [List.length_nil]; omega) (by simp only [List.length_nil, maxLen]; omega) fun a v w hg hat Hn hf => ?_
    replace e := e.gro hg (Ho.row (Nat.le_refl _))
    replace Ho := Hn; clear Hn hg hat hin
    replace hf := hf.upd 2 rfl (B := Dv (slE intE) (GO Go.Mono.G0 v) l) (fun u hu => Dv.weak hu fun b _ hb => hb.elim (fun h => h.elim) (fun h => .inr (Ho.row (Nat.le_refl _) b h)))
    rw [List.nil_append] at Ho
    replace hf := hf.keep [1, 2, 49]
    dsimp only [keep, List.filterMap, look, Nat.beq, Option.map] at hf
    refine tl_op hf (by decide) (mv rfl) fun a w e' hf => ?_
    replace e := Ext.tr e e'
    replace Ho := Ho.ext e'
    clear e'
    refine tl_op hf (by decide) (mv rfl) fun a w e' hf => ?_
    replace e := Ext.tr e e'
    replace Ho := Ho.ext e'
    clear e'
    refine tl_op hf (by decide) (bld2 Tryd.underlying60 rfl rfl rfl S3 S57 I60 rfl (isI rfl) (isR rfl)) fun a w e' hf => ?_
    replace e := Ext.tr e e'
    replace Ho := Ho.ext e'
    clear e'
    refine tl_op hf (by decide) (bsl1 Tryd.underlying26 I60 rfl (by decide) rfl Ho.avs (isR rfl)) fun a w e' hf => ?_
    replace e := Ext.tr e e'
    replace Ho := Ho.ext e'
    clear e'
    haveI hin : ∀ G0, InR (GB W G0) _ := OwR.inGB Ho (Nat.le_refl _)
    refine tl_app Tryd.underlying26 I60 rfl rfl hf (by decide) rfl Ho (isR rfl) (by simp only [List.length_singleton]; omega) (by simp only [List.length_singleton, maxLen]; omega) fun a v w hg hat Hn hf => ?_
    replace e := e.gro hg (Ho.row (Nat.le_refl _))
    replace Ho := Hn; clear Hn hg hat hin
    refine tl_as hf rfl (by decide) fun a hf => ?_
    refine tl_as hf rfl (by decide) fun a hf => ?_
    refine tl_nil ?_
    refine wret (ret2 rfl hf rfl rfl ?_)
    rintro _ _ rfl rfl
    exact ⟨_, rfl, e, by rw [hc]; exact Tup.two ⟨fun h => Ho.sl, fun h => absurd hc h⟩ rfl⟩
end Go.Mono
