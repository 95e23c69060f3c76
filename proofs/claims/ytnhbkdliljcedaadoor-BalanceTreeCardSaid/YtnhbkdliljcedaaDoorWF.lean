/-
  Walks and plain facts, in this order: Chked, Balance, Bal6, BitLen, Depth3, Known29, Arg, ArgSet.
  No condition.
-/
import Derived.Test.YtnhbkdliljcedaaDoorWE
import Derived.Test.YtnhbkdliljcedaaDoorWC
import Derived.Test.YtnhbkdliljcedaaDoorWD
import Derived.Test.YtnhbkdliljcedaaDoorWB
import Derived.OpenShut
import Derived.Deep.Slices
import Derived.ChangeSame
set_option linter.unusedVariables false
set_option linter.unusedSimpArgs false
set_option linter.unusedVariables false
set_option linter.unusedSimpArgs false
namespace Go.Mono
open Go Go.Proofs Go.RowKit

/-- a part of the tree t that hangs together -/
noncomputable def partE (t : List (Int × BS)) (part : BS) : Int :=
  if chkR (toT t) ≠ 0 then chkR (toT t)
  else if minOf part = none ∨ part &&& ~~~belowB t.length ≠ 0 ∨ compB (adjL t) part ((minOf part).getD 0) ≠ part then 3 else 0
/-- the tree's forest stands for a tree -/
def FoT (t : List (Int × BS)) : Prop := chkR (toT t) = 0 → ∃ T : Tr, Fo (adjL t) T
theorem adjL_len (t : List (Int × BS)) : (adjL t).length = t.length := by simp [adjL]
noncomputable def ChA (t : List (Int × BS)) (part : BS) (G : Nat → Prop) : VA := ⟨fun v w => (partE t part = 0 ∧ (Dv (slE setE) G (adjL t)).p v w) ∨ (partE t part ≠ 0 ∧ v = .slice none 0 0), fun v w w' e h => h.imp (fun h => ⟨h.1, Dv.ex h.2 e⟩) id⟩

theorem checked_spec {G : Nat → Prop} (t : List (Int × BS)) (part : BS) (v : Value) (W : World) (hT : Tab W) (h : (Dv treeE G t).p v W) (hl : t.length ≤ 1000) (hF : FoT t) :
    Calls Tryd.prog 126 #[v, setV part] W (Post (Tup [ChA t part Go.Mono.G0, E (I (partE t part))]) W) := by
  have hT0 := hT.lt
  refine enter (args := [v, setV part]) (As := [Dv treeE (GB W Go.Mono.G0) t, E (setV part)]) Tryd.func126 rfl Tryd.ntmps126 (Nat.le_of_ble_eq_true rfl) ?_ (fun a hf => ?_) (Nat.le_of_ble_eq_true rfl)
  rotate_left
  dsimp only [params, Nat.reduceAdd] at hf
  rotate_right
  · exact arg2 (Dv.toB (Dv.weak h fun b _ hb => hb.elim)) rfl
  have e := Ext.rfl' W
  obtain ⟨tv, HV, hf⟩ := hf.fix 0 rfl
  clear h
  replace hf := hf.keep [0, 1]
  dsimp only [keep, List.filterMap, look, Nat.beq, Option.map] at hf
  repeat refine seq ?_
  refine regn0 ?_
  refine tl_box hf rfl (by decide) fun a b3 w v3 hv3 e' hb3 hs3 B3 hf => ?_
  have hle3 := Nat.le_trans e.size (Nat.le_of_eq hb3.symm)
  replace hT := hT.ext e'
  replace HV := Dv.ex HV e'
  replace e := Ext.tr e e'
  clear e'
  refine tl_as hf rfl (by decide) fun a hf => ?_
  refine tl_as hf rfl (by decide) fun a hf => ?_
  refine tl_nil ?_
  cases hv3
  replace B3 : Blk w b3 (setC part) 37 := B3
  repeat refine seq ?_
  refine regn 5 hf (by decide +kernel) ?_
  refine st (mv rfl) ?_
  refine st (call1 En115 rfl (fun v w he h => by cases h; exact nb_spec t tv w (hT.ext he) (Dv.ex HV he) hl)) ?_
  refine st (mv rfl) ?_
  refine st (ext_ rfl rfl) ?_
  refine st (ext_ rfl rfl) ?_
  refine en fun a w e' hf => ?_
  replace hT := hT.ext e'
  replace HV := Dv.ex HV e'
  replace e := Ext.tr e e'
  replace B3 := B3.ext e'
  clear e'
  refine tl_as hf rfl (by decide) fun a hf => ?_
  refine tl_as hf rfl (by decide) fun a hf => ?_
  refine tl_nil ?_
  replace hf := hf.keep [0, 3, 6, 7]
  dsimp only [keep, List.filterMap, look, Nat.beq, Option.map] at hf
  repeat refine seq ?_
  refine regn 2 hf (by decide +kernel) ?_
  refine st (mv rfl) ?_
  refine st (neq rfl rfl) ?_
  refine en fun a w e' hf => ?_
  replace hT := hT.ext e'
  replace HV := Dv.ex HV e'
  replace e := Ext.tr e e'
  replace B3 := B3.ext e'
  clear e'
  refine tl_nil ?_
  repeat refine seq ?_
  refine ifc hf rfl (fun hb => ?_) (fun hb => ?_)
  · have hb' : chkR (toT t) ≠ 0 := by simpa using hb
    repeat refine seq ?_
    refine regn 1 hf (by decide +kernel) ?_
    refine st (mv rfl) ?_
    refine en fun a w e' hf => ?_
    replace hT := hT.ext e'
    replace HV := Dv.ex HV e'
    replace e := Ext.tr e e'
    replace B3 := B3.ext e'
    clear e'
    refine tl_as hf rfl (by decide) fun a hf => ?_
    refine tl_as hf rfl (by decide) fun a hf => ?_
    refine tl_nil ?_
    have hpe : partE t part = chkR (toT t) := if_pos hb'
    refine wret (ret2 rfl hf rfl rfl ?_)
    rintro _ _ rfl rfl
    exact ⟨_, rfl, e, Tup.two (.inr ⟨by rw [hpe]; exact hb', rfl⟩) (by rw [hpe]; rfl)⟩
  have hb' : chkR (toT t) = 0 := by simpa using hb
  clear hb
  obtain ⟨T, F⟩ := hF hb'
  have hn : T.n = t.length := by rw [← F.len, adjL_len]
  obtain ⟨fv, hfv, hf⟩ := hf.fix 6 rfl
  have HF : (Dv (slE setE) Go.Mono.G0 (adjL t)).p fv w := hfv.elim (·.2) (fun h => absurd hb' h.1)
  clear hfv
  refine wskip ?_
  try simp only [Exit.then, Exit.inBlock, ↓reduceIte]
  replace hf := hf.keep [0, 3, 6]
  dsimp only [keep, List.filterMap, look, Nat.beq, Option.map] at hf
  repeat refine seq ?_
  refine regn 5 hf (by decide +kernel) ?_
  refine st (ldW T37 rfl B3 rfl) ?_
  refine st (call1 En143 rfl (fun v w he h => by cases h; exact min_spec _ w (hT.ext he))) ?_
  refine st (mv rfl) ?_
  refine st (ext_ rfl rfl) ?_
  refine st (ext_ rfl rfl) ?_
  refine en fun a w e' hf => ?_
  replace hT := hT.ext e'
  replace HV := Dv.ex HV e'
  replace HF := Dv.ex HF e'
  replace e := Ext.tr e e'
  replace B3 := B3.ext e'
  clear e'
  refine tl_as hf rfl (by decide) fun a hf => ?_
  refine tl_as hf rfl (by decide) fun a hf => ?_
  refine tl_nil ?_
  replace hf := hf.keep [0, 3, 6, 8, 9]
  dsimp only [keep, List.filterMap, look, Nat.beq, Option.map] at hf
  have hpe : partE t part = if minOf part = none ∨ part &&& ~~~belowB t.length ≠ 0 ∨ compB (adjL t) part ((minOf part).getD 0) ≠ part then 3 else 0 := if_neg (fun h => h hb')
  obtain ⟨c, hc⟩ : ∃ c : Bool, c = decide (minOf part = none ∨ part &&& ~~~belowB t.length ≠ 0 ∨ compB (adjL t) part ((minOf part).getD 0) ≠ part) := ⟨_, rfl⟩
  have hsub : (part &&& ~~~belowB t.length == 0) = true → ∀ i, part.getLsbD i = true → i < T.n := fun h i hi => by
    have h0 := eq_of_beq h
    rw [hn]
    apply Classical.byContradiction
    intro hlt
    have h1 : (part &&& ~~~belowB t.length).getLsbD i = true := (bit_diff _ _ i).2 ⟨hi, by rw [below_bit _ _ (bit_lt hi)]; simpa using hlt⟩
    rw [h0] at h1
    exact bit_zero i h1
  repeat refine seq ?_
  refine cut (J := fun a w => Fr 42 a w [(6, E fv), (40, E (B c))] ∧ Ext W w ∧ (Dv (slE setE) Go.Mono.G0 (adjL t)).p fv w) ?_ (fun a w hJ => ?_)
  · cases h1 : minOf part with
    | none =>
      rw [h1] at hf hc
      repeat refine seq ?_
      refine reg 18 Mix.mix hf (by decide +kernel) ?_
      refine st (mv rfl) ?_
      refine st (notp rfl) ?_
      refine st (mv rfl) ?_
      first | refine sn rfl rfl rfl ?_ | refine su rfl rfl ?_ | refine sy rfl rfl (ldW T37 rfl (by assumption) rfl) ?_
      first | refine sn rfl rfl rfl ?_ | refine su rfl rfl ?_ | refine sy rfl rfl (mv rfl) ?_
      first | refine sn rfl rfl rfl ?_ | refine su rfl rfl ?_ | refine sy rfl rfl (lenD Tryd.underlying23 (isR rfl)) ?_
      first | refine sn rfl rfl rfl ?_ | refine su rfl rfl ?_ | refine sy rfl rfl (TODO_call) ?_
      first | refine sn rfl rfl rfl ?_ | refine su rfl rfl ?_ | refine sy rfl rfl (TODO_call) ?_
      first | refine sn rfl rfl rfl ?_ | refine su rfl rfl ?_ | refine sy rfl rfl (notp rfl) ?_
      first | refine st (pkT rfl rfl) ?_ | refine st (pkF rfl rfl) ?_ | refine st (pk rfl rfl rfl) ?_
      refine st (mv rfl) ?_
      first | refine sn rfl rfl rfl ?_ | refine su rfl rfl ?_ | refine sy rfl rfl (mv rfl) ?_
      first | refine sn rfl rfl rfl ?_ | refine su rfl rfl ?_ | refine sy rfl rfl (mv rfl) ?_
      first | refine sn rfl rfl rfl ?_ | refine su rfl rfl ?_ | refine sy rfl rfl (ldW T37 rfl (by assumption) rfl) ?_
      first | refine sn rfl rfl rfl ?_ | refine su rfl rfl ?_ | refine sy rfl rfl (TODO_call) ?_
      first | refine sn rfl rfl rfl ?_ | refine su rfl rfl ?_ | refine sy rfl rfl (ldW T37 rfl (by assumption) rfl) ?_
      first | refine sn rfl rfl rfl ?_ | refine su rfl rfl ?_ | refine sy rfl rfl (TODO_neq) ?_
      first | refine st ((pkT rfl rfl).eq (show Value.bool _ = B c from congrArg Value.bool (by rw [hc]; simp))) ?_ | refine st ((pkF rfl rfl).eq (show Value.bool _ = B c from congrArg Value.bool (by rw [hc]; simp))) ?_ | refine st ((pk rfl rfl rfl).eq (show Value.bool _ = B c from congrArg Value.bool (by rw [hc]; simp))) ?_
      refine en fun a w e' hf => ?_
      replace hT := hT.ext e'
      replace HV := Dv.ex HV e'
      replace HF := Dv.ex HF e'
      replace e := Ext.tr e e'
      replace B3 := B3.ext e'
      clear e'
      refine tl_nil ?_
      replace hf := hf.keep [6, 40]
      dsimp only [keep, List.filterMap, look, Nat.beq, Option.map] at hf
      exact ⟨rfl, hf, e, HF⟩
    | some k =>
      rw [h1] at hf hc
      cases h2 : (part &&& ~~~belowB t.length == 0)
      · have hcv : c = true := by
          rw [hc]
          refine decide_eq_true (.inr (.inl fun h => ?_))
          rw [h, beq_self_eq_true] at h2; cases h2
        repeat refine seq ?_
        refine reg 18 Mix.mix hf (by decide +kernel) ?_
        refine st (mv rfl) ?_
        refine st (notp rfl) ?_
        refine st (mv rfl) ?_
        first | refine sn rfl rfl rfl ?_ | refine su rfl rfl ?_ | refine sy rfl rfl (ldW T37 rfl B3 rfl) ?_
        first | refine sn rfl rfl rfl ?_ | refine su rfl rfl ?_ | refine sy rfl rfl (mv rfl) ?_
        first | refine sn rfl rfl rfl ?_ | refine su rfl rfl ?_ | refine sy rfl rfl (lenD Tryd.underlying23 (isE rfl HV)) ?_
        first | refine sn rfl rfl rfl ?_ | refine su rfl rfl ?_ | refine sy rfl rfl (call1 En120 rfl (fun v w he h => by cases h; exact below_spec' t.length w (by omega))) ?_
        first | refine sn rfl rfl rfl ?_ | refine su rfl rfl ?_ | refine sy rfl rfl ((call2 En73 rfl rfl (fun v u w he h h' => by cases h; cases h'; exact subset_spec _ _ w)).eq (congrArg Value.bool (h2))) ?_
        first | refine sn rfl rfl rfl ?_ | refine su rfl rfl ?_ | refine sy rfl rfl (notp rfl) ?_
        first | refine st (pkT rfl rfl) ?_ | refine st (pkF rfl rfl) ?_ | refine st (pk rfl rfl rfl) ?_
        refine st (mv rfl) ?_
        first | refine sn rfl rfl rfl ?_ | refine su rfl rfl ?_ | refine sy rfl rfl (mv rfl) ?_
        first | refine sn rfl rfl rfl ?_ | refine su rfl rfl ?_ | refine sy rfl rfl (mv rfl) ?_
        first | refine sn rfl rfl rfl ?_ | refine su rfl rfl ?_ | refine sy rfl rfl (ldW T37 rfl (by assumption) rfl) ?_
        first | refine sn rfl rfl rfl ?_ | refine su rfl rfl ?_ | refine sy rfl rfl (TODO_call) ?_
        first | refine sn rfl rfl rfl ?_ | refine su rfl rfl ?_ | refine sy rfl rfl (ldW T37 rfl (by assumption) rfl) ?_
        first | refine sn rfl rfl rfl ?_ | refine su rfl rfl ?_ | refine sy rfl rfl (TODO_neq) ?_
        first | refine st ((pkT rfl rfl).eq (show Value.bool _ = B c from congrArg Value.bool hcv.symm)) ?_ | refine st ((pkF rfl rfl).eq (show Value.bool _ = B c from congrArg Value.bool hcv.symm)) ?_ | refine st ((pk rfl rfl rfl).eq (show Value.bool _ = B c from congrArg Value.bool hcv.symm)) ?_
        refine en fun a w e' hf => ?_
        replace hT := hT.ext e'
        replace HV := Dv.ex HV e'
        replace HF := Dv.ex HF e'
        replace e := Ext.tr e e'
        replace B3 := B3.ext e'
        clear e'
        refine tl_nil ?_
        replace hf := hf.keep [6, 40]
        dsimp only [keep, List.filterMap, look, Nat.beq, Option.map] at hf
        exact ⟨rfl, hf, e, HF⟩
      · have hin := hsub h2
        have hcv : (!(compB (adjL t) part k == part)) = c := by
          rw [hc, Bool.eq_iff_iff, decide_eq_true_eq, Bool.not_eq_true', beq_eq_false_iff_ne]
          have h0 := eq_of_beq h2
          constructor
          · intro h; exact .inr (.inr h)
          · rintro (h | h | h)
            · cases h
            · exact absurd h0 h
            · exact h
        repeat refine seq ?_
        refine reg 18 Mix.mix hf (by decide +kernel) ?_
        refine st (mv rfl) ?_
        refine st (notp rfl) ?_
        refine st (mv rfl) ?_
        first | refine sn rfl rfl rfl ?_ | refine su rfl rfl ?_ | refine sy rfl rfl (ldW T37 rfl B3 rfl) ?_
        first | refine sn rfl rfl rfl ?_ | refine su rfl rfl ?_ | refine sy rfl rfl (mv rfl) ?_
        first | refine sn rfl rfl rfl ?_ | refine su rfl rfl ?_ | refine sy rfl rfl (lenD Tryd.underlying23 (isE rfl HV)) ?_
        first | refine sn rfl rfl rfl ?_ | refine su rfl rfl ?_ | refine sy rfl rfl (call1 En120 rfl (fun v w he h => by cases h; exact below_spec' t.length w (by omega))) ?_
        first | refine sn rfl rfl rfl ?_ | refine su rfl rfl ?_ | refine sy rfl rfl ((call2 En73 rfl rfl (fun v u w he h h' => by cases h; cases h'; exact subset_spec _ _ w)).eq (congrArg Value.bool (h2))) ?_
        first | refine sn rfl rfl rfl ?_ | refine su rfl rfl ?_ | refine sy rfl rfl (notp rfl) ?_
        first | refine st (pkT rfl rfl) ?_ | refine st (pkF rfl rfl) ?_ | refine st (pk rfl rfl rfl) ?_
        refine st (mv rfl) ?_
        first | refine sn rfl rfl rfl ?_ | refine su rfl rfl ?_ | refine sy rfl rfl (mv rfl) ?_
        first | refine sn rfl rfl rfl ?_ | refine su rfl rfl ?_ | refine sy rfl rfl (mv rfl) ?_
        first | refine sn rfl rfl rfl ?_ | refine su rfl rfl ?_ | refine sy rfl rfl (ldW T37 rfl B3 rfl) ?_
        first | refine sn rfl rfl rfl ?_ | refine su rfl rfl ?_ | refine sy rfl rfl (call3 (A := E (setV (compB (adjL t) part k))) En147 rfl rfl rfl (fun v u s w he h h' h'' => by cases h; cases h'; cases h''; exact comp_spec2 F k part fv w (hT.ext he) (Dv.ex HF he) hin (minOf_mem h1))) ?_
        first | refine sn rfl rfl rfl ?_ | refine su rfl rfl ?_ | refine sy rfl rfl (ldW T37 rfl B3 rfl) ?_
        first | refine sn rfl rfl rfl ?_ | refine su rfl rfl ?_ | refine sy rfl rfl ((neqS Tryd.underlying37 Tryd.underlying35 T35 (by decide +kernel) rfl rfl).eq (congrArg Value.bool (hcv))) ?_
        first | refine st (pkT rfl rfl) ?_ | refine st (pkF rfl rfl) ?_ | refine st (pk rfl rfl rfl) ?_
        refine en fun a w e' hf => ?_
        replace hT := hT.ext e'
        replace HV := Dv.ex HV e'
        replace HF := Dv.ex HF e'
        replace e := Ext.tr e e'
        replace B3 := B3.ext e'
        clear e'
        refine tl_nil ?_
        replace hf := hf.keep [6, 40]
        dsimp only [keep, List.filterMap, look, Nat.beq, Option.map] at hf
        exact ⟨rfl, hf, e, HF⟩
  clear hf e HF
  obtain ⟨hf, e, HF⟩ := hJ
  try simp only [Exit.then]
  repeat refine seq ?_
  refine ifc hf rfl (fun hb => ?_) (fun hb => ?_)
  · repeat refine seq ?_
    refine regn0 ?_
    refine tl_as hf rfl (by decide) fun a hf => ?_
    refine tl_as hf rfl (by decide) fun a hf => ?_
    refine tl_nil ?_
    rw [hb] at hc
    have hp3 : partE t part = 3 := by rw [hpe, if_pos (of_decide_eq_true hc.symm)]
    refine wret (ret2 rfl hf rfl rfl ?_)
    rintro _ _ rfl rfl
    exact ⟨_, rfl, e, Tup.two (.inr ⟨by rw [hp3]; decide, rfl⟩) (by rw [hp3]; rfl)⟩
  · refine wskip ?_
    try simp only [Exit.then, Exit.inBlock, ↓reduceIte]
    repeat refine seq ?_
    refine regn 1 hf (by decide +kernel) ?_
    refine st (mv rfl) ?_
    refine en fun a w e' hf => ?_
    replace HF := Dv.ex HF e'
    replace e := Ext.tr e e'
    clear e'
    refine tl_as hf rfl (by decide) fun a hf => ?_
    refine tl_as hf rfl (by decide) fun a hf => ?_
    refine tl_nil ?_
    rw [hb] at hc
    have hp0 : partE t part = 0 := by rw [hpe, if_neg (of_decide_eq_false hc.symm)]
    refine wret (ret2 rfl hf rfl rfl ?_)
    rintro _ _ rfl rfl
    exact ⟨_, rfl, e, Tup.two (.inl ⟨hp0, HF⟩) (by rw [hp0]; rfl)⟩

theorem partE_ok {t : List (Int × BS)} {part : BS} (h : partE t part = 0) {T : Tr} (F : Fo (adjL t) T) : chkR (toT t) = 0 ∧ (∀ i, part.getLsbD i = true → i < T.n) ∧ T.conn (bits part) ∧ ∃ p, part.getLsbD p = true := by
  have hn : T.n = t.length := by rw [← F.len, adjL_len]
  unfold partE at h
  have h0 : chkR (toT t) = 0 := by
    apply Classical.byContradiction
    intro hh
    rw [if_pos hh] at h
    exact hh h
  rw [if_neg (fun hh => hh h0)] at h
  have h2 : ¬(minOf part = none ∨ part &&& ~~~belowB t.length ≠ 0 ∨ compB (adjL t) part ((minOf part).getD 0) ≠ part) := by
    intro hh
    rw [if_pos hh] at h
    cases h
  have hin : ∀ i, part.getLsbD i = true → i < T.n := fun i hi => by
    rw [hn]
    apply Classical.byContradiction
    intro hlt
    have h1 : (part &&& ~~~belowB t.length).getLsbD i = true := (bit_diff _ _ i).2 ⟨hi, by rw [below_bit _ _ (bit_lt hi)]; simpa using hlt⟩
    refine h2 (.inr (.inl fun h0 => ?_))
    rw [h0] at h1
    exact bit_zero i h1
  cases hm : minOf part with
  | none => exact absurd (.inl hm) h2
  | some k =>
    have hk := minOf_mem hm
    refine ⟨h0, hin, (comp_conn F hin hk).1 ?_, k, hk⟩
    apply Classical.byContradiction
    intro hc
    refine h2 (.inr (.inr ?_))
    rw [hm]; exact hc

noncomputable def bouR (t : List (Int × BS)) (part : BS) : BS := if partE t part = 0 then outM (adjL t) part else 0
theorem bou_spec {G : Nat → Prop} (t : List (Int × BS)) (part : BS) (v : Value) (W : World) (hT : Tab W) (h : (Dv treeE G t).p v W) (hl : t.length ≤ 1000) (hF : FoT t) :
    Calls Tryd.prog 67 #[v, setV part] W (Post (Tup [E (setV (bouR t part)), E (I (partE t part))]) W) := by
  have hT0 := hT.lt
  refine enter (args := [v, setV part]) (As := [Dv treeE (GB W Go.Mono.G0) t, E (setV part)]) Tryd.func67 rfl Tryd.ntmps67 (Nat.le_of_ble_eq_true rfl) ?_ (fun a hf => ?_) (Nat.le_of_ble_eq_true rfl)
  rotate_left
  dsimp only [params, Nat.reduceAdd] at hf
  rotate_right
  · exact arg2 (Dv.toB (Dv.weak h fun b _ hb => hb.elim)) rfl
  have e := Ext.rfl' W
  obtain ⟨tv, HV, hf⟩ := hf.fix 0 rfl
  clear h
  replace hf := hf.keep [0, 1]
  dsimp only [keep, List.filterMap, look, Nat.beq, Option.map] at hf
  repeat refine seq ?_
  refine regn0 ?_
  refine tl_box hf rfl (by decide) fun a b3 w v3 hv3 e' hb3 hs3 B3 hf => ?_
  have hle3 := Nat.le_trans e.size (Nat.le_of_eq hb3.symm)
  replace hT := hT.ext e'
  replace HV := Dv.ex HV e'
  replace e := Ext.tr e e'
  clear e'
  refine tl_alloc I37 hf (by decide) fun a b4 w e' hb4 hs4 B4 hf => ?_
  have hle4 := Nat.le_trans e.size (Nat.le_of_eq hb4.symm)
  have lt4_B3 := B3.lt
  replace hT := hT.ext e'
  replace HV := Dv.ex HV e'
  replace e := Ext.tr e e'
  replace B3 := B3.ext e'
  clear e'
  refine tl_as hf rfl (by decide) fun a hf => ?_
  refine tl_nil ?_
  cases hv3
  replace B3 : Blk w b3 (setC part) 37 := B3
  simp only [Value.cells, zeroC] at B4
  have n43 : b4 ≠ b3 := by omega
  replace hf := hf.keep [0, 3, 4]
  dsimp only [keep, List.filterMap, look, Nat.beq, Option.map] at hf
  repeat refine seq ?_
  refine regn 6 hf (by decide +kernel) ?_
  refine st (mv rfl) ?_
  refine st (ldW T37 rfl B3 rfl) ?_
  refine st (call2 En126 rfl rfl (fun v u w he h h' => by cases h; cases h'; exact checked_spec t part tv w (hT.ext he) (Dv.ex HV he) hl hF)) ?_
  refine st (mv rfl) ?_
  refine st (ext_ rfl rfl) ?_
  refine st (ext_ rfl rfl) ?_
  refine en fun a w e' hf => ?_
  replace hT := hT.ext e'
  replace HV := Dv.ex HV e'
  replace e := Ext.tr e e'
  replace B3 := B3.ext e'
  replace B4 := B4.ext e'
  clear e'
  refine tl_as hf rfl (by decide) fun a hf => ?_
  refine tl_as hf rfl (by decide) fun a hf => ?_
  refine tl_nil ?_
  replace hf := hf.keep [3, 4, 6, 7]
  dsimp only [keep, List.filterMap, look, Nat.beq, Option.map] at hf
  repeat refine seq ?_
  refine regn 2 hf (by decide +kernel) ?_
  refine st (mv rfl) ?_
  refine st (neq rfl rfl) ?_
  refine en fun a w e' hf => ?_
  replace hT := hT.ext e'
  replace HV := Dv.ex HV e'
  replace e := Ext.tr e e'
  replace B3 := B3.ext e'
  replace B4 := B4.ext e'
  clear e'
  refine tl_nil ?_
  repeat refine seq ?_
  refine ifc hf rfl (fun hb => ?_) (fun hb => ?_)
  · have hb' : partE t part ≠ 0 := by simpa using hb
    have hz : bouR t part = 0 := if_neg hb'
    repeat refine seq ?_
    refine regn 2 hf (by decide +kernel) ?_
    refine st ((bld0 Bz37).eq z16_eq) ?_
    refine st (mv rfl) ?_
    refine en fun a w e' hf => ?_
    replace hT := hT.ext e'
    replace HV := Dv.ex HV e'
    replace e := Ext.tr e e'
    replace B3 := B3.ext e'
    replace B4 := B4.ext e'
    clear e'
    replace hf := hf.keep [4, 17, 16]
    dsimp only [keep, List.filterMap, look, Nat.beq, Option.map] at hf
    haveI hinr : ∀ G0, InR (GB W G0) (some b4) := fun G0 => InR.gb (by omega)
    refine tl_stW T37 hf rfl rfl (wordsC_one _) B4 rfl (rfl) fun w hg hsz B4 hf => ?_
    replace hT := hT.gr hg (by omega)
    replace HV := Dv.gr HV hg (.inr (by omega))
    replace e := e.gr hg (by omega)
    replace B3 := B3.gr hg (by omega)
    clear hg
    refine tl_as hf rfl (by decide) fun a hf => ?_
    refine tl_nil ?_
    refine wret (ret2c rfl T37 hf rfl rfl B4 (setC_size _) ?_)
    rintro _ rfl
    exact ⟨_, rfl, e, Tup.two (by rw [hz]; rfl) rfl⟩
  · have hb' : partE t part = 0 := by simpa using hb
    have hz : bouR t part = outM (adjL t) part := if_pos hb'
    have h0 : chkR (toT t) = 0 := by
      apply Classical.byContradiction
      intro hh
      rw [partE, if_pos hh] at hb'
      exact hh hb'
    obtain ⟨T, F⟩ := hF h0
    obtain ⟨_, hin, _, _⟩ := partE_ok hb' F
    obtain ⟨fv, hfv, hf⟩ := hf.fix 6 rfl
    have HF : (Dv (slE setE) Go.Mono.G0 (adjL t)).p fv w := hfv.elim (·.2) (fun h => absurd hb' h.1)
    clear hfv
    refine wskip ?_
    try simp only [Exit.then, Exit.inBlock, ↓reduceIte]
    replace hf := hf.keep [3, 4, 6]
    dsimp only [keep, List.filterMap, look, Nat.beq, Option.map] at hf
    repeat refine seq ?_
    refine regn 3 hf (by decide +kernel) ?_
    refine st (mv rfl) ?_
    refine st (ldW T37 rfl B3 rfl) ?_
    refine st (call2 En117 rfl rfl (fun v u w he h h' => by cases h; cases h'; exact out_spec (adjL t) part fv w (hT.ext he) (Dv.ex HF he) (fun i hi => by rw [F.len]; exact hin i (mem_elems.1 hi).2))) ?_
    refine en fun a w e' hf => ?_
    replace hT := hT.ext e'
    replace HF := Dv.ex HF e'
    replace e := Ext.tr e e'
    replace B3 := B3.ext e'
    replace B4 := B4.ext e'
    clear e'
    replace hf := hf.keep [4, 20]
    dsimp only [keep, List.filterMap, look, Nat.beq, Option.map] at hf
    haveI hinr : ∀ G0, InR (GB W G0) (some b4) := fun G0 => InR.gb (by omega)
    refine tl_stW T37 hf rfl rfl (wordsC_one _) B4 rfl (rfl) fun w hg hsz B4 hf => ?_
    replace e := e.gr hg (by omega)
    clear hg
    refine tl_as hf rfl (by decide) fun a hf => ?_
    refine tl_nil ?_
    refine wret (ret2c rfl T37 hf rfl rfl B4 (setC_size _) ?_)
    rintro _ rfl
    exact ⟨_, rfl, e, Tup.two (by rw [hz]; rfl) (by rw [hb']; rfl)⟩

noncomputable def cenR (t : List (Int × BS)) (part : BS) : Int := if partE t part = 0 then (cenB (adjL t) part : Int) else 0
theorem centroid_spec {G : Nat → Prop} (t : List (Int × BS)) (part : BS) (v : Value) (W : World) (hT : Tab W) (h : (Dv treeE G t).p v W) (hl : t.length ≤ 1000) (hF : FoT t) :
    Calls Tryd.prog 68 #[v, setV part] W (Post (Tup [E (I (cenR t part)), E (I (partE t part))]) W) := by
  have hT0 := hT.lt
  refine enter (args := [v, setV part]) (As := [Dv treeE (GB W Go.Mono.G0) t, E (setV part)]) Tryd.func68 rfl Tryd.ntmps68 (Nat.le_of_ble_eq_true rfl) ?_ (fun a hf => ?_) (Nat.le_of_ble_eq_true rfl)
  rotate_left
  dsimp only [params, Nat.reduceAdd] at hf
  rotate_right
  · exact arg2 (Dv.toB (Dv.weak h fun b _ hb => hb.elim)) rfl
  have e := Ext.rfl' W
  obtain ⟨tv, HV, hf⟩ := hf.fix 0 rfl
  clear h
  replace hf := hf.keep [0, 1]
  dsimp only [keep, List.filterMap, look, Nat.beq, Option.map] at hf
  repeat refine seq ?_
  refine regn0 ?_
  refine tl_box hf rfl (by decide) fun a b3 w v3 hv3 e' hb3 hs3 B3 hf => ?_
  have hle3 := Nat.le_trans e.size (Nat.le_of_eq hb3.symm)
  replace hT := hT.ext e'
  replace HV := Dv.ex HV e'
  replace e := Ext.tr e e'
  clear e'
  refine tl_as hf rfl (by decide) fun a hf => ?_
  refine tl_as hf rfl (by decide) fun a hf => ?_
  refine tl_nil ?_
  cases hv3
  replace B3 : Blk w b3 (setC part) 37 := B3
  replace hf := hf.keep [0, 3]
  dsimp only [keep, List.filterMap, look, Nat.beq, Option.map] at hf
  repeat refine seq ?_
  refine regn 6 hf (by decide +kernel) ?_
  refine st (mv rfl) ?_
  refine st (ldW T37 rfl B3 rfl) ?_
  refine st (call2 En126 rfl rfl (fun v u w he h h' => by cases h; cases h'; exact checked_spec t part tv w (hT.ext he) (Dv.ex HV he) hl hF)) ?_
  refine st (mv rfl) ?_
  refine st (ext_ rfl rfl) ?_
  refine st (ext_ rfl rfl) ?_
  refine en fun a w e' hf => ?_
  replace hT := hT.ext e'
  replace HV := Dv.ex HV e'
  replace e := Ext.tr e e'
  replace B3 := B3.ext e'
  clear e'
  refine tl_as hf rfl (by decide) fun a hf => ?_
  refine tl_as hf rfl (by decide) fun a hf => ?_
  refine tl_nil ?_
  replace hf := hf.keep [3, 6, 7]
  dsimp only [keep, List.filterMap, look, Nat.beq, Option.map] at hf
  repeat refine seq ?_
  refine regn 2 hf (by decide +kernel) ?_
  refine st (mv rfl) ?_
  refine st (neq rfl rfl) ?_
  refine en fun a w e' hf => ?_
  replace hT := hT.ext e'
  replace HV := Dv.ex HV e'
  replace e := Ext.tr e e'
  replace B3 := B3.ext e'
  clear e'
  refine tl_nil ?_
  repeat refine seq ?_
  refine ifc hf rfl (fun hb => ?_) (fun hb => ?_)
  · have hb' : partE t part ≠ 0 := by simpa using hb
    have hz : cenR t part = 0 := if_neg hb'
    repeat refine seq ?_
    refine regn 1 hf (by decide +kernel) ?_
    refine st (mv rfl) ?_
    refine en fun a w e' hf => ?_
    replace hT := hT.ext e'
    replace HV := Dv.ex HV e'
    replace e := Ext.tr e e'
    replace B3 := B3.ext e'
    clear e'
    refine tl_as hf rfl (by decide) fun a hf => ?_
    refine tl_as hf rfl (by decide) fun a hf => ?_
    refine tl_nil ?_
    refine wret (ret2 rfl hf rfl rfl ?_)
    rintro _ _ rfl rfl
    exact ⟨_, rfl, e, Tup.two (by rw [hz]; rfl) rfl⟩
  · have hb' : partE t part = 0 := by simpa using hb
    have hz : cenR t part = (cenB (adjL t) part : Int) := if_pos hb'
    have h0 : chkR (toT t) = 0 := by
      apply Classical.byContradiction
      intro hh
      rw [partE, if_pos hh] at hb'
      exact hh hb'
    obtain ⟨T, F⟩ := hF h0
    obtain ⟨_, hin, _, p, hp⟩ := partE_ok hb' F
    obtain ⟨fv, hfv, hf⟩ := hf.fix 6 rfl
    have HF : (Dv (slE setE) Go.Mono.G0 (adjL t)).p fv w := hfv.elim (·.2) (fun h => absurd hb' h.1)
    clear hfv
    refine wskip ?_
    try simp only [Exit.then, Exit.inBlock, ↓reduceIte]
    replace hf := hf.keep [3, 6]
    dsimp only [keep, List.filterMap, look, Nat.beq, Option.map] at hf
    repeat refine seq ?_
    refine regn 3 hf (by decide +kernel) ?_
    refine st (mv rfl) ?_
    refine st (ldW T37 rfl B3 rfl) ?_
    refine st ((call2 En127 rfl rfl (fun v u w he h h' => by cases h; cases h'; exact cen_spec F part fv w (hT.ext he) (Dv.ex HF he) hin)).eq (congrArg I (cen_ok hp).2.1)) ?_
    refine en fun a w e' hf => ?_
    replace hT := hT.ext e'
    replace HF := Dv.ex HF e'
    replace e := Ext.tr e e'
    replace B3 := B3.ext e'
    clear e'
    refine tl_as hf rfl (by decide) fun a hf => ?_
    refine tl_as hf rfl (by decide) fun a hf => ?_
    refine tl_nil ?_
    refine wret (ret2 rfl hf rfl rfl ?_)
    rintro _ _ rfl rfl
    exact ⟨_, rfl, e, Tup.two (by rw [hz]; rfl) (by rw [hb']; rfl)⟩

noncomputable def splE (t : List (Int × BS)) (part : BS) : Int := if partE t part ≠ 0 then partE t part else if 2 < card (outM (adjL t) part) then 14 else 0
noncomputable def splR (t : List (Int × BS)) (part : BS) : Int := if splE t part = 0 then (splitter (adjL t) part : Int) else 0
theorem splitter_spec {G : Nat → Prop} (t : List (Int × BS)) (part : BS) (v : Value) (W : World) (hT : Tab W) (h : (Dv treeE G t).p v W) (hl : t.length ≤ 1000) (hF : FoT t) :
    Calls Tryd.prog 82 #[v, setV part] W (Post (Tup [E (I (splR t part)), E (I (splE t part))]) W) := by
  have hT0 := hT.lt
  refine enter (args := [v, setV part]) (As := [Dv treeE (GB W Go.Mono.G0) t, E (setV part)]) Tryd.func82 rfl Tryd.ntmps82 (Nat.le_of_ble_eq_true rfl) ?_ (fun a hf => ?_) (Nat.le_of_ble_eq_true rfl)
  rotate_left
  dsimp only [params, Nat.reduceAdd] at hf
  rotate_right
  · exact arg2 (Dv.toB (Dv.weak h fun b _ hb => hb.elim)) rfl
  have e := Ext.rfl' W
  obtain ⟨tv, HV, hf⟩ := hf.fix 0 rfl
  clear h
  replace hf := hf.keep [0, 1]
  dsimp only [keep, List.filterMap, look, Nat.beq, Option.map] at hf
  repeat refine seq ?_
  refine regn0 ?_
  refine tl_box hf rfl (by decide) fun a b3 w v3 hv3 e' hb3 hs3 B3 hf => ?_
  have hle3 := Nat.le_trans e.size (Nat.le_of_eq hb3.symm)
  replace hT := hT.ext e'
  replace HV := Dv.ex HV e'
  replace e := Ext.tr e e'
  clear e'
  refine tl_as hf rfl (by decide) fun a hf => ?_
  refine tl_as hf rfl (by decide) fun a hf => ?_
  refine tl_nil ?_
  cases hv3
  replace B3 : Blk w b3 (setC part) 37 := B3
  replace hf := hf.keep [0, 3]
  dsimp only [keep, List.filterMap, look, Nat.beq, Option.map] at hf
  repeat refine seq ?_
  refine regn 6 hf (by decide +kernel) ?_
  refine st (mv rfl) ?_
  refine st (ldW T37 rfl B3 rfl) ?_
  refine st (call2 En126 rfl rfl (fun v u w he h h' => by cases h; cases h'; exact checked_spec t part tv w (hT.ext he) (Dv.ex HV he) hl hF)) ?_
  refine st (mv rfl) ?_
  refine st (ext_ rfl rfl) ?_
  refine st (ext_ rfl rfl) ?_
  refine en fun a w e' hf => ?_
  replace hT := hT.ext e'
  replace HV := Dv.ex HV e'
  replace e := Ext.tr e e'
  replace B3 := B3.ext e'
  clear e'
  refine tl_as hf rfl (by decide) fun a hf => ?_
  refine tl_as hf rfl (by decide) fun a hf => ?_
  refine tl_nil ?_
  replace hf := hf.keep [3, 6, 7]
  dsimp only [keep, List.filterMap, look, Nat.beq, Option.map] at hf
  repeat refine seq ?_
  refine regn 2 hf (by decide +kernel) ?_
  refine st (mv rfl) ?_
  refine st (neq rfl rfl) ?_
  refine en fun a w e' hf => ?_
  replace hT := hT.ext e'
  replace HV := Dv.ex HV e'
  replace e := Ext.tr e e'
  replace B3 := B3.ext e'
  clear e'
  refine tl_nil ?_
  repeat refine seq ?_
  refine ifc hf rfl (fun hb => ?_) (fun hb => ?_)
  · have hb' : partE t part ≠ 0 := by simpa using hb
    have hz' : splE t part = partE t part := if_pos hb'
    have hz : splR t part = 0 := if_neg (by rw [hz']; exact hb')
    repeat refine seq ?_
    refine regn 1 hf (by decide +kernel) ?_
    refine st (mv rfl) ?_
    refine en fun a w e' hf => ?_
    replace hT := hT.ext e'
    replace HV := Dv.ex HV e'
    replace e := Ext.tr e e'
    replace B3 := B3.ext e'
    clear e'
    refine tl_as hf rfl (by decide) fun a hf => ?_
    refine tl_as hf rfl (by decide) fun a hf => ?_
    refine tl_nil ?_
    refine wret (ret2 rfl hf rfl rfl ?_)
    rintro _ _ rfl rfl
    exact ⟨_, rfl, e, Tup.two (by rw [hz]; rfl) (by rw [hz']; rfl)⟩
  · have hb' : partE t part = 0 := by simpa using hb
    have hz' : splE t part = if 2 < card (outM (adjL t) part) then 14 else 0 := if_neg (fun h => h hb')
    have h0 : chkR (toT t) = 0 := by
      apply Classical.byContradiction
      intro hh
      rw [partE, if_pos hh] at hb'
      exact hh hb'
    obtain ⟨T, F⟩ := hF h0
    obtain ⟨_, hin, hC, p, hp⟩ := partE_ok hb' F
    obtain ⟨fv, hfv, hf⟩ := hf.fix 6 rfl
    have HF : (Dv (slE setE) Go.Mono.G0 (adjL t)).p fv w := hfv.elim (·.2) (fun h => absurd hb' h.1)
    clear hfv
    obtain ⟨N0, hN0⟩ : ∃ N0, N0 = w.heap.size := ⟨_, rfl⟩
    replace HF : (Dv (slE setE) (fun b => N0 ≤ b) (adjL t)).p fv w := Dv.weak HF fun b hb hg => absurd hb (Nat.not_lt.2 (by omega))
    have hNw : N0 ≤ w.heap.size := by omega
    refine wskip ?_
    try simp only [Exit.then, Exit.inBlock, ↓reduceIte]
    replace hf := hf.keep [3, 6]
    dsimp only [keep, List.filterMap, look, Nat.beq, Option.map] at hf
    repeat refine seq ?_
    refine regn 3 hf (by decide +kernel) ?_
    refine st (mv rfl) ?_
    refine st (ldW T37 rfl B3 rfl) ?_
    refine st (call2 En117 rfl rfl (fun v u w he h h' => by cases h; cases h'; exact out_spec (adjL t) part fv w (hT.ext he) (Dv.ex HF he) (fun i hi => by rw [F.len]; exact hin i (mem_elems.1 hi).2))) ?_
    refine en fun a w e' hf => ?_
    replace hT := hT.ext e'
    replace HF := Dv.ex HF e'
    replace hNw := Nat.le_trans hNw e'.size
    replace e := Ext.tr e e'
    replace B3 := B3.ext e'
    clear e'
    refine tl_alloc I37 hf (by decide) fun a b8 w e' hb8 hs8 B8 hf => ?_
    have hle8 := Nat.le_trans e.size (Nat.le_of_eq hb8.symm)
    have lo8_hNw := Nat.le_trans hNw (Nat.le_of_eq hb8.symm)
    have lt8_B3 := B3.lt
    replace hT := hT.ext e'
    replace HF := Dv.ex HF e'
    replace hNw := Nat.le_trans hNw e'.size
    replace e := Ext.tr e e'
    replace B3 := B3.ext e'
    clear e'
    replace hf := hf.keep [3, 6, 8, 20]
    dsimp only [keep, List.filterMap, look, Nat.beq, Option.map] at hf
    haveI hinr : ∀ G0, InR (GB W G0) (some b8) := fun G0 => InR.gb (by omega)
    refine tl_stW T37 hf rfl rfl (wordsC_one _) B8 rfl (rfl) fun w hg hsz B8 hf => ?_
    replace hT := hT.gr hg (by omega)
    replace HF := Dv.gr HF hg (by omega)
    replace hNw := Nat.le_trans hNw (Nat.le_of_eq hsz.symm)
    replace e := e.gr hg (by omega)
    replace B3 := B3.gr hg (by omega)
    clear hg
    refine tl_nil ?_
    replace B8 : Blk w b8 (setC (outM (adjL t) part)) 37 := B8
    replace hf := hf.keep [3, 6, 8]
    dsimp only [keep, List.filterMap, look, Nat.beq, Option.map] at hf
    have hcl := card_le_n (S := outM (adjL t) part) (n := 1024) fun i hi => bit_lt hi
    repeat refine seq ?_
    refine regn 3 hf (by decide +kernel) ?_
    refine st (ldW T37 rfl B8 rfl) ?_
    refine st (call1 En76 rfl (fun v w he h => by cases h; exact len_spec _ w)) ?_
    refine st (gtr rfl rfl) ?_
    refine en fun a w e' hf => ?_
    replace hT := hT.ext e'
    replace HF := Dv.ex HF e'
    replace hNw := Nat.le_trans hNw e'.size
    replace e := Ext.tr e e'
    replace B3 := B3.ext e'
    replace B8 := B8.ext e'
    clear e'
    refine tl_nil ?_
    repeat refine seq ?_
    refine ifc hf rfl (fun hb => ?_) (fun hb => ?_)
    · have h2 : 2 < card (outM (adjL t) part) := by have := of_decide_eq_true hb; omega
      rw [if_pos h2] at hz'
      have hz : splR t part = 0 := if_neg (by rw [hz']; decide)
      repeat refine seq ?_
      refine regn0 ?_
      refine tl_as hf rfl (by decide) fun a hf => ?_
      refine tl_as hf rfl (by decide) fun a hf => ?_
      refine tl_nil ?_
      refine wret (ret2 rfl hf rfl rfl ?_)
      rintro _ _ rfl rfl
      exact ⟨_, rfl, e, Tup.two (by rw [hz]; rfl) (by rw [hz']; rfl)⟩
    · have h2 : ¬2 < card (outM (adjL t) part) := by have := of_decide_eq_false hb; omega
      rw [if_neg h2] at hz'
      have hz : splR t part = (splitter (adjL t) part : Int) := if_pos hz'
      refine wskip ?_
      try simp only [Exit.then, Exit.inBlock, ↓reduceIte]
      replace hf := hf.keep [3, 6, 8]
      dsimp only [keep, List.filterMap, look, Nat.beq, Option.map] at hf
      repeat refine seq ?_
      refine regn 4 hf (by decide +kernel) ?_
      refine st (mv rfl) ?_
      refine st (ldW T37 rfl B3 rfl) ?_
      refine st (ldW T37 rfl B8 rfl) ?_
      refine st (call3 (A := E (I (splitter (adjL t) part : Nat))) En118 rfl rfl rfl (fun v u s w he h h' h'' => by cases h; cases h'; cases h''; exact spl_spec F part fv w (hT.ext he) (Dv.ex HF he) hin hC hp)) ?_
      refine en fun a w e' hf => ?_
      replace hT := hT.ext e'
      replace HF := Dv.ex HF e'
      replace hNw := Nat.le_trans hNw e'.size
      replace e := Ext.tr e e'
      replace B3 := B3.ext e'
      replace B8 := B8.ext e'
      clear e'
      refine tl_as hf rfl (by decide) fun a hf => ?_
      refine tl_as hf rfl (by decide) fun a hf => ?_
      refine tl_nil ?_
      refine wret (ret2 rfl hf rfl rfl ?_)
      rintro _ _ rfl rfl
      exact ⟨_, rfl, e, Tup.two (by rw [hz]; rfl) (by rw [hz']; rfl)⟩

noncomputable def sptE (t : List (Int × BS)) (part : BS) (p : Int) : Int := if partE t part ≠ 0 then partE t part else if has part p = false then 9 else 0
noncomputable def sptR (t : List (Int × BS)) (part : BS) (p : Int) : List BS := if sptE t part p = 0 then partsB (adjL t) (del part p) else []
theorem spt_spec {G : Nat → Prop} (t : List (Int × BS)) (part : BS) (p : Int) (v : Value) (W : World) (hT : Tab W) (h : (Dv treeE G t).p v W) (hl : t.length ≤ 1000) (hF : FoT t) :
    Calls Tryd.prog 77 #[v, setV part, I p] W (Post (Tup [Dv (slE setE) Go.Mono.G0 (sptR t part p), E (I (sptE t part p))]) W) := by
  have hT0 := hT.lt
  refine enter (args := [v, setV part, I p]) (As := [Dv treeE (GB W Go.Mono.G0) t, E (setV part), E (I p)]) Tryd.func77 rfl Tryd.ntmps77 (Nat.le_of_ble_eq_true rfl) ?_ (fun a hf => ?_) (Nat.le_of_ble_eq_true rfl)
  rotate_left
  dsimp only [params, Nat.reduceAdd] at hf
  rotate_right
  · exact arg3 (Dv.toB (Dv.weak h fun b _ hb => hb.elim)) rfl rfl
  have e := Ext.rfl' W
  obtain ⟨tv, HV, hf⟩ := hf.fix 0 rfl
  clear h
  replace hf := hf.keep [0, 1, 2]
  dsimp only [keep, List.filterMap, look, Nat.beq, Option.map] at hf
  repeat refine seq ?_
  refine regn0 ?_
  refine tl_box hf rfl (by decide) fun a b4 w v4 hv4 e' hb4 hs4 B4 hf => ?_
  have hle4 := Nat.le_trans e.size (Nat.le_of_eq hb4.symm)
  replace hT := hT.ext e'
  replace HV := Dv.ex HV e'
  replace e := Ext.tr e e'
  clear e'
  refine tl_as hf rfl (by decide) fun a hf => ?_
  refine tl_as hf rfl (by decide) fun a hf => ?_
  refine tl_nil ?_
  cases hv4
  replace B4 : Blk w b4 (setC part) 37 := B4
  replace hf := hf.keep [0, 2, 4]
  dsimp only [keep, List.filterMap, look, Nat.beq, Option.map] at hf
  repeat refine seq ?_
  refine regn 6 hf (by decide +kernel) ?_
  refine st (mv rfl) ?_
  refine st (ldW T37 rfl B4 rfl) ?_
  refine st (call2 En126 rfl rfl (fun v u w he h h' => by cases h; cases h'; exact checked_spec t part tv w (hT.ext he) (Dv.ex HV he) hl hF)) ?_
  refine st (mv rfl) ?_
  refine st (ext_ rfl rfl) ?_
  refine st (ext_ rfl rfl) ?_
  refine en fun a w e' hf => ?_
  replace hT := hT.ext e'
  replace HV := Dv.ex HV e'
  replace e := Ext.tr e e'
  replace B4 := B4.ext e'
  clear e'
  refine tl_as hf rfl (by decide) fun a hf => ?_
  refine tl_as hf rfl (by decide) fun a hf => ?_
  refine tl_nil ?_
  replace hf := hf.keep [2, 4, 8, 9]
  dsimp only [keep, List.filterMap, look, Nat.beq, Option.map] at hf
  repeat refine seq ?_
  refine blk ?_
  repeat refine seq ?_
  refine regn 2 hf (by decide +kernel) ?_
  refine st (mv rfl) ?_
  refine st (neq rfl rfl) ?_
  refine en fun a w e' hf => ?_
  replace hT := hT.ext e'
  replace HV := Dv.ex HV e'
  replace e := Ext.tr e e'
  replace B4 := B4.ext e'
  clear e'
  refine tl_as hf rfl (by decide) fun a hf => ?_
  refine tl_nil ?_
  repeat refine seq ?_
  refine ifc hf rfl (fun hb => ?_) (fun hb => ?_)
  · have hb' : partE t part ≠ 0 := by simpa using hb
    have hz' : sptE t part p = partE t part := if_pos hb'
    have hz : sptR t part p = [] := if_neg (by rw [hz']; exact hb')
    repeat refine seq ?_
    refine regn 1 hf (by decide +kernel) ?_
    refine st (mv rfl) ?_
    refine en fun a w e' hf => ?_
    replace hT := hT.ext e'
    replace HV := Dv.ex HV e'
    replace e := Ext.tr e e'
    replace B4 := B4.ext e'
    clear e'
    refine tl_as hf rfl (by decide) fun a hf => ?_
    refine tl_as hf rfl (by decide) fun a hf => ?_
    refine tl_nil ?_
    refine wret ?_
    try simp only [Exit.then, Exit.inBlock]
    refine ret2 rfl hf rfl rfl ?_
    rintro _ _ rfl rfl
    exact ⟨_, rfl, e, Tup.two (by rw [hz]; exact Dv.nil) (by rw [hz']; rfl)⟩
  · have hb' : partE t part = 0 := by simpa using hb
    have hz' : sptE t part p = if has part p = false then 9 else 0 := if_neg (fun h => h hb')
    have h0 : chkR (toT t) = 0 := by
      apply Classical.byContradiction
      intro hh
      rw [partE, if_pos hh] at hb'
      exact hh hb'
    obtain ⟨T, F⟩ := hF h0
    obtain ⟨_, hin, _, _⟩ := partE_ok hb' F
    obtain ⟨fv, hfv, hf⟩ := hf.fix 8 rfl
    have HF : (Dv (slE setE) Go.Mono.G0 (adjL t)).p fv w := hfv.elim (·.2) (fun h => absurd hb' h.1)
    clear hfv
    replace hf := hf.keep [2, 4, 8]
    dsimp only [keep, List.filterMap, look, Nat.beq, Option.map] at hf
    repeat refine seq ?_
    refine regn 4 hf (by decide +kernel) ?_
    refine st (ldW T37 rfl B4 rfl) ?_
    refine st (mv rfl) ?_
    refine st (call2 En23 rfl rfl (fun v u w he h h' => by cases h; cases h'; exact has_spec _ _ w)) ?_
    refine st (notp rfl) ?_
    refine en fun a w e' hf => ?_
    replace hT := hT.ext e'
    replace HF := Dv.ex HF e'
    replace e := Ext.tr e e'
    replace B4 := B4.ext e'
    clear e'
    refine tl_as hf rfl (by decide) fun a hf => ?_
    refine tl_nil ?_
    repeat refine seq ?_
    refine ifc hf rfl (fun hb => ?_) (fun hb => ?_)
    · have hh : has part p = false := by simpa using hb
      rw [if_pos hh] at hz'
      have hz : sptR t part p = [] := if_neg (by rw [hz']; decide)
      repeat refine seq ?_
      refine regn0 ?_
      refine tl_as hf rfl (by decide) fun a hf => ?_
      refine tl_as hf rfl (by decide) fun a hf => ?_
      refine tl_nil ?_
      refine wret ?_
      try simp only [Exit.then, Exit.inBlock]
      refine ret2 rfl hf rfl rfl ?_
      rintro _ _ rfl rfl
      exact ⟨_, rfl, e, Tup.two (by rw [hz]; exact Dv.nil) (by rw [hz']; rfl)⟩
    · have hh : ¬has part p = false := by intro h; rw [h] at hb; cases hb
      rw [if_neg hh] at hz'
      have hz : sptR t part p = partsB (adjL t) (del part p) := if_pos hz'
      refine wskip ?_
      try simp only [Exit.then, Exit.inBlock]
      replace hf := hf.keep [2, 4, 8]
      dsimp only [keep, List.filterMap, look, Nat.beq, Option.map] at hf
      repeat refine seq ?_
      refine regn 4 hf (by decide +kernel) ?_
      refine st (mv rfl) ?_
      refine st (ldW T37 rfl B4 rfl) ?_
      refine st (mv rfl) ?_
      refine st (call3 (A := Dv (slE setE) Go.Mono.G0 (partsB (adjL t) (del part p))) En119 rfl rfl rfl (fun v u s w he h h' h'' => by cases h; cases h'; cases h''; exact split_spec F part p fv w (hT.ext he) (Dv.ex HF he) hin (fun b hb => hb.elim))) ?_
      refine en fun a w e' hf => ?_
      replace hT := hT.ext e'
      replace HF := Dv.ex HF e'
      replace e := Ext.tr e e'
      replace B4 := B4.ext e'
      clear e'
      refine tl_as hf rfl (by decide) fun a hf => ?_
      refine tl_as hf rfl (by decide) fun a hf => ?_
      refine tl_nil ?_
      refine wret ?_
      try simp only [Exit.then, Exit.inBlock]
      refine ret2 rfl hf rfl rfl ?_
      rintro v _ hv rfl
      exact ⟨_, rfl, e, Tup.two (by rw [hz]; exact hv) (by rw [hz']; rfl)⟩
end Go.Mono

set_option linter.unusedVariables false
set_option linter.unusedSimpArgs false
namespace Go.Mono
open Go Go.Proofs Go.RowKit

/-- the parts that Balance comes to -/
def parts0 (t : List (Int × BS)) : List (Int × BS) := balL (adjL t) t.length (belowB t.length) (-1) []
noncomputable def balT (t : List (Int × BS)) : List (Int × BS) := if chkR (toT t) = 0 then (parts0 t).map (bagOf (adjL t) t) else []
noncomputable def balAt (t : List (Int × BS)) : List Int := if chkR (toT t) = 0 then (parts0 t).map (atOf (adjL t)) else []
theorem below_bit' (n i : Nat) (hn : n ≤ 1024) : (belowB n).getLsbD i = true ↔ i < n := by
  by_cases hi : i < 1024
  · rw [below_bit _ _ hi, decide_eq_true_eq]
  · constructor
    · intro h; exact absurd (bit_lt h) hi
    · intro h; omega
theorem Pt.all {t : List (Int × BS)} {T : Tr} (F : Fo (adjL t) T) (h0 : 0 < t.length) : Pt (adjL t) T (belowB t.length) ∧ card (belowB t.length) ≤ t.length := by
  have hn : T.n = t.length := by rw [← F.len, adjL_len]
  have hle := F.le
  have hb : ∀ i, (belowB t.length).getLsbD i = true ↔ i < T.n := fun i => by rw [below_bit' _ _ (by omega), hn]
  have hbits : bits (belowB t.length) = fun i => i < T.n := by funext i; exact propext (hb i)
  refine ⟨⟨fun i hi => (hb i).1 hi, by rw [hbits]; exact Tr.conn_all, ⟨0, (hb 0).2 (by omega)⟩, ?_⟩, card_le_n fun i hi => by rw [← hn]; exact (hb i).1 hi⟩
  have : outM (adjL t) (belowB t.length) = 0 := set_ext' fun k => by
    rw [out_bit F (fun i hi => (hb i).1 hi)]
    constructor
    · rintro ⟨h1, h2, _⟩; exact absurd ((hb k).2 h1) h2
    · intro h; exact absurd h (bit_zero k)
  rw [this, card_zero]; omega

theorem balance_spec {G : Nat → Prop} (t : List (Int × BS)) (v : Value) (W : World) (hT : Tab W) (h : (Dv treeE G t).p v W) (hl : t.length ≤ 1000) (hF : FoT t) :
    Calls Tryd.prog 56 #[v] W (Post (Tup [Dv treeE Go.Mono.G0 (balT t), Dv (slE intE) Go.Mono.G0 (balAt t), E (I (chkR (toT t)))]) W) := by
  have hT0 := hT.lt
  refine enter (args := [v]) (As := [Dv treeE (GB W Go.Mono.G0) t]) Tryd.func56 rfl Tryd.ntmps56 (Nat.le_of_ble_eq_true rfl) ?_ (fun a hf => ?_) (Nat.le_of_ble_eq_true rfl)
  rotate_left
  dsimp only [params, Nat.reduceAdd] at hf
  rotate_right
  · exact arg1 (Dv.toB (Dv.weak h fun b _ hb => hb.elim))
  have e := Ext.rfl' W
  obtain ⟨tv, HV, hf⟩ := hf.fix 0 rfl
  clear h
  have h1 := one_cells (Dv.slOne HV)
  replace hf := hf.keep [0]
  dsimp only [keep, List.filterMap, look, Nat.beq, Option.map] at hf
  repeat refine seq ?_
  refine regn0 ?_
  refine tl_box hf rfl (by decide) fun a b1 w v1 hv1 e' hb1 hs1 B1 hf => ?_
  have hle1 := Nat.le_trans e.size (Nat.le_of_eq hb1.symm)
  replace hT := hT.ext e'
  replace HV := Dv.ex HV e'
  replace e := Ext.tr e e'
  clear e'
  refine tl_as hf rfl (by decide) fun a hf => ?_
  refine tl_as hf rfl (by decide) fun a hf => ?_
  refine tl_as hf rfl (by decide) fun a hf => ?_
  refine tl_nil ?_
  cases hv1
  rw [h1] at B1
  replace hf := hf.keep [1]
  dsimp only [keep, List.filterMap, look, Nat.beq, Option.map] at hf
  repeat refine seq ?_
  refine regn 5 hf (by decide +kernel) ?_
  refine st (ld1 T23 rfl B1 rfl) ?_
  refine st (call1 En115 rfl (fun v w he h => by cases h; exact nb_spec t tv w (hT.ext he) (Dv.ex HV he) hl)) ?_
  refine st (mv rfl) ?_
  refine st (ext_ rfl rfl) ?_
  refine st (ext_ rfl rfl) ?_
  refine en fun a w e' hf => ?_
  replace hT := hT.ext e'
  replace HV := Dv.ex HV e'
  replace e := Ext.tr e e'
  replace B1 := B1.ext e'
  clear e'
  obtain ⟨fv, hfv, hf⟩ := hf.fix 13 rfl
  have hfo : fv.oneCell' = true := hfv.elim (fun h => Dv.slOne h.2) (fun h => by rw [h.2]; rfl)
  have hNw : W.heap.size ≤ w.heap.size := e.size
  obtain ⟨N0, hN0⟩ : ∃ N0, N0 = w.heap.size := ⟨_, rfl⟩
  have HF : (NbA t (fun b => N0 ≤ b)).p fv w := hfv.imp (fun h => ⟨h.1, Dv.weak h.2 fun b hb hg => absurd hb (Nat.not_lt.2 (by omega))⟩) id
  have HFx : ∀ {w w' : World}, (NbA t (fun b => N0 ≤ b)).p fv w → Ext w w' → (NbA t (fun b => N0 ≤ b)).p fv w' := fun h e => (NbA t _).st _ _ _ e h
  have HFg : ∀ {w w' : World} {b : Nat}, (NbA t (fun b => N0 ≤ b)).p fv w → w.grownBy w' (some b) → N0 ≤ b → (NbA t (fun b => N0 ≤ b)).p fv w' := fun h hg hb => h.imp (fun h => ⟨h.1, Dv.gr h.2 hg hb⟩) id
  have l1 := B1.lt
  clear hfv
  have hNN : N0 ≤ w.heap.size := by omega
  replace hf := hf.keep [1, 13, 14]
  dsimp only [keep, List.filterMap, look, Nat.beq, Option.map] at hf
  refine tl_alloc I125 hf (by decide) fun a b5 w e' hb5 hs5 B5 hf => ?_
  have hle5 := Nat.le_trans e.size (Nat.le_of_eq hb5.symm)
  have lo5_hNN := Nat.le_trans hNN (Nat.le_of_eq hb5.symm)
  have lt5_B1 := B1.lt
  replace hT := hT.ext e'
  replace HV := Dv.ex HV e'
  replace HF := HFx HF e'
  replace hNN := Nat.le_trans hNN e'.size
  replace e := Ext.tr e e'
  replace B1 := B1.ext e'
  clear e'
  haveI hinr : ∀ G0, InR (GB W G0) (some b5) := fun G0 => InR.gb (by omega)
  refine tl_st1 T125 hf rfl rfl (hfo) B5 (by exact Nat.zero_lt_one) fun w hg hsz B5 hf => ?_
  replace hT := hT.gr hg (by omega)
  replace HV := Dv.gr HV hg (.inr (by omega))
  replace HF := HFg HF hg (by omega)
  replace hNN := Nat.le_trans hNN (Nat.le_of_eq hsz.symm)
  replace e := e.gr hg (by omega)
  replace B1 := B1.gr hg (by omega)
  clear hg
  refine tl_as hf rfl (by decide) fun a hf => ?_
  refine tl_nil ?_
  replace B5 : Blk w b5 #[fv] 125 := B5
  have n5 : N0 ≤ b5 ∧ W.heap.size ≤ b5 ∧ b5 ≠ b1 := by omega
  replace hf := hf.keep [1, 5, 6]
  dsimp only [keep, List.filterMap, look, Nat.beq, Option.map] at hf
  repeat refine seq ?_
  refine regn 2 hf (by decide +kernel) ?_
  refine st (mv rfl) ?_
  refine st (neq rfl rfl) ?_
  refine en fun a w e' hf => ?_
  replace hT := hT.ext e'
  replace HV := Dv.ex HV e'
  replace HF := HFx HF e'
  replace hNN := Nat.le_trans hNN e'.size
  replace e := Ext.tr e e'
  replace B1 := B1.ext e'
  replace B5 := B5.ext e'
  clear e'
  refine tl_nil ?_
  repeat refine seq ?_
  refine ifc hf rfl (fun hb => ?_) (fun hb => ?_)
  · have hb' : chkR (toT t) ≠ 0 := by simpa using hb
    have e1 : balT t = [] := if_neg hb'
    have e2 : balAt t = [] := if_neg hb'
    repeat refine seq ?_
    refine regn 1 hf (by decide +kernel) ?_
    refine st (mv rfl) ?_
    refine en fun a w e' hf => ?_
    replace hT := hT.ext e'
    replace HV := Dv.ex HV e'
    replace HF := HFx HF e'
    replace hNN := Nat.le_trans hNN e'.size
    replace e := Ext.tr e e'
    replace B1 := B1.ext e'
    replace B5 := B5.ext e'
    clear e'
    refine tl_as hf rfl (by decide) fun a hf => ?_
    refine tl_as hf rfl (by decide) fun a hf => ?_
    refine tl_as hf rfl (by decide) fun a hf => ?_
    refine tl_nil ?_
    refine wret (ret3 rfl hf rfl rfl rfl ?_)
    rintro _ _ _ rfl rfl rfl
    exact ⟨_, rfl, e, Tup.three (by rw [e1]; exact Dv.nil) (by rw [e2]; exact Dv.nil) rfl⟩
  have hb' : chkR (toT t) = 0 := by simpa using hb
  clear hb
  have e1 : balT t = (parts0 t).map (bagOf (adjL t) t) := if_pos hb'
  have e2 : balAt t = (parts0 t).map (atOf (adjL t)) := if_pos hb'
  obtain ⟨h0, _⟩ := chkR_ok.1 hb'
  rw [toT_len] at h0
  obtain ⟨T, F⟩ := hF hb'
  have hn : T.n = t.length := by rw [← F.len, adjL_len]
  obtain ⟨PA, hPc⟩ := Pt.all F h0
  have HV2 : (Dv treeE (fun b => N0 ≤ b) t).p tv w := Dv.weak HV fun b _ hb => .inr (by omega)
  replace HF : (Dv (slE setE) (fun b => N0 ≤ b) (adjL t)).p fv w := HF.elim (·.2) (fun h => absurd hb' h.1)
  clear HFx HFg hfo
  refine wskip ?_
  try simp only [Exit.then, Exit.inBlock, ↓reduceIte]
  replace hf := hf.keep [1, 5]
  dsimp only [keep, List.filterMap, look, Nat.beq, Option.map] at hf
  repeat refine seq ?_
  refine regn0 ?_
  refine tl_alloc I23 hf (by decide) fun a b7 w e' hb7 hs7 B7 hf => ?_
  have hle7 := Nat.le_trans e.size (Nat.le_of_eq hb7.symm)
  have lo7_hNN := Nat.le_trans hNN (Nat.le_of_eq hb7.symm)
  have lt7_B1 := B1.lt
  have lt7_B5 := B5.lt
  replace hT := hT.ext e'
  replace HV2 := Dv.ex HV2 e'
  replace HF := Dv.ex HF e'
  replace hNN := Nat.le_trans hNN e'.size
  replace e := Ext.tr e e'
  replace B1 := B1.ext e'
  replace B5 := B5.ext e'
  clear e'
  refine tl_nil ?_
  replace B7 : Blk w b7 #[.slice none 0 0] 23 := B7
  have n7 : N0 ≤ b7 ∧ W.heap.size ≤ b7 ∧ b7 ≠ b1 ∧ b7 ≠ b5 := by have := B5.lt; have := B1.lt; omega
  replace hf := hf.keep [1, 5, 7]
  dsimp only [keep, List.filterMap, look, Nat.beq, Option.map] at hf
  repeat refine seq ?_
  refine regn0 ?_
  refine tl_alloc I43 hf (by decide) fun a b8 w e' hb8 hs8 B8 hf => ?_
  have hle8 := Nat.le_trans e.size (Nat.le_of_eq hb8.symm)
  have lo8_hNN := Nat.le_trans hNN (Nat.le_of_eq hb8.symm)
  have lt8_B1 := B1.lt
  have lt8_B5 := B5.lt
  have lt8_B7 := B7.lt
  replace hT := hT.ext e'
  replace HV2 := Dv.ex HV2 e'
  replace HF := Dv.ex HF e'
  replace hNN := Nat.le_trans hNN e'.size
  replace e := Ext.tr e e'
  replace B1 := B1.ext e'
  replace B5 := B5.ext e'
  replace B7 := B7.ext e'
  clear e'
  refine tl_nil ?_
  replace B8 : Blk w b8 #[.slice none 0 0] 43 := B8
  have n8 : N0 ≤ b8 ∧ W.heap.size ≤ b8 ∧ b8 ≠ b1 ∧ b8 ≠ b5 ∧ b8 ≠ b7 := by have := B5.lt; have := B1.lt; have := B7.lt; omega
  replace hf := hf.keep [1, 5, 7, 8]
  dsimp only [keep, List.filterMap, look, Nat.beq, Option.map] at hf
  repeat refine seq ?_
  refine regn0 ?_
  refine tl_alloc I128 hf (by decide) fun a b9 w e' hb9 hs9 B9 hf => ?_
  have hle9 := Nat.le_trans e.size (Nat.le_of_eq hb9.symm)
  have lo9_hNN := Nat.le_trans hNN (Nat.le_of_eq hb9.symm)
  have lt9_B1 := B1.lt
  have lt9_B5 := B5.lt
  have lt9_B7 := B7.lt
  have lt9_B8 := B8.lt
  replace hT := hT.ext e'
  replace HV2 := Dv.ex HV2 e'
  replace HF := Dv.ex HF e'
  replace hNN := Nat.le_trans hNN e'.size
  replace e := Ext.tr e e'
  replace B1 := B1.ext e'
  replace B5 := B5.ext e'
  replace B7 := B7.ext e'
  replace B8 := B8.ext e'
  clear e'
  refine tl_nil ?_
  have n9 : N0 ≤ b9 ∧ W.heap.size ≤ b9 ∧ b9 ≠ b1 ∧ b9 ≠ b5 ∧ b9 ≠ b7 ∧ b9 ≠ b8 := by have := B5.lt; have := B1.lt; have := B7.lt; have := B8.lt; omega
  replace hf := hf.keep [1, 5, 7, 8, 9]
  dsimp only [keep, List.filterMap, look, Nat.beq, Option.map] at hf
  repeat refine seq ?_
  refine regn 1 hf (by decide +kernel) ?_
  refine st (makeF5 rfl rfl rfl rfl rfl) ?_
  refine en fun a w e' hf => ?_
  replace hT := hT.ext e'
  replace HV2 := Dv.ex HV2 e'
  replace HF := Dv.ex HF e'
  replace hNN := Nat.le_trans hNN e'.size
  replace e := Ext.tr e e'
  replace B1 := B1.ext e'
  replace B5 := B5.ext e'
  replace B7 := B7.ext e'
  replace B8 := B8.ext e'
  replace B9 := B9.ext e'
  clear e'
  haveI hinr : ∀ G0, InR (GB W G0) (some b9) := fun G0 => InR.gb (by omega)
  refine tl_st1 T128 hf rfl rfl rfl B9 (by exact Nat.zero_lt_one) fun w hg hsz B9 hf => ?_
  replace hT := hT.gr hg (by omega)
  replace HV2 := Dv.gr HV2 hg (by omega)
  replace HF := Dv.gr HF hg (by omega)
  replace hNN := Nat.le_trans hNN (Nat.le_of_eq hsz.symm)
  replace e := e.gr hg (by omega)
  replace B1 := B1.gr hg (by omega)
  replace B5 := B5.gr hg (by omega)
  replace B7 := B7.gr hg (by omega)
  replace B8 := B8.gr hg (by omega)
  clear hg
  refine tl_nil ?_
  replace B9 : Blk w b9 #[bfn b5 b1 b7 b8 b9] 128 := B9
  replace hf := hf.keep [1, 5, 7, 8, 9]
  dsimp only [keep, List.filterMap, look, Nat.beq, Option.map] at hf
  repeat refine seq ?_
  refine reg 4 Mix.mix hf (by decide +kernel) ?_
  refine st (ld1 T128 rfl B9 rfl) ?_
  refine st (ld1 T23 rfl B1 rfl) ?_
  refine st (lenD Tryd.underlying23 (isE rfl HV2)) ?_
  refine st (call1 En120 rfl (fun v w he h => by cases h; exact below_spec' t.length w (by omega))) ?_
  refine en fun a w e' hf => ?_
  replace hT := hT.ext e'
  replace HV2 := Dv.ex HV2 e'
  replace HF := Dv.ex HF e'
  replace hNN := Nat.le_trans hNN e'.size
  replace e := Ext.tr e e'
  replace B1 := B1.ext e'
  replace B5 := B5.ext e'
  replace B7 := B7.ext e'
  replace B8 := B8.ext e'
  replace B9 := B9.ext e'
  clear e'
  have v22 : a.eval (.tmp 22) = setV (belowB t.length) := hf.val 22 _ rfl
  have vc : a.eval (.const (I (-1))) = I (-1) := rfl
  have hN0p : 0 < N0 := by omega
  have K : BK (adjL t) t N0 b5 b1 b7 b8 b9 fv tv w := ⟨hT, HF, HV2, B5, B1, B9⟩
  have St : BSt (adjL t) t N0 b7 b8 [] (.slice none 0 0) (.slice none 0 0) w := ⟨B7, B8, OwR.nil bagE _ hNN (fun b hb => hb.elim), OwR.nil intE _ hNN (fun b hb => hb.elim)⟩
  refine tl_callV (S := SB b7 b8 (.slice none 0 0) (.slice none 0 0)) (F := fun w' => ∃ ut' ua', BSt (adjL t) t N0 b7 b8 (parts0 t) ut' ua' w' ∧ ∀ b, SB b7 b8 ut' ua' b → SB b7 b8 (.slice none 0 0) (.slice none 0 0) b ∨ w.heap.size ≤ b) (A := Any) hf (by decide) En116 rfl ?_ fun a w' hc hFF hf => ?_
  · have := balc_spec F t hn.symm N0 b5 b1 b7 b8 b9 fv tv hN0p n7.1 n8.1 (Ne.symm n7.2.2.1) t.length (belowB t.length) (-1) [] _ _ w PA hPc (by simp; omega) K St
    unfold parts0
    simpa [v22, vc] using this
  obtain ⟨ut', ua', St', _⟩ := hFF
  replace e := e.ch hc fun b hb => by
    rcases hb with rfl | rfl | hb | hb
    · exact n7.2.1
    · exact n8.2.1
    · simp [Value.ownBlock] at hb
    · simp [Value.ownBlock] at hb
  clear hc K St v22 vc
  refine tl_nil ?_
  replace hf := hf.keep [7, 8]
  dsimp only [keep, List.filterMap, look, Nat.beq, Option.map] at hf
  generalize w' = w at *
  have H1 := St'.ht.sl
  have H2 := St'.ha.sl
  repeat refine seq ?_
  refine reg 5 Mix.mix hf (by decide +kernel) ?_
  refine st (ld1 (v := ut') T23 rfl St'.a rfl) ?_
  refine st (ld1 (v := ua') T43 rfl St'.b rfl) ?_
  refine st (asg rfl) ?_
  refine st (asg rfl) ?_
  refine st (asg rfl) ?_
  refine en fun a w e' hf => ?_
  replace H1 := Dv.ex H1 e'
  replace H2 := Dv.ex H2 e'
  replace e := Ext.tr e e'
  clear e'
  refine tl_nil ?_
  refine wret (ret3 rfl hf rfl rfl rfl ?_)
  rintro _ _ _ rfl rfl rfl
  exact ⟨_, rfl, e, Tup.three (by rw [e1]; exact H1) (by rw [e2]; exact H2) (by rw [hb']; rfl)⟩
end Go.Mono

set_option linter.unusedVariables false
set_option linter.unusedSimpArgs false
namespace Go.Mono

theorem foldl_bit_or {α : Type} (i : Nat) (f : BS → α → BS) (q : α → Prop) : ∀ (l : List α) (S : BS), (∀ S, ∀ x ∈ l, (f S x).getLsbD i = true ↔ S.getLsbD i = true ∨ q x) → ((l.foldl f S).getLsbD i = true ↔ S.getLsbD i = true ∨ ∃ x ∈ l, q x)
  | [], S, _ => by simp
  | x :: l, S, h => by
    rw [List.foldl_cons, foldl_bit_or i f q l (f S x) fun S y hy => h S y (by simp [hy]), h S x (by simp)]
    clear h
    constructor
    · rintro ((h | h) | ⟨y, hy, h⟩)
      · exact .inl h
      · exact .inr ⟨x, by simp, h⟩
      · exact .inr ⟨y, by simp [hy], h⟩
    · rintro (h | ⟨y, hy, h⟩)
      · exact .inl (.inl h)
      · rcases List.mem_cons.1 hy with rfl | hy
        · exact .inl (.inr h)
        · exact .inr ⟨y, hy, h⟩
theorem adjK_bit (t : List (Int × BS)) (n j i : Nat) (hj : j < 1024) (hi : i < 1024) (hr : ∀ r, r < n → (bg t r).1 < 1024) (hs : ∀ r, r < n → (bg t r).1 ≠ (r : Int)) (hn : n ≤ 1024) :
    (adjK t n j).getLsbD i = true ↔ ∃ r, r < n ∧ 0 ≤ (bg t r).1 ∧ (((bg t r).1 = (j : Int) ∧ i = r) ∨ (j = r ∧ (bg t r).1 = (i : Int))) := by
  unfold adjK
  rw [foldl_bit_or i _ (fun r => 0 ≤ (bg t r).1 ∧ (((bg t r).1 = (j : Int) ∧ i = r) ∨ (j = r ∧ (bg t r).1 = (i : Int))))]
  · constructor
    · rintro (h | ⟨r, hr, h⟩)
      · exact absurd h (bit_zero i)
      · exact ⟨r, List.mem_range.1 hr, h⟩
    · rintro ⟨r, hr, h⟩
      exact .inr ⟨r, List.mem_range.2 hr, h⟩
  · intro S r hrm
    have hrn := List.mem_range.1 hrm
    by_cases h1 : (bg t r).1 < 0
    · rw [if_pos h1]
      exact ⟨.inl, fun h => h.elim id fun h => by omega⟩
    · rw [if_neg h1]
      have hlt := hr r hrn
      by_cases h2 : (bg t r).1 = (j : Int)
      · rw [if_pos h2, bit_ins S (by omega)]
        constructor
        · rintro (h | rfl)
          · exact .inl h
          · exact .inr ⟨by omega, .inl ⟨h2, rfl⟩⟩
        · rintro (h | ⟨_, ⟨_, h⟩ | ⟨h3, h4⟩⟩)
          · exact .inl h
          · exact .inr h
          · exact absurd (h2.trans (by rw [h3])) (hs r hrn)
      · rw [if_neg h2]
        by_cases h3 : r = j
        · obtain ⟨q, hq⟩ : ∃ q : Nat, (bg t r).1 = (q : Int) := ⟨(bg t r).1.toNat, by omega⟩
          rw [if_pos h3, hq, bit_ins S (by omega)]
          constructor
          · rintro (h | rfl)
            · exact .inl h
            · exact .inr ⟨by omega, .inr ⟨h3.symm, rfl⟩⟩
          · rintro (h | ⟨_, ⟨h, _⟩ | ⟨_, h⟩⟩)
            · exact .inl h
            · rw [hq] at h2; exact absurd h h2
            · exact .inr (by omega)
        · rw [if_neg h3]
          exact ⟨.inl, fun h => h.elim id fun ⟨_, h⟩ => by
            rcases h with ⟨h, _⟩ | ⟨h, _⟩
            · exact absurd h h2
            · exact absurd h.symm h3⟩
/-- the tree that the numbers above make -/
noncomputable def trOf (xs : List RB) (V : Vals xs) : Tr where
  n := xs.length
  par i := if up xs i < 0 then none else some (up xs i).toNat
  dep := depthR xs
  lt := fun {i j} hi h => by
    have := V.range i hi
    split at h
    · cases h
    · cases h; omega
  dp := fun {i j} hi h => by
    split at h
    · cases h
    · cases h; exact depth_step V hi (by omega)
  one := fun {i j} hi hj h1 h2 => by
    have u1 : up xs i < 0 := by
      apply Classical.byContradiction
      intro h; rw [if_neg h] at h1; cases h1
    have u2 : up xs j < 0 := by
      apply Classical.byContradiction
      intro h; rw [if_neg h] at h2; cases h2
    have hl := (selN_two (p := fun i => decide (up xs i < 0)) (n := xs.length)).1 (by rw [V.root]; exact Nat.le_refl _)
    rcases Nat.lt_trichotomy i j with h | h | h
    · exact absurd ⟨decide_eq_true u2, decide_eq_true u1⟩ (hl i j h hj)
    · exact h
    · exact absurd ⟨decide_eq_true u1, decide_eq_true u2⟩ (hl j i h hi)
theorem trOf_par {xs : List RB} (V : Vals xs) {i j : Nat} (hi : i < xs.length) : (trOf xs V).par i = some j ↔ up xs i = (j : Int) := by
  have := V.range i hi
  show (if up xs i < 0 then none else some (up xs i).toNat) = some j ↔ _
  by_cases h : up xs i < 0
  · rw [if_pos h]
    exact ⟨fun h => (by cases h), fun h' => by omega⟩
  · rw [if_neg h]
    constructor
    · intro h'; cases h'; omega
    · intro h'; rw [h']; rfl
theorem fo_tree {t : List (Int × BS)} (hl : t.length ≤ 1000) (V : Vals (toT t)) : Fo (adjL t) (trOf (toT t) V) := by
  have hn : (trOf (toT t) V).n = t.length := toT_len t
  refine ⟨by rw [hn, adjL_len], by omega, fun {j i} hj => ?_⟩
  have hjt : j < t.length := by omega
  have hup : ∀ r, r < t.length → up (toT t) r = (bg t r).1 := fun r hr => toT_up hr
  have hrg : ∀ r, r < t.length → -1 ≤ (bg t r).1 ∧ (bg t r).1 < t.length := fun r hr => by
    have := V.range r (by rw [toT_len]; exact hr)
    rw [hup r hr, toT_len] at this
    exact this
  have hself : ∀ r, r < t.length → (bg t r).1 ≠ (r : Int) := fun r hr h => up_ne V (by rw [toT_len]; exact hr) (by rw [hup r hr]; exact h) rfl
  have hsg : sg (adjL t) j = adjK t t.length j := by
    have : (adjL t)[j]? = some (adjK t t.length j) := by rw [adjL, List.getElem?_map, List.getElem?_range hjt]; rfl
    rw [sg, this]
  have par : ∀ r k, r < t.length → ((trOf (toT t) V).par r = some k ↔ (bg t r).1 = (k : Int)) := fun r k hr => by
    rw [trOf_par V (by rw [toT_len]; exact hr), hup r hr]
  rw [hsg, hn]
  by_cases hi : i < 1024
  · rw [adjK_bit t t.length j i (by omega) hi (fun r hr => by have := hrg r hr; omega) hself (by omega)]
    constructor
    · rintro ⟨r, hr, h0, ⟨h1, rfl⟩ | ⟨rfl, h1⟩⟩
      · exact ⟨hr, .inr ((par _ _ hr).2 h1)⟩
      · have := hrg _ hr
        exact ⟨by omega, .inl ((par _ _ hr).2 h1)⟩
    · rintro ⟨hit, h | h⟩
      · have := (par _ _ hjt).1 h
        exact ⟨j, hjt, by omega, .inr ⟨rfl, this⟩⟩
      · have := (par _ _ hit).1 h
        exact ⟨i, hit, by omega, .inl ⟨this, rfl⟩⟩
  · constructor
    · intro h; exact absurd (bit_lt h) hi
    · rintro ⟨h, _⟩; omega
/-- each tree of bags has its forest -/
theorem foT {t : List (Int × BS)} (hl : t.length ≤ 1000) : FoT t := fun h => ⟨_, fo_tree hl (chkR_ok.1 h).2⟩
end Go.Mono

set_option linter.unusedVariables false
set_option linter.unusedSimpArgs false
namespace Go.Mono
open Go Go.Proofs Go.RowKit

theorem idxStr {P : Program} {w0 : World} {L : Env} {dst : Option Tmp} {ty : TypeId} {pos : String} {aft : Array Edge} {g : Option (Nat × Bool)} {x y : Operand} {t : TypeId} {s : _} {k : IntKind} {i : Int} {z : Nat} (ht : P.underlying t = some .string) (hx : opd L x = some (E (.string s))) (hy : opd L y = some (E (.int k i))) (hi : 0 ≤ i) (hc : (s[i.toNat]?).map (·.toNat) = some z) :
    OpC P w0 L ⟨dst, .index t x y, ty, pos, aft, g⟩ (E (.int .u8 (z : Int))) :=
  opc_pure fun ρ w _ hv => by
    have h1 := opE hv (x := x) (by simp [Op.operands]) hx
    have h2 := opE hv (x := y) (by simp [Op.operands]) hy
    refine ⟨_, ?_, rfl⟩
    cases hb : s[i.toNat]? with
    | none => rw [hb] at hc; cases hc
    | some b =>
      rw [hb] at hc
      cases hc
      simp [execOp, h1, h2, Instr.index, asIntOf, run_underlying ht, hi, hb]
theorem dg_shift : ∀ (k n : Nat), 2 ^ k ≤ n → dg n = k + dg (n / 2 ^ k)
  | 0, n, _ => by simp
  | k + 1, n, h => by
    have h1 : 0 < 2 ^ k := Nat.pow_pos (by decide)
    rw [Nat.pow_succ] at h
    rw [dg_step (by omega), dg_shift k (n / 2) (by omega), Nat.pow_succ, Nat.mul_comm (2 ^ k) 2, ← Nat.div_div_eq_div_mul]
    omega
def hfN (k n : Nat) : Nat := if 2 ^ k ≤ n then n / 2 ^ k else n
def hfA (k n : Nat) : Nat := if 2 ^ k ≤ n then k else 0
theorem hf_dg (k n : Nat) : dg n = hfA k n + dg (hfN k n) := by
  unfold hfA hfN
  split
  · rw [dg_shift k n ‹_›]
  · omega
theorem hf_lt {k n : Nat} (h : n < 2 ^ k * 2 ^ k) : hfN k n < 2 ^ k := by
  unfold hfN
  split
  · exact Nat.div_lt_of_lt_mul h
  · omega
def tabL : List Nat := (List.range 256).map dg
theorem hf_bv (k : Nat) (x : BitVec 64) : (if 2 ^ k ≤ x.toNat then x >>> k else x).toNat = hfN k x.toNat := by
  unfold hfN
  split
  · rw [BitVec.toNat_ushiftRight, Nat.shiftRight_eq_div_pow]
  · rfl
theorem tab_get : ∀ n, n < 256 → tabL[n]? = some (dg n) := fun n hn => by rw [tabL, List.getElem?_map, List.getElem?_range hn]; rfl
theorem dg_8 {n : Nat} (h : n < 256) : dg n ≤ 8 := by
  have := dg_mono 255 n (by omega)
  have e : dg 255 = 8 := by decide +kernel
  omega

theorem len64_spec (x : BitVec 64) (W : World) : Calls Tryd.prog 150 #[Mono.W x] W (Post (E (I (dg x.toNat : Nat))) W) := by
  refine enter (args := [Mono.W x]) (As := [E (Mono.W x)]) Tryd.func150 rfl Tryd.ntmps150 (Nat.le_of_ble_eq_true rfl) ?_ (fun a hf => ?_) (Nat.le_of_ble_eq_true rfl)
  rotate_left
  dsimp only [params, Nat.reduceAdd] at hf
  rotate_right
  · exact arg1 rfl
  have e := Ext.rfl' W
  have hx := x.isLt
  repeat refine seq ?_
  refine regn0 ?_
  refine tl_as hf rfl (by decide) fun a hf => ?_
  refine tl_nil ?_
  repeat refine seq ?_
  refine regn 2 hf (by decide +kernel) ?_
  refine st (mv rfl) ?_
  refine st (geq (b := 4294967296) rfl rfl) ?_
  refine en fun a w e' hf => ?_
  replace e := Ext.tr e e'
  clear e'
  refine tl_nil ?_
  obtain ⟨x1, hx1⟩ : ∃ x1 : BitVec 64, x1 = if 2 ^ 32 ≤ x.toNat then x >>> 32 else x := ⟨_, rfl⟩
  have e1 : x1.toNat = hfN 32 x.toNat := by rw [hx1, hf_bv]
  have l1 : x1.toNat < 2 ^ 32 := by rw [e1]; exact hf_lt (by omega)
  obtain ⟨a1, ha1⟩ : ∃ a1, a1 = hfA 32 x.toNat := ⟨_, rfl⟩
  have m1 : a1 ≤ 32 := by rw [ha1, hfA]; split <;> omega
  repeat refine seq ?_
  refine cut (J := fun a w => Fr 25 a w [(0, E (Mono.W x1)), (2, E (I (a1 : Nat)))] ∧ Ext W w ∧ True) ?_ (fun a w hJ => ?_)
  · repeat refine seq ?_
    refine ifc hf rfl (fun hb => ?_) (fun hb => ?_)
    · have hb' : 2 ^ 32 ≤ x.toNat := by have := of_decide_eq_true hb; omega
      rw [if_pos hb'] at hx1
      have ha1' : a1 = 32 := by rw [ha1, hfA, if_pos hb']
      repeat refine seq ?_
      refine regn 2 hf (by decide +kernel) ?_
      refine st (mv rfl) ?_
      refine st ((shrW rfl rfl (by omega)).eq (congrArg Mono.W hx1.symm)) ?_
      refine en fun a w e' hf => ?_
      replace e := Ext.tr e e'
      clear e'
      refine tl_as hf rfl (by decide) fun a hf => ?_
      refine tl_nil ?_
      repeat refine seq ?_
      refine regn0 ?_
      refine tl_as hf rfl (by decide) fun a hf => ?_
      refine tl_nil ?_
      rw [show (Value.int .i64 32) = Value.int .i64 ((a1 : Nat) : Int) from by rw [ha1']; rfl] at hf
      replace hf := hf.keep [0, 2]
      dsimp only [keep, List.filterMap, look, Nat.beq, Option.map] at hf
      exact ⟨rfl, hf, e, trivial⟩
    · have hb' : ¬2 ^ 32 ≤ x.toNat := by have := of_decide_eq_false hb; omega
      rw [if_neg hb'] at hx1
      have ha1' : a1 = 0 := by rw [ha1, hfA, if_neg hb']
      refine wskip ?_
      rw [show (Value.int .i64 0) = Value.int .i64 ((a1 : Nat) : Int) from by rw [ha1']; rfl, ← hx1] at hf
      replace hf := hf.keep [0, 2]
      dsimp only [keep, List.filterMap, look, Nat.beq, Option.map] at hf
      exact ⟨rfl, hf, e, trivial⟩
  clear hf e 
  obtain ⟨hf, e, _⟩ := hJ
  try simp only [Exit.then]
  clear hx1
  repeat refine seq ?_
  refine regn 2 hf (by decide +kernel) ?_
  refine st (mv rfl) ?_
  refine st (geq (b := 65536) rfl rfl) ?_
  refine en fun a w e' hf => ?_
  replace e := Ext.tr e e'
  clear e'
  refine tl_nil ?_
  obtain ⟨x2, hx2⟩ : ∃ x2 : BitVec 64, x2 = if 2 ^ 16 ≤ x1.toNat then x1 >>> 16 else x1 := ⟨_, rfl⟩
  have e2 : x2.toNat = hfN 16 x1.toNat := by rw [hx2, hf_bv]
  have l2 : x2.toNat < 2 ^ 16 := by rw [e2]; exact hf_lt (by omega)
  obtain ⟨a2, ha2⟩ : ∃ a2, a2 = hfA 16 x1.toNat := ⟨_, rfl⟩
  have m2 : a2 ≤ 16 := by rw [ha2, hfA]; split <;> omega
  repeat refine seq ?_
  refine cut (J := fun a w => Fr 25 a w [(0, E (Mono.W x2)), (2, E (I (a1 + a2 : Nat)))] ∧ Ext W w ∧ True) ?_ (fun a w hJ => ?_)
  · repeat refine seq ?_
    refine ifc hf rfl (fun hb => ?_) (fun hb => ?_)
    · have hb' : 2 ^ 16 ≤ x1.toNat := by have := of_decide_eq_true hb; omega
      rw [if_pos hb'] at hx2
      have ha2' : a2 = 16 := by rw [ha2, hfA, if_pos hb']
      repeat refine seq ?_
      refine regn 2 hf (by decide +kernel) ?_
      refine st (mv rfl) ?_
      refine st ((shrW rfl rfl (by omega)).eq (congrArg Mono.W hx2.symm)) ?_
      refine en fun a w e' hf => ?_
      replace e := Ext.tr e e'
      clear e'
      refine tl_as hf rfl (by decide) fun a hf => ?_
      refine tl_nil ?_
      repeat refine seq ?_
      refine regn 2 hf (by decide +kernel) ?_
      refine st (mv rfl) ?_
      refine st ((add rfl rfl (by omega)).eq (congrArg (Value.int .i64) (show (a1 : Int) + 16 = ((a1 + a2 : Nat) : Int) by rw [ha2']; rfl))) ?_
      refine en fun a w e' hf => ?_
      replace e := Ext.tr e e'
      clear e'
      refine tl_as hf rfl (by decide) fun a hf => ?_
      refine tl_nil ?_
      replace hf := hf.keep [0, 2]
      dsimp only [keep, List.filterMap, look, Nat.beq, Option.map] at hf
      exact ⟨rfl, hf, e, trivial⟩
    · have hb' : ¬2 ^ 16 ≤ x1.toNat := by have := of_decide_eq_false hb; omega
      rw [if_neg hb'] at hx2
      have ha2' : a2 = 0 := by rw [ha2, hfA, if_neg hb']
      refine wskip ?_
      rw [show (I (a1 : Nat)) = I (a1 + a2 : Nat) from by rw [ha2']; rfl, ← hx2] at hf
      replace hf := hf.keep [0, 2]
      dsimp only [keep, List.filterMap, look, Nat.beq, Option.map] at hf
      exact ⟨rfl, hf, e, trivial⟩
  clear hf e 
  obtain ⟨hf, e, _⟩ := hJ
  try simp only [Exit.then]
  clear hx2
  repeat refine seq ?_
  refine regn 2 hf (by decide +kernel) ?_
  refine st (mv rfl) ?_
  refine st (geq (b := 256) rfl rfl) ?_
  refine en fun a w e' hf => ?_
  replace e := Ext.tr e e'
  clear e'
  refine tl_nil ?_
  obtain ⟨x3, hx3⟩ : ∃ x3 : BitVec 64, x3 = if 2 ^ 8 ≤ x2.toNat then x2 >>> 8 else x2 := ⟨_, rfl⟩
  have e3 : x3.toNat = hfN 8 x2.toNat := by rw [hx3, hf_bv]
  have l3 : x3.toNat < 2 ^ 8 := by rw [e3]; exact hf_lt (by omega)
  obtain ⟨a3, ha3⟩ : ∃ a3, a3 = hfA 8 x2.toNat := ⟨_, rfl⟩
  have m3 : a3 ≤ 8 := by rw [ha3, hfA]; split <;> omega
  repeat refine seq ?_
  refine cut (J := fun a w => Fr 25 a w [(0, E (Mono.W x3)), (2, E (I (a1 + a2 + a3 : Nat)))] ∧ Ext W w ∧ True) ?_ (fun a w hJ => ?_)
  · repeat refine seq ?_
    refine ifc hf rfl (fun hb => ?_) (fun hb => ?_)
    · have hb' : 2 ^ 8 ≤ x2.toNat := by have := of_decide_eq_true hb; omega
      rw [if_pos hb'] at hx3
      have ha3' : a3 = 8 := by rw [ha3, hfA, if_pos hb']
      repeat refine seq ?_
      refine regn 2 hf (by decide +kernel) ?_
      refine st (mv rfl) ?_
      refine st ((shrW rfl rfl (by omega)).eq (congrArg Mono.W hx3.symm)) ?_
      refine en fun a w e' hf => ?_
      replace e := Ext.tr e e'
      clear e'
      refine tl_as hf rfl (by decide) fun a hf => ?_
      refine tl_nil ?_
      repeat refine seq ?_
      refine regn 2 hf (by decide +kernel) ?_
      refine st (mv rfl) ?_
      refine st ((add rfl rfl (by omega)).eq (congrArg (Value.int .i64) (show ((a1 + a2 : Nat) : Int) + 8 = ((a1 + a2 + a3 : Nat) : Int) by rw [ha3']; rfl))) ?_
      refine en fun a w e' hf => ?_
      replace e := Ext.tr e e'
      clear e'
      refine tl_as hf rfl (by decide) fun a hf => ?_
      refine tl_nil ?_
      replace hf := hf.keep [0, 2]
      dsimp only [keep, List.filterMap, look, Nat.beq, Option.map] at hf
      exact ⟨rfl, hf, e, trivial⟩
    · have hb' : ¬2 ^ 8 ≤ x2.toNat := by have := of_decide_eq_false hb; omega
      rw [if_neg hb'] at hx3
      have ha3' : a3 = 0 := by rw [ha3, hfA, if_neg hb']
      refine wskip ?_
      rw [show (I (a1 + a2 : Nat)) = I (a1 + a2 + a3 : Nat) from by rw [ha3']; rfl, ← hx3] at hf
      replace hf := hf.keep [0, 2]
      dsimp only [keep, List.filterMap, look, Nat.beq, Option.map] at hf
      exact ⟨rfl, hf, e, trivial⟩
  clear hf e 
  obtain ⟨hf, e, _⟩ := hJ
  try simp only [Exit.then]
  clear hx3
  have l8 : x3.toNat < 256 := l3
  have t3 := tab_get x3.toNat l8
  have t8 := dg_8 l8
  have hd := hf_dg 32 x.toNat
  have hd2 := hf_dg 16 x1.toNat
  have hd3 := hf_dg 8 x2.toNat
  rw [← e1, ← ha1] at hd
  rw [← e2, ← ha2] at hd2
  rw [← e3, ← ha3] at hd3
  repeat refine seq ?_
  refine regn 6 hf (by decide +kernel) ?_
  refine st (mv rfl) ?_
  refine st (mv rfl) ?_
  refine st ((convI Tryd.underlying35 Tryd.underlying5 rfl).eq (congrArg (Value.int .u8) (IntWalk.u8_in (x3.toNat : Int) (by omega)))) ?_
  refine st (idxStr (z := dg x3.toNat) Tryd.underlying9 rfl rfl (by omega) (by rw [Int.toNat_natCast]; generalize x3.toNat = n at l8 ⊢; revert l8; revert n; decide +kernel)) ?_
  refine st ((convI Tryd.underlying5 Tryd.underlying3 rfl).eq (congrArg (Value.int .i64) (IntWalk.i64_in ((dg x3.toNat : Nat) : Int) (by omega)))) ?_
  refine st ((add rfl rfl (by omega)).eq (congrArg (Value.int .i64) (show ((a1 + a2 + a3 : Nat) : Int) + (dg x3.toNat : Nat) = (dg x.toNat : Nat) by omega))) ?_
  refine en fun a w e' hf => ?_
  replace e := Ext.tr e e'
  clear e'
  refine tl_as hf rfl (by decide) fun a hf => ?_
  refine tl_nil ?_
  refine wret ?_
  try simp only [Exit.then, Exit.inBlock]
  refine ret1 rfl hf rfl ?_
  rintro _ rfl
  exact ⟨_, rfl, e, rfl⟩

theorem blen_spec (x : BitVec 64) (W : World) : Calls Tryd.prog 124 #[Mono.W x] W (Post (E (I (dg x.toNat : Nat))) W) := by
  refine enter (args := [Mono.W x]) (As := [E (Mono.W x)]) Tryd.func124 rfl Tryd.ntmps124 (Nat.le_of_ble_eq_true rfl) ?_ (fun a hf => ?_) (Nat.le_of_ble_eq_true rfl)
  rotate_left
  dsimp only [params, Nat.reduceAdd] at hf
  rotate_right
  · exact arg1 rfl
  have e := Ext.rfl' W
  repeat refine seq ?_
  refine regn0 ?_
  refine tl_as hf rfl (by decide) fun a hf => ?_
  refine tl_nil ?_
  repeat refine seq ?_
  refine ifc hf rfl (fun h => by cases h) (fun _ => ?_)
  refine wskip ?_
  try simp only [Exit.then, Exit.inBlock, ↓reduceIte]
  repeat refine seq ?_
  refine regn 2 hf (by decide +kernel) ?_
  refine st (mv rfl) ?_
  refine st (call1 En150 rfl (fun v w he h => by cases h; exact len64_spec x w)) ?_
  refine en fun a w e' hf => ?_
  replace e := Ext.tr e e'
  clear e'
  refine tl_as hf rfl (by decide) fun a hf => ?_
  refine tl_nil ?_
  refine wret ?_
  try simp only [Exit.then, Exit.inBlock]
  refine ret1 rfl hf rfl ?_
  rintro _ rfl
  exact ⟨_, rfl, e, rfl⟩

theorem bitLen_spec (n : Int) (W : World) (hn : n < 9223372036854775808) : Calls Tryd.prog 61 #[I n] W (Post (E (I (dg n.toNat : Nat))) W) := by
  refine enter (args := [I n]) (As := [E (I n)]) Tryd.func61 rfl Tryd.ntmps61 (Nat.le_of_ble_eq_true rfl) ?_ (fun a hf => ?_) (Nat.le_of_ble_eq_true rfl)
  rotate_left
  dsimp only [params, Nat.reduceAdd] at hf
  rotate_right
  · exact arg1 rfl
  have e := Ext.rfl' W
  have hW : Value.int .u64 (IntKind.u64.wrap (max 0 n)) = Mono.W (BitVec.ofNat 64 n.toNat) := by
    rw [Mono.W, BitVec.toNat_ofNat, Nat.mod_eq_of_lt (by omega), IntWalk.u64_in _ (by omega)]
    congr 1
    omega
  have hb : (BitVec.ofNat 64 n.toNat).toNat = n.toNat := by rw [BitVec.toNat_ofNat, Nat.mod_eq_of_lt (by omega)]
  repeat refine seq ?_
  refine regn0 ?_
  refine tl_as hf rfl (by decide) fun a hf => ?_
  refine tl_nil ?_
  repeat refine seq ?_
  refine regn 4 hf (by decide +kernel) ?_
  refine st (mv rfl) ?_
  refine st (max2 rfl rfl) ?_
  refine st ((convI Tryd.underlying3 Tryd.underlying135 rfl).eq (hW)) ?_
  refine st (call1 (A := E (I (dg n.toNat : Nat))) En124 rfl (fun v w he h => by cases h; have := blen_spec (BitVec.ofNat 64 n.toNat) w; rwa [hb] at this)) ?_
  refine en fun a w e' hf => ?_
  replace e := Ext.tr e e'
  clear e'
  refine tl_as hf rfl (by decide) fun a hf => ?_
  refine tl_nil ?_
  refine wret ?_
  try simp only [Exit.then, Exit.inBlock]
  refine ret1 rfl hf rfl ?_
  rintro _ rfl
  exact ⟨_, rfl, e, rfl⟩
end Go.Mono

set_option linter.unusedVariables false
set_option linter.unusedSimpArgs false
namespace Go.Mono
open Go Go.Proofs Go.RowKit

def maxTo (l : List Int) (k : Nat) : Int := (l.take k).foldl max (l.getD 0 0)
theorem maxTo_succ {l : List Int} {k : Nat} {x : Int} (h : l[k]? = some x) : maxTo l (k + 1) = max (maxTo l k) x := by
  rw [maxTo, List.take_add_one, h, List.foldl_append]; rfl
theorem maxTo_mem {l : List Int} {k : Nat} (h0 : 0 < l.length) : maxTo l k ∈ l := by
  have : ∀ (m : List Int) (x : Int), x ∈ l → (∀ y ∈ m, y ∈ l) → m.foldl max x ∈ l := by
    intro m
    induction m with
    | nil => intro x hx _; exact hx
    | cons y m ih =>
      intro x hx hm
      rw [List.foldl_cons]
      refine ih _ ?_ fun z hz => hm z (by simp [hz])
      rcases Int.le_total x y with h | h
      · rw [Int.max_eq_right h]; exact hm y (by simp)
      · rw [Int.max_eq_left h]; exact hx
  refine this _ _ ?_ fun y hy => List.mem_of_mem_take hy
  match l, h0 with
  | x :: l, _ => simp

theorem smax_spec {G : Nat → Prop} (l : List Int) (v : Value) (W : World) (h : (Dv (slE intE) G l).p v W) (h0 : 0 < l.length) (hl : l.length ≤ 100000) :
    Calls Tryd.prog 123 #[v] W (Post (E (I (maxTo l l.length))) W) := by
  refine enter (args := [v]) (As := [Dv (slE intE) G l]) Tryd.func123 rfl Tryd.ntmps123 (Nat.le_of_ble_eq_true rfl) ?_ (fun a hf => ?_) (Nat.le_of_ble_eq_true rfl)
  rotate_left
  dsimp only [params, Nat.reduceAdd] at hf
  rotate_right
  · exact arg1 h
  have e := Ext.rfl' W
  obtain ⟨x0, hx0⟩ : ∃ x0, l[0]? = some x0 := ⟨_, List.getElem?_eq_getElem h0⟩
  have hm1 : maxTo l 1 = x0 := by
    match l, hx0 with
    | x :: l, hx0 => cases hx0; show max _ _ = _; exact Int.max_self _
  repeat refine seq ?_
  refine regn0 ?_
  refine tl_as hf rfl (by decide) fun a hf => ?_
  refine tl_nil ?_
  repeat refine seq ?_
  refine regn 3 hf (by decide +kernel) ?_
  refine st (mv rfl) ?_
  refine st (lenD Tryd.underlying43 (isR rfl)) ?_
  refine st ((lss rfl rfl).eq (congrArg Value.bool (decide_eq_false (by omega)))) ?_
  refine en fun a w e' hf => ?_
  replace e := Ext.tr e e'
  clear e'
  refine tl_nil ?_
  repeat refine seq ?_
  refine ifc hf rfl (fun h => by cases h) (fun _ => ?_)
  refine wskip ?_
  try simp only [Exit.then, Exit.inBlock, ↓reduceIte]
  replace hf := hf.keep [0]
  dsimp only [keep, List.filterMap, look, Nat.beq, Option.map] at hf
  repeat refine seq ?_
  refine regn 3 hf (by decide +kernel) ?_
  refine st (mv rfl) ?_
  refine st (idxD (j := 0) Tryd.underlying43 S3 (isR rfl) rfl rfl hx0) ?_
  refine st ((ldI T3 (isR rfl)).eq (congrArg I hm1.symm)) ?_
  refine en fun a w e' hf => ?_
  replace e := Ext.tr e e'
  clear e'
  refine tl_as hf rfl (by decide) fun a hf => ?_
  refine tl_nil ?_
  repeat refine seq ?_
  refine regn0 ?_
  refine tl_as hf rfl (by decide) fun a hf => ?_
  refine tl_nil ?_
  replace hf := hf.keep [0, 3, 4]
  dsimp only [keep, List.filterMap, look, Nat.beq, Option.map] at hf
  repeat refine seq ?_
  refine blk (loopN (fun r0 a w => ∃ k : Nat, r0 = l.length - k ∧ 1 ≤ k ∧ k ≤ l.length ∧ Fr 25 a w [(0, Dv (slE intE) G l), (3, E (I (maxTo l k))), (4, E (I k))] ∧ Ext W w) (l.length - 1) ⟨1, rfl, by omega, by omega, hf, e⟩ ?_)
  clear hf e
  rintro r0 a w ⟨k, rfl, hk1, hk, hf, e⟩
  repeat refine seq ?_
  refine regn 4 hf (by decide +kernel) ?_
  refine st (mv rfl) ?_
  refine st (mv rfl) ?_
  refine st (lenD Tryd.underlying43 (isR rfl)) ?_
  refine st (lss rfl rfl) ?_
  refine en fun a w e' hf => ?_
  replace e := Ext.tr e e'
  clear e'
  refine tl_nil ?_
  repeat refine seq ?_
  refine ifc hf rfl (fun hc => wskip ?_) (fun hc => wexit ?_)
  · have hlt : k < l.length := by have := of_decide_eq_true hc; omega
    clear hc
    simp only [Exit.then, Exit.inBlock, ↓reduceIte]
    obtain ⟨x, hx⟩ : ∃ x, l[k]? = some x := ⟨_, List.getElem?_eq_getElem hlt⟩
    repeat refine seq ?_
    refine blk ?_
    replace hf := hf.keep [0, 3, 4]
    dsimp only [keep, List.filterMap, look, Nat.beq, Option.map] at hf
    repeat refine seq ?_
    refine regn 6 hf (by decide +kernel) ?_
    refine st (mv rfl) ?_
    refine st (mv rfl) ?_
    refine st (mv rfl) ?_
    refine st (idxD Tryd.underlying43 S3 (isR rfl) rfl (by omega) (hx)) ?_
    refine st (ldI T3 (isR rfl)) ?_
    refine st ((max2 rfl rfl).eq (congrArg I (maxTo_succ hx).symm)) ?_
    refine en fun a w e' hf => ?_
    replace e := Ext.tr e e'
    clear e'
    refine tl_as hf rfl (by decide) fun a hf => ?_
    refine tl_nil ?_
    try simp only [Exit.then, Exit.inBlock, ↓reduceIte]
    replace hf := hf.keep [0, 3, 4]
    dsimp only [keep, List.filterMap, look, Nat.beq, Option.map] at hf
    repeat refine seq ?_
    refine regn 2 hf (by decide +kernel) ?_
    refine st (mv rfl) ?_
    refine st ((add rfl rfl (by omega)).eq (congrArg (Value.int .i64) (show (k : Int) + 1 = ((k + 1 : Nat) : Int) from rfl))) ?_
    refine en fun a w e' hf => ?_
    replace e := Ext.tr e e'
    clear e'
    refine tl_as hf rfl (by decide) fun a hf => ?_
    refine tl_nil ?_
    replace hf := hf.keep [0, 3, 4]
    dsimp only [keep, List.filterMap, look, Nat.beq, Option.map] at hf
    exact ⟨l.length - (k + 1), by omega, k + 1, rfl, by omega, by omega, hf, e⟩
  · obtain rfl : k = l.length := by have := of_decide_eq_false hc; omega
    simp only [Exit.then, Exit.inBlock, ↓reduceIte]
    replace hf := hf.keep [3]
    dsimp only [keep, List.filterMap, look, Nat.beq, Option.map] at hf
    repeat refine seq ?_
    refine regn 1 hf (by decide +kernel) ?_
    refine st (mv rfl) ?_
    refine en fun a w e' hf => ?_
    replace e := Ext.tr e e'
    clear e'
    refine tl_as hf rfl (by decide) fun a hf => ?_
    refine tl_nil ?_
    refine wret ?_
    try simp only [Exit.then, Exit.inBlock]
    refine ret1 rfl hf rfl ?_
    rintro _ rfl
    exact ⟨_, rfl, e, rfl⟩

open Classical in
/-- the number of bags on the longest way down -/
noncomputable def depT (t : List (Int × BS)) : Int := if chkR (toT t) = 0 then maxTo (depthsF t t.length (rootN t)).1 t.length + 1 else 0
theorem depthsF_len (t : List (Int × BS)) (f : Nat) (l : List Nat) : (depthsF t f l).1.length = t.length := by
  rw [depthsF, foldl_dn_len]; simp
theorem dnF_all (ks : Nat → List Nat) (Q : Int → Prop) : ∀ (f b : Nat) (deep : Int) (s : List Int × Int), (∀ x ∈ s.1, Q x) → (∀ d : Int, deep ≤ d → d ≤ deep + f → Q d) → ∀ x ∈ (dnF ks f b deep s).1, Q x
  | 0, b, deep, s, h, hd => by
    intro x hx
    rw [dnF] at hx
    rcases List.mem_or_eq_of_mem_set hx with h1 | h1
    · exact h x h1
    · rw [h1]; exact hd deep (by omega) (by omega)
  | f + 1, b, deep, s, h, hd => by
    rw [dnF]
    have : ∀ (l : List Nat) (s : List Int × Int), (∀ x ∈ s.1, Q x) → ∀ x ∈ (l.foldl (fun s k => dnF ks f k (deep + 1) s) s).1, Q x := by
      intro l
      induction l with
      | nil => intro s h; exact h
      | cons k l ih => intro s h; rw [List.foldl_cons]; exact ih _ (dnF_all ks Q f k (deep + 1) s h fun d h1 h2 => hd d (by omega) (by omega))
    refine this _ _ fun x hx => ?_
    rcases List.mem_or_eq_of_mem_set hx with h1 | h1
    · exact h x h1
    · rw [h1]; exact hd deep (by omega) (by omega)
theorem depthsF_all {t : List (Int × BS)} {f : Nat} {Q : Int → Prop} (h : ∀ d : Int, 0 ≤ d → d ≤ f → Q d) (l : List Nat) : ∀ x ∈ (depthsF t f l).1, Q x := by
  have : ∀ (l : List Nat) (s : List Int × Int), (∀ x ∈ s.1, Q x) → ∀ x ∈ (l.foldl (fun s b => dnF (kN t) f b 0 s) s).1, Q x := by
    intro l
    induction l with
    | nil => intro s h; exact h
    | cons k l ih => intro s hs; rw [List.foldl_cons]; exact ih _ (dnF_all _ Q _ _ _ _ hs fun d h1 h2 => h d h1 (by omega))
  refine this _ _ (fun y hy => ?_)
  rw [List.eq_of_mem_replicate hy]
  exact h 0 (by omega) (by omega)

theorem depth_spec {G : Nat → Prop} (t : List (Int × BS)) (v : Value) (W : World) (h : (Dv treeE G t).p v W) (hl : t.length ≤ 4096) :
    Calls Tryd.prog 60 #[v] W (Post (E (I (depT t))) W) := by
  have hd : Rng t → (rootN t).length = 1 → Dp t t.length := fun h1 h2 => Dp.mk' (by omega) h1 h2
  have hck : chkT t t.length = chkR (toT t) := chkT_eq
  refine enter (args := [v]) (As := [Dv treeE (GB W Go.Mono.G0) t]) Tryd.func60 rfl Tryd.ntmps60 (Nat.le_of_ble_eq_true rfl) ?_ (fun a hf => ?_) (Nat.le_of_ble_eq_true rfl)
  rotate_left
  dsimp only [params, Nat.reduceAdd] at hf
  rotate_right
  · exact arg1 (Dv.toB (Dv.weak h fun b _ hb => hb.elim))
  have e := Ext.rfl' W
  repeat refine seq ?_
  refine regn0 ?_
  refine tl_as hf rfl (by decide) fun a hf => ?_
  refine tl_nil ?_
  repeat refine seq ?_
  refine regn 3 hf (by decide +kernel) ?_
  refine st (mv rfl) ?_
  refine st ((call1 En98 rfl (fun v w he h => chkT_spec t t.length _ w h (by omega) hd)).eq (congrArg (Value.int .i64) hck)) ?_
  refine st (neq rfl rfl) ?_
  refine en fun a w e' hf => ?_
  replace e := Ext.tr e e'
  clear e'
  refine tl_nil ?_
  repeat refine seq ?_
  refine ifc hf rfl (fun hb => ?_) (fun hb => ?_)
  · have hb' : chkR (toT t) ≠ 0 := by simpa using hb
    have e0 : depT t = 0 := if_neg hb'
    repeat refine seq ?_
    refine regn0 ?_
    refine tl_as hf rfl (by decide) fun a hf => ?_
    refine tl_nil ?_
    refine wret ?_
    try simp only [Exit.then, Exit.inBlock]
    refine ret1 rfl hf rfl ?_
    rintro _ rfl
    exact ⟨_, rfl, e, congrArg I e0.symm⟩
  have hb' : chkR (toT t) = 0 := by simpa using hb
  obtain ⟨h0, V⟩ := chkR_ok.1 hb'
  rw [toT_len] at h0
  have e0 : depT t = maxTo (depthsF t t.length (rootN t)).1 t.length + 1 := if_pos hb'
  have hr : Rng t := fun i hi => by have := V.range i (by rw [toT_len]; exact hi); rwa [toT_up hi, toT_len] at this
  have hr1 : (rootN t).length = 1 := by
    apply Classical.byContradiction
    intro hh
    have hck0 := hck
    rw [hb', chkT, if_neg (by omega), if_neg (Classical.not_not.2 hr), if_pos hh] at hck0
    cases hck0
  have D := hd hr hr1
  have hlen := depthsF_len t t.length (rootN t)
  have hbd : 0 ≤ maxTo (depthsF t t.length (rootN t)).1 t.length ∧ maxTo (depthsF t t.length (rootN t)).1 t.length ≤ 5000 :=
    depthsF_all (Q := fun x => 0 ≤ x ∧ x ≤ 5000) (fun d h1 h2 => ⟨h1, by omega⟩) (rootN t) _ (maxTo_mem (by omega))
  clear hb
  refine wskip ?_
  try simp only [Exit.then, Exit.inBlock, ↓reduceIte]
  replace hf := hf.keep [0]
  dsimp only [keep, List.filterMap, look, Nat.beq, Option.map] at hf
  repeat refine seq ?_
  refine regn 5 hf (by decide +kernel) ?_
  refine st (mv rfl) ?_
  refine st (call1 En122 rfl (fun v w he h => depths_spec (G := Go.Mono.G0) t t.length _ w (Dv.weak h fun b _ hb => hb.elim) (fun b hb => hb.elim) (by omega) hr D.hh D.fb D.le)) ?_
  refine st (mv rfl) ?_
  refine st (ext_ rfl rfl) ?_
  refine st (ext_ rfl rfl) ?_
  refine en fun a w e' hf => ?_
  replace e := Ext.tr e e'
  clear e'
  refine tl_as hf rfl (by decide) fun a hf => ?_
  refine tl_as hf rfl (by decide) fun a hf => ?_
  refine tl_nil ?_
  replace hf := hf.keep [3]
  dsimp only [keep, List.filterMap, look, Nat.beq, Option.map] at hf
  repeat refine seq ?_
  refine regn 3 hf (by decide +kernel) ?_
  refine st (mv rfl) ?_
  refine st (call1 (A := E (I (maxTo (depthsF t t.length (rootN t)).1 t.length))) En123 rfl (fun v w he h => by have := smax_spec (G := Go.Mono.G0) _ v w h (by rw [hlen]; omega) (by rw [hlen]; omega); rwa [hlen] at this)) ?_
  refine st ((add rfl rfl (by omega)).eq (congrArg (Value.int .i64) e0.symm)) ?_
  refine en fun a w e' hf => ?_
  replace e := Ext.tr e e'
  clear e'
  refine tl_as hf rfl (by decide) fun a hf => ?_
  refine tl_nil ?_
  refine wret ?_
  try simp only [Exit.then, Exit.inBlock]
  refine ret1 rfl hf rfl ?_
  rintro _ rfl
  exact ⟨_, rfl, e, rfl⟩
end Go.Mono

set_option linter.unusedVariables false
set_option linter.unusedSimpArgs false
namespace Go.Mono
open Go Go.Proofs Go.RowKit

/-- the example's tree -/
def kb : List (Int × BS) := [(-1, 0), (0, 0), (1, 0), (2, 0), (3, 0)]
def ko : List (Int × BS) := [(-1, 0), (0, 0), (1, 0), (0, 0), (3, 0)]
def k01 : BS := [(0 : Int), 1].foldl ins 0
theorem kb_all : (parts0 kb).map (fun x => (bagOf (adjL kb) kb x, atOf (adjL kb) x)) = [((-1, 0), 2), ((0, 0), 0), ((1, 0), 1), ((0, 0), 3), ((3, 0), 4)] := by decide +kernel
theorem kb_at : (parts0 kb).map (atOf (adjL kb)) = [2, 0, 1, 3, 4] := by
  have := congrArg (List.map Prod.snd) kb_all
  rw [List.map_map] at this
  exact this
theorem kb_o : (parts0 kb).map (bagOf (adjL kb) kb) = ko := by
  have := congrArg (List.map Prod.fst) kb_all
  rw [List.map_map] at this
  exact this
theorem l_zero : toL 0 = [] := by decide +kernel
theorem chk_of {t : List (Int × BS)} {xs : List RB} (h : toT t = xs) (h0 : 0 < xs.length) (V : Vals xs) : chkR (toT t) = 0 := by rw [h]; exact chkR_ok.2 ⟨h0, V⟩
theorem kb_chk : chkR (toT kb) = 0 :=
  chk_of (xs := [(-1, []), (0, []), (1, []), (2, []), (3, [])]) (by show [toB (-1, 0), toB (0, 0), toB (1, 0), toB (2, 0), toB (3, 0)] = _; simp only [toB, l_zero]) (by decide)
    ⟨by decide +kernel, by decide +kernel, by decide +kernel, by decide +kernel⟩
theorem ko_chk : chkR (toT ko) = 0 :=
  chk_of (xs := [(-1, []), (0, []), (1, []), (0, []), (3, [])]) (by show [toB (-1, 0), toB (0, 0), toB (1, 0), toB (0, 0), toB (3, 0)] = _; simp only [toB, l_zero]) (by decide)
    ⟨by decide +kernel, by decide +kernel, by decide +kernel, by decide +kernel⟩
theorem kb_balT : balT kb = ko := by rw [balT, if_pos kb_chk, kb_o]
theorem kb_balAt : balAt kb = [2, 0, 1, 3, 4] := by rw [balAt, if_pos kb_chk, kb_at]
theorem ko_dep : depT ko = 3 := by
  have : maxTo (depthsF ko ko.length (rootN ko)).1 ko.length = 2 := by decide +kernel
  rw [depT, if_pos ko_chk, this]; rfl
theorem k01_part : partE kb k01 = 0 := by
  have h : ¬(minOf k01 = none ∨ k01 &&& ~~~belowB kb.length ≠ 0 ∨ compB (adjL kb) k01 ((minOf k01).getD 0) ≠ k01) := by decide +kernel
  rw [partE, if_neg (fun hh => hh kb_chk), if_neg h]
theorem k01_cen : cenR kb k01 = 0 := by
  have : cenB (adjL kb) k01 = 0 := by decide +kernel
  rw [cenR, if_pos k01_part, this]; rfl

theorem bag_built (n : Int) : Tryd.prog.built 86 [(0, .int .i64 n)] = some (bagC (n, 0)) := by
  rw [show bagC (n, 0) = (Value.int .i64 n :: z16.toList).toArray from by
    have : setC 0 = z16 := by have := z16_eq; exact (Value.agg.inj this).symm
    rw [bagC, this]]
  kernel_rfl
theorem bldN {w0 : World} {L : Env} {dst : Option Tmp} {ty : TypeId} {pos : String} {aft : Array Edge} {g : Option (Nat × Bool)} {n : Int} {G : Nat → Prop} :
    OpC Tryd.prog w0 L ⟨dst, .build 86 #[(0, .const (.int .i64 n))], ty, pos, aft, g⟩ (E (bagV (n, 0))) :=
  opc_pure fun ρ w he hv => by
    have h1 : ρ (.const (.int .i64 n)) = .int .i64 n := hv (.const (.int .i64 n)) (by simp [Op.operands]) _ rfl
    refine ⟨.agg (bagC (n, 0)), ?_, rfl⟩
    have hr := run_build (P := Tryd.prog) w 86 #[(0, .int .i64 n)] (bagC (n, 0)) (by simpa using bag_built n)
    simp only [execOp, List.map_toArray, List.map_cons, List.map_nil, Sem.run_bind, h1, hr, Result.andThen_ok, Sem.run_pure]
section
variable {P : Program} {w0 : World} {L : Env} {dst : Option Tmp} {ty : TypeId} {pos : String} {aft : Array Edge} {g : Option (Nat × Bool)} {α : Type} {e : Enc α} {G : Nat → Prop} {t te : TypeId}
theorem bsl5 {z0 : Value} {sz bz : Nat} {x1 x2 x3 x4 x5 : Operand} {a1 a2 a3 a4 a5 : α} (ht : P.underlying t = some (.slice te)) (hi : (P.info? te).map (fun i => (i.zero, i.size, i.bytes)) = some (some z0, sz, bz)) (hk : sz = e.k) (hk2 : 5 * e.k ≤ 16777216) (hz0 : z0.cells.size = e.k) (hG : ∀ b, G b → b < w0.heap.size)
    (h1 : Is L w0 x1 (Dv e G a1)) (h2 : Is L w0 x2 (Dv e G a2)) (h3 : Is L w0 x3 (Dv e G a3)) (h4 : Is L w0 x4 (Dv e G a4)) (h5 : Is L w0 x5 (Dv e G a5)) : OpC P w0 L ⟨dst, .buildSlice t 5 #[(0, x1), (1, x2), (2, x3), (3, x4), (4, x5)], ty, pos, aft, g⟩ (Dv (slE e) G [a1, a2, a3, a4, a5]) :=
  bslN (n := 5) (xs := [x1, x2, x3, x4, x5]) ht hi hk rfl (by decide) hk2 hz0 hG ⟨h1, h2, h3, h4, h5, trivial⟩
end

theorem known_spec (W : World) (hT : Tab W) : Calls Tryd.prog 58 #[] W (Post (E (B true)) W) := by
  refine enter (args := []) (As := []) Tryd.func58 rfl Tryd.ntmps58 (Nat.le_of_ble_eq_true rfl) ?_ (fun a hf => ?_) (Nat.le_of_ble_eq_true rfl)
  · exact argZ
  dsimp only [params, Nat.reduceAdd] at hf
  have e := Ext.rfl' W
  have hg0 : ∀ {w : World}, ∀ b, Go.Mono.G0 b → b < w.heap.size := fun b hb => hb.elim
  repeat refine seq ?_
  refine regn0 ?_
  refine tl_as hf rfl (by decide) fun a hf => ?_
  refine tl_nil ?_
  repeat refine seq ?_
  refine regn 6 hf (by decide +kernel) ?_
  refine st (bldN (G := Go.Mono.G0)) ?_
  refine st (bldN (G := Go.Mono.G0)) ?_
  refine st (bldN (G := Go.Mono.G0)) ?_
  refine st (bldN (G := Go.Mono.G0)) ?_
  refine st (bldN (G := Go.Mono.G0)) ?_
  refine st (bsl5 (e := bagE) (G := Go.Mono.G0) Tryd.underlying23 I86 rfl (by decide) rfl hg0 (isBag rfl) (isBag rfl) (isBag rfl) (isBag rfl) (isBag rfl)) ?_
  refine en fun a w e' hf => ?_
  replace hT := hT.ext e'
  replace e := Ext.tr e e'
  clear e'
  refine tl_as hf rfl (by decide) fun a hf => ?_
  refine tl_nil ?_
  replace hf := hf.upd 1 rfl (B := Dv treeE Go.Mono.G0 kb) (fun v h => h)
  replace hf := hf.keep [1]
  dsimp only [keep, List.filterMap, look, Nat.beq, Option.map] at hf
  repeat refine seq ?_
  refine regn 6 hf (by decide +kernel) ?_
  refine st (mv rfl) ?_
  refine st (call1 En56 rfl (fun v w he h => balance_spec kb v w (hT.ext he) h (by decide) (foT (by decide)))) ?_
  refine st (mv rfl) ?_
  refine st (ext_ rfl rfl) ?_
  refine st (ext_ rfl rfl) ?_
  refine st (ext_ rfl rfl) ?_
  refine en fun a w e' hf => ?_
  replace hT := hT.ext e'
  replace e := Ext.tr e e'
  clear e'
  refine tl_as hf rfl (by decide) fun a hf => ?_
  refine tl_as hf rfl (by decide) fun a hf => ?_
  refine tl_as hf rfl (by decide) fun a hf => ?_
  refine tl_nil ?_
  rw [kb_balT, kb_balAt, kb_chk] at hf
  replace hf := hf.keep [1, 2, 3, 4]
  dsimp only [keep, List.filterMap, look, Nat.beq, Option.map] at hf
  repeat refine seq ?_
  refine regn 7 hf (by decide +kernel) ?_
  refine st (mv rfl) ?_
  refine st (bsl2 (e := intE) (G := Go.Mono.G0) Tryd.underlying43 I3 rfl (by decide) rfl hg0 (isI rfl) (isI rfl)) ?_
  refine st (call1 (A := E (setV k01)) En88 rfl (fun v w he h => of_spec [0, 1] v w h (by decide))) ?_
  refine st (call2 En68 rfl rfl (fun v u w he h h' => by cases h'; exact centroid_spec kb k01 v w (hT.ext he) h (by decide) (foT (by decide)))) ?_
  refine st (mv rfl) ?_
  refine st (ext_ rfl rfl) ?_
  refine st (ext_ rfl rfl) ?_
  refine en fun a w e' hf => ?_
  replace hT := hT.ext e'
  replace e := Ext.tr e e'
  clear e'
  refine tl_as hf rfl (by decide) fun a hf => ?_
  refine tl_as hf rfl (by decide) fun a hf => ?_
  refine tl_nil ?_
  rw [k01_cen, k01_part] at hf
  replace hf := hf.keep [2, 3, 4, 5, 6]
  dsimp only [keep, List.filterMap, look, Nat.beq, Option.map] at hf
  repeat refine seq ?_
  refine regn 73 hf (by decide +kernel) ?_
  refine st (mv rfl) ?_
  refine st ((eql rfl rfl).eq (congrArg Value.bool (show ((0 : Int) == 0) = true from rfl))) ?_
  refine st (mv rfl) ?_
  first | refine sn rfl rfl rfl ?_ | refine su rfl rfl ?_ | refine sy rfl rfl (mv rfl) ?_
  first | refine sn rfl rfl rfl ?_ | refine su rfl rfl ?_ | refine sy rfl rfl ((eql rfl rfl).eq (congrArg Value.bool (show ((0 : Int) == 0) = true from rfl))) ?_
  first | refine st (pkT rfl rfl) ?_ | refine st (pkF rfl rfl) ?_ | refine st (pk rfl rfl rfl) ?_
  refine st (mv rfl) ?_
  first | refine sn rfl rfl rfl ?_ | refine su rfl rfl ?_ | refine sy rfl rfl (mv rfl) ?_
  first | refine sn rfl rfl rfl ?_ | refine su rfl rfl ?_ | refine sy rfl rfl ((eql rfl rfl).eq (congrArg Value.bool (show ((0 : Int) == 0) = true from rfl))) ?_
  first | refine st (pkT rfl rfl) ?_ | refine st (pkF rfl rfl) ?_ | refine st (pk rfl rfl rfl) ?_
  refine st (mv rfl) ?_
  first | refine sn rfl rfl rfl ?_ | refine su rfl rfl ?_ | refine sy rfl rfl (mv rfl) ?_
  first | refine sn rfl rfl rfl ?_ | refine su rfl rfl ?_ | refine sy rfl rfl (lenD Tryd.underlying23 (isR rfl)) ?_
  first | refine sn rfl rfl rfl ?_ | refine su rfl rfl ?_ | refine sy rfl rfl ((eql rfl rfl).eq (congrArg Value.bool (show (((ko.length : Nat) : Int) == 5) = true from rfl))) ?_
  first | refine st (pkT rfl rfl) ?_ | refine st (pkF rfl rfl) ?_ | refine st (pk rfl rfl rfl) ?_
  refine st (mv rfl) ?_
  first | refine sn rfl rfl rfl ?_ | refine su rfl rfl ?_ | refine sy rfl rfl (mv rfl) ?_
  first | refine sn rfl rfl rfl ?_ | refine su rfl rfl ?_ | refine sy rfl rfl (lenD Tryd.underlying43 (isR rfl)) ?_
  first | refine sn rfl rfl rfl ?_ | refine su rfl rfl ?_ | refine sy rfl rfl ((eql rfl rfl).eq (congrArg Value.bool (show (((([2, 0, 1, 3, 4] : List Int).length : Nat) : Int) == 5) = true from rfl))) ?_
  first | refine st (pkT rfl rfl) ?_ | refine st (pkF rfl rfl) ?_ | refine st (pk rfl rfl rfl) ?_
  refine st (mv rfl) ?_
  first | refine sn rfl rfl rfl ?_ | refine su rfl rfl ?_ | refine sy rfl rfl (mv rfl) ?_
  first | refine sn rfl rfl rfl ?_ | refine su rfl rfl ?_ | refine sy rfl rfl (idxD (j := 0) Tryd.underlying43 S3 (isR rfl) rfl rfl rfl) ?_
  first | refine sn rfl rfl rfl ?_ | refine su rfl rfl ?_ | refine sy rfl rfl (ldI T3 (isR rfl)) ?_
  first | refine sn rfl rfl rfl ?_ | refine su rfl rfl ?_ | refine sy rfl rfl ((eql rfl rfl).eq (congrArg Value.bool (show ((2 : Int) == 2) = true from rfl))) ?_
  first | refine st (pkT rfl rfl) ?_ | refine st (pkF rfl rfl) ?_ | refine st (pk rfl rfl rfl) ?_
  refine st (mv rfl) ?_
  first | refine sn rfl rfl rfl ?_ | refine su rfl rfl ?_ | refine sy rfl rfl (mv rfl) ?_
  first | refine sn rfl rfl rfl ?_ | refine su rfl rfl ?_ | refine sy rfl rfl (idxD (j := 1) Tryd.underlying43 S3 (isR rfl) rfl rfl rfl) ?_
  first | refine sn rfl rfl rfl ?_ | refine su rfl rfl ?_ | refine sy rfl rfl (ldI T3 (isR rfl)) ?_
  first | refine sn rfl rfl rfl ?_ | refine su rfl rfl ?_ | refine sy rfl rfl ((eql rfl rfl).eq (congrArg Value.bool (show ((0 : Int) == 0) = true from rfl))) ?_
  first | refine st (pkT rfl rfl) ?_ | refine st (pkF rfl rfl) ?_ | refine st (pk rfl rfl rfl) ?_
  refine st (mv rfl) ?_
  first | refine sn rfl rfl rfl ?_ | refine su rfl rfl ?_ | refine sy rfl rfl (mv rfl) ?_
  first | refine sn rfl rfl rfl ?_ | refine su rfl rfl ?_ | refine sy rfl rfl (idxD (j := 2) Tryd.underlying43 S3 (isR rfl) rfl rfl rfl) ?_
  first | refine sn rfl rfl rfl ?_ | refine su rfl rfl ?_ | refine sy rfl rfl (ldI T3 (isR rfl)) ?_
  first | refine sn rfl rfl rfl ?_ | refine su rfl rfl ?_ | refine sy rfl rfl ((eql rfl rfl).eq (congrArg Value.bool (show ((1 : Int) == 1) = true from rfl))) ?_
  first | refine st (pkT rfl rfl) ?_ | refine st (pkF rfl rfl) ?_ | refine st (pk rfl rfl rfl) ?_
  refine st (mv rfl) ?_
  first | refine sn rfl rfl rfl ?_ | refine su rfl rfl ?_ | refine sy rfl rfl (mv rfl) ?_
  first | refine sn rfl rfl rfl ?_ | refine su rfl rfl ?_ | refine sy rfl rfl (idxD (j := 3) Tryd.underlying43 S3 (isR rfl) rfl rfl rfl) ?_
  first | refine sn rfl rfl rfl ?_ | refine su rfl rfl ?_ | refine sy rfl rfl (ldI T3 (isR rfl)) ?_
  first | refine sn rfl rfl rfl ?_ | refine su rfl rfl ?_ | refine sy rfl rfl ((eql rfl rfl).eq (congrArg Value.bool (show ((3 : Int) == 3) = true from rfl))) ?_
  first | refine st (pkT rfl rfl) ?_ | refine st (pkF rfl rfl) ?_ | refine st (pk rfl rfl rfl) ?_
  refine st (mv rfl) ?_
  first | refine sn rfl rfl rfl ?_ | refine su rfl rfl ?_ | refine sy rfl rfl (mv rfl) ?_
  first | refine sn rfl rfl rfl ?_ | refine su rfl rfl ?_ | refine sy rfl rfl (idxD (j := 4) Tryd.underlying43 S3 (isR rfl) rfl rfl rfl) ?_
  first | refine sn rfl rfl rfl ?_ | refine su rfl rfl ?_ | refine sy rfl rfl (ldI T3 (isR rfl)) ?_
  first | refine sn rfl rfl rfl ?_ | refine su rfl rfl ?_ | refine sy rfl rfl ((eql rfl rfl).eq (congrArg Value.bool (show ((4 : Int) == 4) = true from rfl))) ?_
  first | refine st (pkT rfl rfl) ?_ | refine st (pkF rfl rfl) ?_ | refine st (pk rfl rfl rfl) ?_
  refine st (mv rfl) ?_
  first | refine sn rfl rfl rfl ?_ | refine su rfl rfl ?_ | refine sy rfl rfl (mv rfl) ?_
  first | refine sn rfl rfl rfl ?_ | refine su rfl rfl ?_ | refine sy rfl rfl (idxD (j := 2) Tryd.underlying23 S86 (isR rfl) rfl rfl rfl) ?_
  first | refine sn rfl rfl rfl ?_ | refine su rfl rfl ?_ | refine sy rfl rfl (fldD Tryd.underlying86 rfl T3 (by decide) (Fld.fst Fld.refl) (isR rfl)) ?_
  first | refine sn rfl rfl rfl ?_ | refine su rfl rfl ?_ | refine sy rfl rfl (ldI T3 (isR rfl)) ?_
  first | refine sn rfl rfl rfl ?_ | refine su rfl rfl ?_ | refine sy rfl rfl ((eql rfl rfl).eq (congrArg Value.bool (show ((1 : Int) == 1) = true from rfl))) ?_
  first | refine st (pkT rfl rfl) ?_ | refine st (pkF rfl rfl) ?_ | refine st (pk rfl rfl rfl) ?_
  refine st (mv rfl) ?_
  first | refine sn rfl rfl rfl ?_ | refine su rfl rfl ?_ | refine sy rfl rfl (mv rfl) ?_
  first | refine sn rfl rfl rfl ?_ | refine su rfl rfl ?_ | refine sy rfl rfl (idxD (j := 3) Tryd.underlying23 S86 (isR rfl) rfl rfl rfl) ?_
  first | refine sn rfl rfl rfl ?_ | refine su rfl rfl ?_ | refine sy rfl rfl (fldD Tryd.underlying86 rfl T3 (by decide) (Fld.fst Fld.refl) (isR rfl)) ?_
  first | refine sn rfl rfl rfl ?_ | refine su rfl rfl ?_ | refine sy rfl rfl (ldI T3 (isR rfl)) ?_
  first | refine sn rfl rfl rfl ?_ | refine su rfl rfl ?_ | refine sy rfl rfl ((eql rfl rfl).eq (congrArg Value.bool (show ((0 : Int) == 0) = true from rfl))) ?_
  first | refine st (pkT rfl rfl) ?_ | refine st (pkF rfl rfl) ?_ | refine st (pk rfl rfl rfl) ?_
  refine st (mv rfl) ?_
  first | refine sn rfl rfl rfl ?_ | refine su rfl rfl ?_ | refine sy rfl rfl (mv rfl) ?_
  first | refine sn rfl rfl rfl ?_ | refine su rfl rfl ?_ | refine sy rfl rfl ((call1 En60 rfl (fun v w he h => depth_spec ko v w h (by decide))).eq (congrArg (Value.int .i64) ko_dep)) ?_
  first | refine sn rfl rfl rfl ?_ | refine su rfl rfl ?_ | refine sy rfl rfl ((eql rfl rfl).eq (congrArg Value.bool (show ((3 : Int) == 3) = true from rfl))) ?_
  first | refine st (pkT rfl rfl) ?_ | refine st (pkF rfl rfl) ?_ | refine st (pk rfl rfl rfl) ?_
  refine st (mv rfl) ?_
  first | refine sn rfl rfl rfl ?_ | refine su rfl rfl ?_ | refine sy rfl rfl (call1 (A := E (I 3)) En61 rfl (fun v w he h => by cases h; exact bitLen_spec 5 w (by decide))) ?_
  first | refine sn rfl rfl rfl ?_ | refine su rfl rfl ?_ | refine sy rfl rfl ((eql rfl rfl).eq (congrArg Value.bool (show ((3 : Int) == 3) = true from rfl))) ?_
  first | refine st (pkT rfl rfl) ?_ | refine st (pkF rfl rfl) ?_ | refine st (pk rfl rfl rfl) ?_
  refine en fun a w e' hf => ?_
  replace hT := hT.ext e'
  replace e := Ext.tr e e'
  clear e'
  refine tl_as hf rfl (by decide) fun a hf => ?_
  refine tl_nil ?_
  refine wret ?_
  try simp only [Exit.then, Exit.inBlock]
  refine ret1 rfl hf rfl ?_
  rintro _ rfl
  exact ⟨_, rfl, e, rfl⟩
end Go.Mono

set_option linter.unusedVariables false
set_option linter.unusedSimpArgs false
namespace Go.Mono
open Go Go.Proofs Go.RowKit Go.ChangeShapes Go.WideShapes

theorem cellsBag : Tryd.prog.cellsOf 86 = 17 := by kernel_rfl
theorem cellsInt : Tryd.prog.cellsOf 3 = 1 := by kernel_rfl
theorem cellsSet : Tryd.prog.cellsOf 37 = 16 := by kernel_rfl
theorem cellsU64 : Tryd.prog.cellsOf 35 = 1 := by kernel_rfl
/-- sixteen words make a set -/
def ofW (f : Nat → BitVec 64) : Nat → BS
  | 0 => 0
  | n + 1 => ofW f n ||| ((f n).setWidth 1024 <<< (64 * n))
theorem word_shl (x : BitVec 64) (n i : Nat) (hi : i < 16) (hn : n < 16) : word (x.setWidth 1024 <<< (64 * n)) i = if i = n then x else 0 := by
  refine BitVec.eq_of_getLsbD_eq fun j hj => ?_
  rw [word_bit _ _ _ hj]
  have e : (x.setWidth 1024 <<< (64 * n)).getLsbD (64 * i + j) = (decide (64 * i + j < 1024) && !decide (64 * i + j < 64 * n) && (x.setWidth 1024).getLsbD (64 * i + j - 64 * n)) := BitVec.getLsbD_shiftLeft _ _
  rw [e, BitVec.getLsbD_setWidth]
  by_cases h : i = n
  · subst h
    have h1 : 64 * i + j - 64 * i = j := by omega
    have h2 : 64 * i + j < 1024 := by omega
    have h3 : ¬ 64 * i + j < 64 * i := by omega
    have h4 : j < 1024 := by omega
    simp only [h1, h2, h3, h4, decide_true, decide_false, Bool.not_false, Bool.true_and, if_true]
  · rw [if_neg h]
    by_cases h3 : i < n
    · have : 64 * i + j < 64 * n := by omega
      simp [this]
    · have h5 : 64 ≤ 64 * i + j - 64 * n := by omega
      have : x.getLsbD (64 * i + j - 64 * n) = false := BitVec.getLsbD_of_ge _ _ h5
      simp [this]
theorem ofW_word (f : Nat → BitVec 64) : ∀ n, n ≤ 16 → ∀ i, i < 16 → word (ofW f n) i = if i < n then f i else 0
  | 0, _, i, hi => by rw [ofW, word_zero]; simp
  | n + 1, hn, i, hi => by
    rw [ofW, word_or, ofW_word f n (by omega) i hi, word_shl _ _ _ hi (by omega)]
    by_cases h1 : i = n
    · subst h1; simp
    · by_cases h2 : i < n
      · rw [if_pos h2, if_neg h1, if_pos (by omega)]; simp
      · rw [if_neg h2, if_neg h1, if_neg (by omega)]; simp
theorem wordsC_ofW (f : Nat → BitVec 64) : setC (ofW f 16) = wordsC f := wordsC_congr fun i hi => by rw [ofW_word f 16 (Nat.le_refl _) i hi, if_pos hi]

section
variable {H : Type} {enc : TypeId × Value → H} {w : World} {base : Nat} {spare : Nat → Bool} {held : Bool}
theorem u64_of {z : Int} (h : (Lit.int .u64 z).wf = true) : Value.int .u64 z = Mono.W (BitVec.ofNat 64 z.toNat) := by
  have h1 : IntKind.u64.min = 0 := by decide
  have h2 : IntKind.u64.max = 18446744073709551615 := by decide
  simp only [Lit.wf, h1, h2, Bool.and_eq_true, decide_eq_true_eq] at h
  rw [Mono.W, BitVec.toNat_ofNat, Nat.mod_eq_of_lt (by omega), Int.toNat_of_nonneg h.1]
/-- the cells of one bag -/
theorem bag_cells {n : Nat} {cs : List Value} {x : DataW H × List MemPlace} (h : DataW.trod enc Tryd.prog w base spare held n 86 cs = some x) : ∃ b : Int × BS, cs = (bagC b).toList := by
  obtain ⟨y0, y1, m, _, hl, h0, h1⟩ := trod_struct2 Tryd.underlying86 h
  rw [cellsBag] at hl
  change DataW.trod enc Tryd.prog w base spare held m 3 ((cs.drop 0).take (Tryd.prog.cellsOf 3)) = some y0 at h0
  change DataW.trod enc Tryd.prog w base spare held m 37 ((cs.drop 1).take (Tryd.prog.cellsOf 37)) = some y1 at h1
  rw [cellsInt] at h0
  rw [cellsSet] at h1
  obtain ⟨z, hz, _, _⟩ := DataW.trod_int Tryd.underlying3 h0
  obtain ⟨xs, m2, _, _, hl2, hxl, hall⟩ := DataW.trod_array Tryd.underlying37 h1
  have hw : ∀ i, i < 16 → ∃ y : BitVec 64, cs[1 + i]? = some (Mono.W y) := by
    intro i hi
    have := hall i hi
    rw [cellsU64, Nat.mul_one] at this
    obtain ⟨b, hb⟩ : ∃ b, xs[i]? = some b := ⟨_, List.getElem?_eq_getElem (by omega)⟩
    rw [hb] at this
    obtain ⟨u, hu, _, hwf⟩ := DataW.trod_int Tryd.underlying35 this
    refine ⟨BitVec.ofNat 64 u.toNat, ?_⟩
    rw [← u64_of hwf]
    have h3 := congrArg (fun l : List Value => l[0]?) hu
    simp only [List.getElem?_cons_zero] at h3
    rw [List.getElem?_take, if_pos (by decide), List.getElem?_drop, Nat.add_zero, List.getElem?_take, if_pos hi, List.getElem?_drop] at h3
    exact h3
  obtain ⟨f, hf⟩ := Deep.choose_lt (n := 16) (p := fun i (y : BitVec 64) => cs[1 + i]? = some (Mono.W y)) hw
  refine ⟨(z, ofW f 16), ?_⟩
  apply List.ext_getElem?
  intro j
  simp only [bagC, wordsC_ofW]
  cases j with
  | zero =>
    have h3 := congrArg (fun l : List Value => l[0]?) hz
    simp only [List.getElem?_cons_zero] at h3
    rw [List.getElem?_take, if_pos (by decide), List.getElem?_drop] at h3
    simpa using h3
  | succ j =>
    simp only [List.getElem?_cons_succ, Array.getElem?_toList]
    by_cases hj : j < 16
    · rw [wordsC_get _ _ hj, Nat.add_comm]; exact hf j hj
    · rw [List.getElem?_eq_none (by omega), Array.getElem?_eq_none (by rw [wordsC_size]; omega)]
theorem bagC_len (b : Int × BS) : (bagC b).toList.length = 17 := by rw [Array.length_toList, bagC_size]
theorem bags_at {a : Addr} {f : Nat → Int × BS} : ∀ (n s : Nat), (∀ i, s ≤ i → i < s + n → ∀ j u, (bagC (f i)).toList[j]? = some u → w.cell? (a.add (i * 17 + j)) = some u) → ∀ j u, (((List.range' s n).map f).flatMap fun b => (bagC b).toList)[j]? = some u → w.cell? (a.add (s * 17 + j)) = some u
  | 0, s, h, j, u, hu => by simp at hu
  | n + 1, s, h, j, u, hu => by
    rw [List.range'_succ, List.map_cons, List.flatMap_cons] at hu
    by_cases hj : j < 17
    · rw [List.getElem?_append_left (by rw [bagC_len]; exact hj)] at hu
      exact h s (Nat.le_refl _) (by omega) j u hu
    · rw [List.getElem?_append_right (by rw [bagC_len]; omega), bagC_len] at hu
      have := bags_at n (s + 1) (fun i h1 h2 => h i (by omega) (by omega)) (j - 17) u hu
      rwa [show (s + 1) * 17 + (j - 17) = s * 17 + j by omega] at this
theorem bags_cells {G : Nat → Prop} : ∀ t : List (Int × BS), Cells bagE G w t (t.flatMap fun b => (bagC b).toList)
  | [] => rfl
  | b :: t => ⟨(bagC b).toList, _, rfl, ⟨[I b.1], (setC b.2).toList, rfl, rfl, rfl⟩, bags_cells t⟩
set_option maxRecDepth 100000 in
/-- THE ARGUMENT, OPENED -/
theorem open_tree {v : Value} {d : DataW H} {ps : List MemPlace} {b0 : Nat} (hok : Value.okWide Tryd.prog w .any b0 23 v) (h : DataW.Trod enc Tryd.prog w 0 spare held 23 v d ps) : ∃ t, (Dv treeE Go.Mono.G0 t).p v w := by
  obtain ⟨fuel, hf⟩ := h
  obtain ⟨a0, n0, c0, rfl⟩ := okWide_slice Tryd.underlying23 hok
  rcases Deep.open_slice Tryd.underlying23 hf with ⟨hcs, _⟩ | ⟨a, len, cap, m, n, D, Pl, hcs, _, hlc, _, hm, _, hall⟩
  · simp [Value.cells] at hcs
    obtain ⟨rfl, rfl, rfl⟩ := hcs
    exact ⟨[], Dv.nil⟩
  · simp [Value.cells] at hcs
    obtain ⟨rfl, rfl, rfl⟩ := hcs
    have hlm : n0 ≤ m := by rw [hm]; split <;> omega
    have each : ∀ i, i < n0 → ∃ b : Int × BS, ∀ j u, (bagC b).toList[j]? = some u → w.cell? (a.add (i * 17 + j)) = some u := by
      intro i hi
      obtain ⟨cs', h1, h2⟩ := hall i (by omega)
      rw [cellsBag] at h1
      obtain ⟨_, hlen, hcell⟩ := World.cells?_some h1
      obtain ⟨b, rfl⟩ := bag_cells h2
      refine ⟨b, fun j u hu => ?_⟩
      have hj : j < 17 := by have := (List.getElem?_eq_some_iff.1 hu).1; rw [bagC_len] at this; exact this
      have := hcell j hj
      rw [Deep.add_add] at this
      rw [this]; exact hu
    obtain ⟨f, hf'⟩ := Deep.choose_lt each
    by_cases h0 : n0 = 0
    · subst h0
      have hb : a.block < w.heap.size := by
        have h1 : Cell.ok Tryd.prog w .any b0 23 (.slice (some a) 0 c0) := by
          have := hok
          simpa [Value.okWide, Cell.okWide, Tryd.underlying23] using this
        have h2 : 0 ≤ c0 ∧ (c0 : Int) ≤ IntKind.i64.max ∧ w.has Tryd.prog .any b0 a 86 c0 := by
          simpa [Cell.ok, Tryd.underlying23] using h1
        have h3 := h2.2.2.2.2
        obtain ⟨row, h3⟩ := h3
        obtain ⟨cells, h3⟩ := h3
        have h4 := h3.1
        apply Classical.byContradiction
        intro hn
        have : w.heap[a.block]? = none := Array.getElem?_eq_none (by omega)
        simp [World.shape?, this] at h4
      exact ⟨[], Dv.sl.2 (.inr ⟨a, c0, [], rfl, by simp, fun hg => hg.elim, hb, rfl, fun j u hu => by simp at hu⟩)⟩
    · refine ⟨(List.range n0).map f, Dv.sl.2 (.inr ⟨a, c0, ((List.range n0).map f).flatMap fun b => (bagC b).toList, by simp, by simpa using hlc, fun hg => hg.elim, ?_, bags_cells _, fun j u hu => ?_⟩)⟩
      · have := hf' 0 (by omega) 0 (I (f 0).1) rfl
        have := World.block_lt_of_cell? w _ this
        simpa [add_block] using this
      · rw [List.range_eq_range'] at hu
        have := bags_at (w := w) (a := a) (f := f) n0 0 (fun i _ hi j u hu => hf' i (by omega) j u hu) j u hu
        simpa using this
end
end Go.Mono

set_option linter.unusedVariables false
set_option linter.unusedSimpArgs false
namespace Go.Mono
open Go Go.Proofs Go.RowKit Go.ChangeShapes Go.WideShapes

section
variable {H : Type} {enc : TypeId × Value → H} {w : World} {base : Nat} {spare : Nat → Bool} {held : Bool}
theorem okWide_ar {P : Program} {t e : TypeId} {n : Nat} (ht : P.underlying t = some (.array n e)) {r : Reach} {b0 : Nat} {v : Value} (h : Value.okWide P w r b0 t v) : ∃ cs, v = .agg cs ∧ cs.size = P.cellsOf t := by
  simp only [Value.okWide, ht] at h
  obtain ⟨cs, h1, h2, _⟩ := h
  exact ⟨cs, h1, h2⟩
set_option maxRecDepth 100000 in
theorem okWide_set {r : Reach} {b0 : Nat} {v : Value} (h : Value.okWide Tryd.prog w r b0 37 v) : ∃ cs, v = .agg cs ∧ cs.size = 16 := by
  obtain ⟨cs, h1, h2⟩ := okWide_ar Tryd.underlying37 h
  exact ⟨cs, h1, h2.trans cellsSet⟩
set_option maxRecDepth 100000 in
/-- THE ARGUMENT, OPENED -/
theorem open_set {v : Value} {d : DataW H} {ps : List MemPlace} {b0 : Nat} (hok : Value.okWide Tryd.prog w .any b0 37 v) (h : DataW.Trod enc Tryd.prog w 0 spare held 37 v d ps) : ∃ S, v = setV S := by
  obtain ⟨fuel, hf⟩ := h
  obtain ⟨cs, rfl, hsz⟩ := okWide_set hok
  have hf : DataW.trod enc Tryd.prog w 0 spare held fuel 37 cs.toList = some (d, ps) := hf
  obtain ⟨xs, m2, _, _, hl2, hxl, hall⟩ := DataW.trod_array Tryd.underlying37 hf
  have hw : ∀ i, i < 16 → ∃ y : BitVec 64, cs[i]? = some (Mono.W y) := by
    intro i hi
    have := hall i hi
    rw [cellsU64, Nat.mul_one] at this
    obtain ⟨b, hb⟩ : ∃ b, xs[i]? = some b := ⟨_, List.getElem?_eq_getElem (by omega)⟩
    rw [hb] at this
    obtain ⟨u, hu, _, hwf⟩ := DataW.trod_int Tryd.underlying35 this
    refine ⟨BitVec.ofNat 64 u.toNat, ?_⟩
    rw [← u64_of hwf]
    have h3 := congrArg (fun l : List Value => l[0]?) hu
    simp only [List.getElem?_cons_zero] at h3
    rw [List.getElem?_take, if_pos (by decide), List.getElem?_drop, Nat.add_zero, Array.getElem?_toList] at h3
    exact h3
  obtain ⟨f, hf'⟩ := Deep.choose_lt (n := 16) (p := fun i (y : BitVec 64) => cs[i]? = some (Mono.W y)) hw
  refine ⟨ofW f 16, congrArg Value.agg (Array.ext_getElem? fun j => ?_)⟩
  rw [wordsC_ofW]
  by_cases hj : j < 16
  · rw [wordsC_get _ _ hj]; exact hf' j hj
  · rw [Array.getElem?_eq_none (by omega), Array.getElem?_eq_none (by rw [wordsC_size]; omega)]
end
end Go.Mono
