/-
  The reference's checks, boundary, parts and centre, walked.
  No condition.
-/
import Derived.Test.YtnhbkdliljcedaaDoorRef29a
import Derived.Test.YtnhbkdliljcedaaDoorBalB
set_option linter.unusedVariables false
set_option linter.unusedSimpArgs false
set_option linter.unusedVariables false
set_option linter.unusedSimpArgs false
namespace Go.Mono
open Go Go.Proofs Go.RowKit

theorem right_spec {G : Nat → Prop} {t : List (Int × BS)} (hl : t.length ≤ 1000) (v : Value) (W : World) (h : (Dv rtE G (toT t)).p v W) : Calls Tryd.prog 57 #[v] W (Post (E (I (chkR (toT t)))) W) := by
  have hxl := toT_len t
  refine enter (args := [v]) (As := [Dv rtE G (toT t)]) Tryd.func57 rfl Tryd.ntmps57 (Nat.le_of_ble_eq_true rfl) ?_ (fun a hf => ?_) (Nat.le_of_ble_eq_true rfl)
  rotate_left
  dsimp only [params, Nat.reduceAdd] at hf
  rotate_right
  · exact arg1 h
  have e := Ext.rfl' W
  repeat refine seq ?_
  refine regn0 ?_
  refine tl_as hf rfl (by decide) fun a hf => ?_
  refine tl_nil ?_
  repeat refine seq ?_
  refine regn 2 hf (by decide +kernel) ?_
  refine st (mv rfl) ?_
  refine st (call1 En110 rfl (fun v w he h => chkR_spec (toT t) v w h (by omega) (fun i _ => Nat.le_trans (hs_le t i) (by decide)))) ?_
  refine en fun a w e' hf => ?_
  replace e := Ext.tr e e'
  clear e'
  refine tl_as hf rfl (by decide) fun a hf => ?_
  refine tl_nil ?_
  generalize hc : chkR (toT t) = c at *
  repeat refine seq ?_
  refine regn 2 hf (by decide +kernel) ?_
  refine st (mv rfl) ?_
  refine st (neq rfl rfl) ?_
  refine en fun a w e' hf => ?_
  replace e := Ext.tr e e'
  clear e'
  refine tl_nil ?_
  repeat refine seq ?_
  refine ifc hf rfl (fun hb => ?_) (fun hb => ?_)
  · repeat refine seq ?_
    refine regn 1 hf (by decide +kernel) ?_
    refine st (mv rfl) ?_
    refine en fun a w e' hf => ?_
    replace e := Ext.tr e e'
    clear e'
    refine tl_as hf rfl (by decide) fun a hf => ?_
    refine tl_nil ?_
    refine wret ?_
    try simp only [Exit.then, Exit.inBlock]
    refine ret1 rfl hf rfl ?_
    rintro _ rfl
    exact ⟨_, rfl, e, rfl⟩
  · have hb' : c = 0 := by simpa using hb
    refine wskip ?_
    try simp only [Exit.then, Exit.inBlock, ↓reduceIte]
    repeat refine seq ?_
    refine regn 3 hf (by decide +kernel) ?_
    refine st (mv rfl) ?_
    refine st (lenD Tryd.underlying26 (isR rfl)) ?_
    refine st ((gtr rfl rfl).eq (congrArg Value.bool (decide_eq_false (by omega)))) ?_
    refine en fun a w e' hf => ?_
    replace e := Ext.tr e e'
    clear e'
    refine tl_nil ?_
    repeat refine seq ?_
    refine ifc hf rfl (fun h => by cases h) (fun _ => ?_)
    refine wskip ?_
    try simp only [Exit.then, Exit.inBlock, ↓reduceIte]
    repeat refine seq ?_
    refine regn0 ?_
    refine tl_as hf rfl (by decide) fun a hf => ?_
    refine tl_nil ?_
    refine wret ?_
    try simp only [Exit.then, Exit.inBlock]
    refine ret1 rfl hf rfl ?_
    rintro _ rfl
    exact ⟨_, rfl, e, congrArg I hb'.symm⟩

theorem check29_spec {G : Nat → Prop} {t : List (Int × BS)} (hl : t.length ≤ 1000) (S : BS) (v u : Value) (W : World) (h : (Dv rtE G (toT t)).p v W) (h' : (Dv (slE intE) G (toL S)).p u W) : Calls Tryd.prog 69 #[v, u] W (Post (E (I (partE t S))) W) := by
  have hxl := toT_len t
  obtain ⟨cS, hcS⟩ : ∃ c, card S = c := ⟨_, rfl⟩
  have hls : (toL S).length = cS := (toL_card S).trans hcS
  have hcl : cS ≤ 1024 := by rw [← hcS]; exact card_le_n fun i hi => bit_lt hi
  refine enter (args := [v, u]) (As := [Dv rtE Go.Mono.G0 (toT t), Dv (slE intE) Go.Mono.G0 (toL S)]) Tryd.func69 rfl Tryd.ntmps69 (Nat.le_of_ble_eq_true rfl) ?_ (fun a hf => ?_) (Nat.le_of_ble_eq_true rfl)
  rotate_left
  dsimp only [params, Nat.reduceAdd] at hf
  rotate_right
  · exact arg2 (Dv.weak h fun b _ hb => hb.elim) (Dv.weak h' fun b _ hb => hb.elim)
  have e := Ext.rfl' W
  repeat refine seq ?_
  refine regn0 ?_
  refine tl_as hf rfl (by decide) fun a hf => ?_
  refine tl_nil ?_
  repeat refine seq ?_
  refine regn 2 hf (by decide +kernel) ?_
  refine st (mv rfl) ?_
  refine st (call1 En57 rfl (fun v w he h => right_spec hl v w h)) ?_
  refine en fun a w e' hf => ?_
  replace e := Ext.tr e e'
  clear e'
  refine tl_as hf rfl (by decide) fun a hf => ?_
  refine tl_nil ?_
  obtain ⟨c, hc⟩ : ∃ c, chkR (toT t) = c := ⟨_, rfl⟩
  rw [hc] at hf
  replace hf := hf.keep [0, 1, 5]
  dsimp only [keep, List.filterMap, look, Nat.beq, Option.map] at hf
  repeat refine seq ?_
  refine regn 2 hf (by decide +kernel) ?_
  refine st (mv rfl) ?_
  refine st (neq rfl rfl) ?_
  refine en fun a w e' hf => ?_
  replace e := Ext.tr e e'
  clear e'
  refine tl_nil ?_
  repeat refine seq ?_
  refine ifc hf rfl (fun hb => ?_) (fun hb => ?_)
  · have hb' : c ≠ 0 := by simpa using hb
    repeat refine seq ?_
    refine regn 1 hf (by decide +kernel) ?_
    refine st (mv rfl) ?_
    refine en fun a w e' hf => ?_
    replace e := Ext.tr e e'
    clear e'
    refine tl_as hf rfl (by decide) fun a hf => ?_
    refine tl_nil ?_
    refine wret ?_
    try simp only [Exit.then, Exit.inBlock]
    refine ret1 rfl hf rfl ?_
    rintro _ rfl
    exact ⟨_, rfl, e, congrArg I (by rw [partE, if_pos (by rw [hc]; exact hb'), hc])⟩
  have h0 : chkR (toT t) = 0 := by rw [hc]; simpa using hb
  have V := (chkR_ok.1 h0).2
  clear hb
  refine wskip ?_
  try simp only [Exit.then, Exit.inBlock, ↓reduceIte]
  replace hf := hf.keep [0, 1]
  dsimp only [keep, List.filterMap, look, Nat.beq, Option.map] at hf
  cases hcz : cS with
  | zero =>
    have hE := partE_zero h0 (hcS.trans hcz)
    have b2 : ((((toL S).length : Nat) : Int) == 0) = true := by rw [hls, hcz]; rfl
    repeat refine seq ?_
    refine regn 26 hf (by decide +kernel) ?_
    refine st (mv rfl) ?_
    refine st (lenD Tryd.underlying57 (isR rfl)) ?_
    refine st ((eql rfl rfl).eq (congrArg Value.bool (b2))) ?_
    refine st (mv rfl) ?_
    first | refine sn rfl rfl rfl ?_ | refine su rfl rfl ?_ | refine sy rfl rfl (mv rfl) ?_
    first | refine sn rfl rfl rfl ?_ | refine su rfl rfl ?_ | refine sy rfl rfl (mv rfl) ?_
    first | refine sn rfl rfl rfl ?_ | refine su rfl rfl ?_ | refine sy rfl rfl (lenD Tryd.underlying57 (isR rfl)) ?_
    first | refine sn rfl rfl rfl ?_ | refine su rfl rfl ?_ | refine sy rfl rfl (sub rfl rfl (by omega)) ?_
    first | refine sn rfl rfl rfl ?_ | refine su rfl rfl ?_ | refine sy rfl rfl (idxD Tryd.underlying57 S3 (isR rfl) rfl (by omega) (by assumption)) ?_
    first | refine sn rfl rfl rfl ?_ | refine su rfl rfl ?_ | refine sy rfl rfl (ldI T3 (isR rfl)) ?_
    first | refine sn rfl rfl rfl ?_ | refine su rfl rfl ?_ | refine sy rfl rfl (mv rfl) ?_
    first | refine sn rfl rfl rfl ?_ | refine su rfl rfl ?_ | refine sy rfl rfl (lenD Tryd.underlying26 (isR rfl)) ?_
    first | refine sn rfl rfl rfl ?_ | refine su rfl rfl ?_ | refine sy rfl rfl (geq rfl rfl) ?_
    first | refine st (pkT rfl rfl) ?_ | refine st (pkF rfl rfl) ?_ | refine st (pk rfl rfl rfl) ?_
    refine st (mv rfl) ?_
    first | refine sn rfl rfl rfl ?_ | refine su rfl rfl ?_ | refine sy rfl rfl (mv rfl) ?_
    first | refine sn rfl rfl rfl ?_ | refine su rfl rfl ?_ | refine sy rfl rfl (mv rfl) ?_
    first | refine sn rfl rfl rfl ?_ | refine su rfl rfl ?_ | refine sy rfl rfl (mv rfl) ?_
    first | refine sn rfl rfl rfl ?_ | refine su rfl rfl ?_ | refine sy rfl rfl (idxD Tryd.underlying57 S3 (isR rfl) rfl (by omega) (by assumption)) ?_
    first | refine sn rfl rfl rfl ?_ | refine su rfl rfl ?_ | refine sy rfl rfl (ldI T3 (isR rfl)) ?_
    first | refine sn rfl rfl rfl ?_ | refine su rfl rfl ?_ | refine sy rfl rfl (TODO_call) ?_
    first | refine sn rfl rfl rfl ?_ | refine su rfl rfl ?_ | refine sy rfl rfl (lenD Tryd.underlying57 (isR rfl)) ?_
    first | refine sn rfl rfl rfl ?_ | refine su rfl rfl ?_ | refine sy rfl rfl (mv rfl) ?_
    first | refine sn rfl rfl rfl ?_ | refine su rfl rfl ?_ | refine sy rfl rfl (lenD Tryd.underlying57 (isR rfl)) ?_
    first | refine sn rfl rfl rfl ?_ | refine su rfl rfl ?_ | refine sy rfl rfl (neq rfl rfl) ?_
    first | refine st (pkT rfl rfl) ?_ | refine st (pkF rfl rfl) ?_ | refine st (pk rfl rfl rfl) ?_
    refine en fun a w e' hf => ?_
    replace e := Ext.tr e e'
    clear e'
    refine tl_nil ?_
    repeat refine seq ?_
    refine ifc hf rfl (fun _ => ?_) (fun h => by cases h)
    repeat refine seq ?_
    refine regn0 ?_
    refine tl_as hf rfl (by decide) fun a hf => ?_
    refine tl_nil ?_
    refine wret ?_
    try simp only [Exit.then, Exit.inBlock]
    refine ret1 rfl hf rfl ?_
    rintro _ rfl
    exact ⟨_, rfl, e, congrArg I hE.symm⟩
  | succ c1 =>
    have hcc : card S = c1 + 1 := hcS.trans hcz
    have hls2 : (toL S).length = c1 + 1 := hls.trans hcz
    obtain ⟨m, hm, hmS, hmx⟩ := last_ex hcc
    obtain ⟨k, hk⟩ := card_ne hcc
    have gm := toL_get hm
    have gk := toL_get (first_ex hk)
    have b2 : ((((toL S).length : Nat) : Int) == 0) = false := by rw [hls2]; exact beq_eq_false_iff_ne.2 (by omega)
    by_cases hmt : t.length ≤ m
    · have hE := partE_far hl h0 hmS hmt
      have b12 : decide ((((toT t).length : Nat) : Int) ≤ ((m : Nat) : Int)) = true := decide_eq_true (by omega)
      repeat refine seq ?_
      refine regn 26 hf (by decide +kernel) ?_
      refine st (mv rfl) ?_
      refine st (lenD Tryd.underlying57 (isR rfl)) ?_
      refine st ((eql rfl rfl).eq (congrArg Value.bool (b2))) ?_
      refine st (mv rfl) ?_
      first | refine sn rfl rfl rfl ?_ | refine su rfl rfl ?_ | refine sy rfl rfl (mv rfl) ?_
      first | refine sn rfl rfl rfl ?_ | refine su rfl rfl ?_ | refine sy rfl rfl (mv rfl) ?_
      first | refine sn rfl rfl rfl ?_ | refine su rfl rfl ?_ | refine sy rfl rfl (lenD Tryd.underlying57 (isR rfl)) ?_
      first | refine sn rfl rfl rfl ?_ | refine su rfl rfl ?_ | refine sy rfl rfl (sub rfl rfl (by omega)) ?_
      first | refine sn rfl rfl rfl ?_ | refine su rfl rfl ?_ | refine sy rfl rfl (idxD (j := c1) Tryd.underlying57 S3 (isR rfl) rfl (by rw [hls2]; omega) gm) ?_
      first | refine sn rfl rfl rfl ?_ | refine su rfl rfl ?_ | refine sy rfl rfl (ldI T3 (isR rfl)) ?_
      first | refine sn rfl rfl rfl ?_ | refine su rfl rfl ?_ | refine sy rfl rfl (mv rfl) ?_
      first | refine sn rfl rfl rfl ?_ | refine su rfl rfl ?_ | refine sy rfl rfl (lenD Tryd.underlying26 (isR rfl)) ?_
      first | refine sn rfl rfl rfl ?_ | refine su rfl rfl ?_ | refine sy rfl rfl ((geq rfl rfl).eq (congrArg Value.bool (b12))) ?_
      first | refine st (pkT rfl rfl) ?_ | refine st (pkF rfl rfl) ?_ | refine st (pk rfl rfl rfl) ?_
      refine st (mv rfl) ?_
      first | refine sn rfl rfl rfl ?_ | refine su rfl rfl ?_ | refine sy rfl rfl (mv rfl) ?_
      first | refine sn rfl rfl rfl ?_ | refine su rfl rfl ?_ | refine sy rfl rfl (mv rfl) ?_
      first | refine sn rfl rfl rfl ?_ | refine su rfl rfl ?_ | refine sy rfl rfl (mv rfl) ?_
      first | refine sn rfl rfl rfl ?_ | refine su rfl rfl ?_ | refine sy rfl rfl (idxD Tryd.underlying57 S3 (isR rfl) rfl (by omega) (by assumption)) ?_
      first | refine sn rfl rfl rfl ?_ | refine su rfl rfl ?_ | refine sy rfl rfl (ldI T3 (isR rfl)) ?_
      first | refine sn rfl rfl rfl ?_ | refine su rfl rfl ?_ | refine sy rfl rfl (TODO_call) ?_
      first | refine sn rfl rfl rfl ?_ | refine su rfl rfl ?_ | refine sy rfl rfl (lenD Tryd.underlying57 (isR rfl)) ?_
      first | refine sn rfl rfl rfl ?_ | refine su rfl rfl ?_ | refine sy rfl rfl (mv rfl) ?_
      first | refine sn rfl rfl rfl ?_ | refine su rfl rfl ?_ | refine sy rfl rfl (lenD Tryd.underlying57 (isR rfl)) ?_
      first | refine sn rfl rfl rfl ?_ | refine su rfl rfl ?_ | refine sy rfl rfl (neq rfl rfl) ?_
      first | refine st (pkT rfl rfl) ?_ | refine st (pkF rfl rfl) ?_ | refine st (pk rfl rfl rfl) ?_
      refine en fun a w e' hf => ?_
      replace e := Ext.tr e e'
      clear e'
      refine tl_nil ?_
      repeat refine seq ?_
      refine ifc hf rfl (fun _ => ?_) (fun h => by cases h)
      repeat refine seq ?_
      refine regn0 ?_
      refine tl_as hf rfl (by decide) fun a hf => ?_
      refine tl_nil ?_
      refine wret ?_
      try simp only [Exit.then, Exit.inBlock]
      refine ret1 rfl hf rfl ?_
      rintro _ rfl
      exact ⟨_, rfl, e, congrArg I hE.symm⟩
    · have hin : ∀ i, S.getLsbD i = true → i < t.length := fun i hi => by have := hmx i hi; omega
      have hE := partE_near hl h0 hk hin
      have b12 : decide ((((toT t).length : Nat) : Int) ≤ ((m : Nat) : Int)) = false := decide_eq_false (by omega)
      have F := fo_tree hl V
      have hTn : (trOf (toT t) V).n = t.length := toT_len t
      have hsub := comp_sub F (fun i hi => by rw [hTn]; exact hin i hi) (minOf_mem hk)
      have hcc2 : card (compB (adjL t) S k) ≤ 1024 := card_le_n fun i hi => bit_lt hi
      obtain ⟨q, hq⟩ : ∃ q : Bool, q = !decide (compB (adjL t) S k = S) := ⟨_, rfl⟩
      have b24 : ((((toL (compB (adjL t) S k)).length : Nat) : Int) != (((toL S).length : Nat) : Int)) = q := by
        rw [toL_card, toL_card, hq, Bool.eq_iff_iff, bne_iff_ne, Bool.not_eq_true', decide_eq_false_iff_not]
        constructor
        · intro hne heq
          exact hne (by rw [heq])
        · intro hne heq
          exact hne (card_eq_sub hsub (by omega))
      generalize hCE : compB (adjL t) S k = C at *
      repeat refine seq ?_
      refine regn 26 hf (by decide +kernel) ?_
      refine st (mv rfl) ?_
      refine st (lenD Tryd.underlying57 (isR rfl)) ?_
      refine st ((eql rfl rfl).eq (congrArg Value.bool (b2))) ?_
      refine st (mv rfl) ?_
      first | refine sn rfl rfl rfl ?_ | refine su rfl rfl ?_ | refine sy rfl rfl (mv rfl) ?_
      first | refine sn rfl rfl rfl ?_ | refine su rfl rfl ?_ | refine sy rfl rfl (mv rfl) ?_
      first | refine sn rfl rfl rfl ?_ | refine su rfl rfl ?_ | refine sy rfl rfl (lenD Tryd.underlying57 (isR rfl)) ?_
      first | refine sn rfl rfl rfl ?_ | refine su rfl rfl ?_ | refine sy rfl rfl (sub rfl rfl (by omega)) ?_
      first | refine sn rfl rfl rfl ?_ | refine su rfl rfl ?_ | refine sy rfl rfl (idxD (j := c1) Tryd.underlying57 S3 (isR rfl) rfl (by rw [hls2]; omega) gm) ?_
      first | refine sn rfl rfl rfl ?_ | refine su rfl rfl ?_ | refine sy rfl rfl (ldI T3 (isR rfl)) ?_
      first | refine sn rfl rfl rfl ?_ | refine su rfl rfl ?_ | refine sy rfl rfl (mv rfl) ?_
      first | refine sn rfl rfl rfl ?_ | refine su rfl rfl ?_ | refine sy rfl rfl (lenD Tryd.underlying26 (isR rfl)) ?_
      first | refine sn rfl rfl rfl ?_ | refine su rfl rfl ?_ | refine sy rfl rfl ((geq rfl rfl).eq (congrArg Value.bool (b12))) ?_
      first | refine st (pkT rfl rfl) ?_ | refine st (pkF rfl rfl) ?_ | refine st (pk rfl rfl rfl) ?_
      refine st (mv rfl) ?_
      first | refine sn rfl rfl rfl ?_ | refine su rfl rfl ?_ | refine sy rfl rfl (mv rfl) ?_
      first | refine sn rfl rfl rfl ?_ | refine su rfl rfl ?_ | refine sy rfl rfl (mv rfl) ?_
      first | refine sn rfl rfl rfl ?_ | refine su rfl rfl ?_ | refine sy rfl rfl (mv rfl) ?_
      first | refine sn rfl rfl rfl ?_ | refine su rfl rfl ?_ | refine sy rfl rfl (idxD Tryd.underlying57 S3 (isR rfl) rfl (by omega) (gk)) ?_
      first | refine sn rfl rfl rfl ?_ | refine su rfl rfl ?_ | refine sy rfl rfl (ldI T3 (isR rfl)) ?_
      first | refine sn rfl rfl rfl ?_ | refine su rfl rfl ?_ | refine sy rfl rfl (call3 (A := Dv (slE intE) Go.Mono.G0 (toL C)) En128 rfl rfl rfl (fun v u s w he h h' h'' => by cases h''; rw [← hCE]; exact come_spec hl V S k _ _ w h h' (fun b hb => hb.elim) hin (minOf_mem hk))) ?_
      first | refine sn rfl rfl rfl ?_ | refine su rfl rfl ?_ | refine sy rfl rfl (lenD Tryd.underlying57 (isR rfl)) ?_
      first | refine sn rfl rfl rfl ?_ | refine su rfl rfl ?_ | refine sy rfl rfl (mv rfl) ?_
      first | refine sn rfl rfl rfl ?_ | refine su rfl rfl ?_ | refine sy rfl rfl (lenD Tryd.underlying57 (isR rfl)) ?_
      first | refine sn rfl rfl rfl ?_ | refine su rfl rfl ?_ | refine sy rfl rfl ((neq rfl rfl).eq (congrArg Value.bool (b24))) ?_
      first | refine st (pkT rfl rfl) ?_ | refine st (pkF rfl rfl) ?_ | refine st (pk rfl rfl rfl) ?_
      refine en fun a w e' hf => ?_
      replace e := Ext.tr e e'
      clear e'
      refine tl_nil ?_
      repeat refine seq ?_
      refine ifc hf rfl (fun hb => ?_) (fun hb => ?_)
      · repeat refine seq ?_
        refine regn0 ?_
        refine tl_as hf rfl (by decide) fun a hf => ?_
        refine tl_nil ?_
        refine wret ?_
        try simp only [Exit.then, Exit.inBlock]
        refine ret1 rfl hf rfl ?_
        rintro _ rfl
        exact ⟨_, rfl, e, congrArg I (by rw [hE, if_neg]; intro hh; rw [hq, hh] at hb; simp at hb)⟩
      · refine wskip ?_
        repeat refine seq ?_
        refine regn0 ?_
        refine tl_as hf rfl (by decide) fun a hf => ?_
        refine tl_nil ?_
        refine wret ?_
        try simp only [Exit.then, Exit.inBlock]
        refine ret1 rfl hf rfl ?_
        rintro _ rfl
        exact ⟨_, rfl, e, congrArg I (by rw [hE, if_pos]; rw [hq] at hb; simpa using hb)⟩

/-- what Out has found among the bags below b -/
def OutB (xs : List RB) (S : BS) (b : Nat) (N : BS) : Prop := ∀ i, N.getLsbD i = true ↔ i < b ∧ ¬S.getLsbD i = true ∧ ∃ x, S.getLsbD x = true ∧ besB xs i x = true
theorem outR_spec {G : Nat → Prop} {t : List (Int × BS)} (hl : t.length ≤ 1000) (V : Vals (toT t)) (S : BS) (v u : Value) (W : World) (h : (Dv rtE G (toT t)).p v W) (h' : (Dv (slE intE) G (toL S)).p u W) (hin : ∀ i, S.getLsbD i = true → i < t.length) :
    Calls Tryd.prog 70 #[v, u] W (Post (Dv (slE intE) Go.Mono.G0 (toL (outM (adjL t) S))) W) := by
  have F := fo_tree hl V
  have hTn : (trOf (toT t) V).n = t.length := toT_len t
  have hxl := toT_len t
  have hcl : ∀ {X : BS}, card X ≤ 1024 := fun {X} => card_le_n fun i hi => bit_lt hi
  obtain ⟨cS, hcS⟩ : ∃ c, card S = c := ⟨_, rfl⟩
  have hls : (toL S).length = cS := (toL_card S).trans hcS
  have hbS : cS ≤ 1024 := by rw [← hcS]; exact hcl
  have hfin : ∀ N, OutB (toT t) S t.length N → N = outM (adjL t) S := fun N hN => set_ext' fun i => by
    rw [hN i, out_bit F (fun i hi => by rw [hTn]; exact hin i hi) i, hTn]
    constructor
    · rintro ⟨h1, h2, x, h3, h4⟩
      exact ⟨h1, h2, x, h3, ((bes_adj V h1 (hin x h3)).1 h4).symm⟩
    · rintro ⟨h1, h2, x, h3, h4⟩
      exact ⟨h1, h2, x, h3, (bes_adj V h1 (hin x h3)).2 h4.symm⟩
  refine enter (args := [v, u]) (As := [Dv rtE Go.Mono.G0 (toT t), Dv (slE intE) Go.Mono.G0 (toL S)]) Tryd.func70 rfl Tryd.ntmps70 (Nat.le_of_ble_eq_true rfl) ?_ (fun a hf => ?_) (Nat.le_of_ble_eq_true rfl)
  rotate_left
  dsimp only [params, Nat.reduceAdd] at hf
  rotate_right
  · exact arg2 (Dv.weak h fun b _ hb => hb.elim) (Dv.weak h' fun b _ hb => hb.elim)
  have e := Ext.rfl' W
  have hG : ∀ b, Go.Mono.G0 b → b < W.heap.size := fun b hb => hb.elim
  repeat refine seq ?_
  refine regn0 ?_
  refine tl_as hf rfl (by decide) fun a hf => ?_
  refine tl_nil ?_
  repeat refine seq ?_
  refine regn0 ?_
  refine tl_bsl0 W.heap.size Go.Mono.G0 intE Tryd.underlying57 S3 hf (by decide) e.size hG fun a v w e' hov Ho hf => ?_
  replace e := Ext.tr e e'
  clear e'
  refine tl_as hf rfl (by decide) fun a hf => ?_
  refine tl_nil ?_
  have HZ : (Dv (slE intE) Go.Mono.G0 (toL 0)).p v w := by rw [toL_zero]; exact Ho.sl
  replace hf := hf.upd 5 rfl (B := Dv (slE intE) Go.Mono.G0 (toL 0)) (fun v' hv' => by cases hv'; exact HZ)
  clear Ho HZ
  replace hf := hf.keep [0, 1, 5]
  dsimp only [keep, List.filterMap, look, Nat.beq, Option.map] at hf
  repeat refine seq ?_
  refine regn0 ?_
  refine tl_as hf rfl (by decide) fun a hf => ?_
  refine tl_nil ?_
  replace hf := hf.keep [0, 1, 5, 6]
  dsimp only [keep, List.filterMap, look, Nat.beq, Option.map] at hf
  repeat refine seq ?_
  refine blk (loopN (fun r0 a w => ∃ (b : Nat) (N : BS), r0 = t.length - b ∧ b ≤ t.length ∧ OutB (toT t) S b N ∧ Fr 35 a w [(0, Dv rtE Go.Mono.G0 (toT t)), (1, Dv (slE intE) Go.Mono.G0 (toL S)), (5, Dv (slE intE) Go.Mono.G0 (toL N)), (6, E (I b))] ∧ Ext W w) t.length ⟨0, 0, rfl, by omega, fun i => ⟨fun h => absurd h (bit_zero i), fun h => by omega⟩, hf, e⟩ ?_)
  clear hf e
  rintro r0 a w ⟨b, N, rfl, hb, hN, hf, e⟩
  repeat refine seq ?_
  refine regn 4 hf (by decide +kernel) ?_
  refine st (mv rfl) ?_
  refine st (mv rfl) ?_
  refine st (lenD Tryd.underlying26 (isR rfl)) ?_
  refine st (lss rfl rfl) ?_
  refine en fun a w e' hf => ?_
  replace e := Ext.tr e e'
  clear e'
  refine tl_nil ?_
  rw [hxl] at hf
  repeat refine seq ?_
  refine ifc hf rfl (fun hc => wskip ?_) (fun hc => wexit ?_)
  · have hlt : b < t.length := by have := of_decide_eq_true hc; omega
    clear hc
    simp only [Exit.then, Exit.inBlock, ↓reduceIte]
    obtain ⟨q, hq⟩ : ∃ q, hasL (toL S) (b : Int) = q := ⟨_, rfl⟩
    have hqb : q = true ↔ S.getLsbD b = true := by
      rw [← hq, hasL, decide_eq_true_eq, toL_mem']
      exact ⟨fun ⟨i, e, h⟩ => by have : b = i := by omega
                                 rw [this]; exact h, fun h => ⟨b, rfl, h⟩⟩
    repeat refine seq ?_
    refine blk ?_
    replace hf := hf.keep [0, 1, 5, 6]
    dsimp only [keep, List.filterMap, look, Nat.beq, Option.map] at hf
    repeat refine seq ?_
    refine regn 3 hf (by decide +kernel) ?_
    refine st (mv rfl) ?_
    refine st (mv rfl) ?_
    refine st (call2 (A := E (B q)) En84 rfl rfl (fun v u w he h h' => by cases h'; rw [← hq]; exact hasL_spec _ _ _ _ h (by omega))) ?_
    refine en fun a w e' hf => ?_
    replace e := Ext.tr e e'
    clear e'
    refine tl_nil ?_
    repeat refine seq ?_
    refine ifc hf rfl (fun hb => ?_) (fun hb => ?_)
    · have hSb := hqb.1 hb
      refine wexit ?_
      try simp only [Exit.then, Exit.inBlock, ↓reduceIte]
      replace hf := hf.keep [0, 1, 5, 6]
      dsimp only [keep, List.filterMap, look, Nat.beq, Option.map] at hf
      repeat refine seq ?_
      refine regn 2 hf (by decide +kernel) ?_
      refine st (mv rfl) ?_
      refine st ((add rfl rfl (by omega)).eq (congrArg (Value.int .i64) (show (b : Int) + 1 = ((b + 1 : Nat) : Int) from rfl))) ?_
      refine en fun a w e' hf => ?_
      replace e := Ext.tr e e'
      clear e'
      refine tl_as hf rfl (by decide) fun a hf => ?_
      refine tl_nil ?_
      replace hf := hf.keep [0, 1, 5, 6]
      dsimp only [keep, List.filterMap, look, Nat.beq, Option.map] at hf
      refine ⟨t.length - (b + 1), by omega, b + 1, N, rfl, by omega, fun i => ?_, hf, e⟩
      rw [hN i]
      constructor
      · rintro ⟨h1, h2⟩; exact ⟨by omega, h2⟩
      · rintro ⟨h1, h2, h3⟩
        refine ⟨?_, h2, h3⟩
        apply Classical.byContradiction
        intro hh
        have : i = b := by omega
        subst this
        exact h2 hSb
    · have hSb : ¬S.getLsbD b = true := fun hh => by rw [hqb.2 hh] at hb; cases hb
      refine wskip ?_
      try simp only [Exit.then, Exit.inBlock, ↓reduceIte]
      repeat refine seq ?_
      refine regn0 ?_
      refine tl_as hf rfl (by decide) fun a hf => ?_
      refine tl_nil ?_
      replace hf := hf.keep [0, 1, 5, 6, 7]
      dsimp only [keep, List.filterMap, look, Nat.beq, Option.map] at hf
      repeat refine seq ?_
      refine cut (J := fun a w => ∃ N' : BS, OutB (toT t) S (b + 1) N' ∧ Fr 35 a w [(0, Dv rtE Go.Mono.G0 (toT t)), (1, Dv (slE intE) Go.Mono.G0 (toL S)), (5, Dv (slE intE) Go.Mono.G0 (toL N')), (6, E (I b))] ∧ Ext W w) ?_ (fun a w hJ => ?_)
      · refine blk (loopN (fun r0 a w => ∃ (k : Nat) (M : BS), r0 = cS - k ∧ k ≤ cS ∧ (∀ i, M.getLsbD i = true ↔ N.getLsbD i = true ∨ (i = b ∧ ∃ x ∈ (elems S).take k, besB (toT t) b x = true)) ∧ Fr 35 a w [(0, Dv rtE Go.Mono.G0 (toT t)), (1, Dv (slE intE) Go.Mono.G0 (toL S)), (5, Dv (slE intE) Go.Mono.G0 (toL M)), (6, E (I b)), (7, E (I k))] ∧ Ext W w) cS ⟨0, N, rfl, by omega, fun i => by simp, hf, e⟩ ?_)
        clear hf e
        rintro r0 a w ⟨k, M, rfl, hk, hM, hf, e⟩
        repeat refine seq ?_
        refine regn 4 hf (by decide +kernel) ?_
        refine st (mv rfl) ?_
        refine st (mv rfl) ?_
        refine st (lenD Tryd.underlying57 (isR rfl)) ?_
        refine st (lss rfl rfl) ?_
        refine en fun a w e' hf => ?_
        replace e := Ext.tr e e'
        clear e'
        refine tl_nil ?_
        rw [hls] at hf
        repeat refine seq ?_
        refine ifc hf rfl (fun hc => wskip ?_) (fun hc => wexit ?_)
        · have hlk : k < cS := by have := of_decide_eq_true hc; omega
          clear hc
          simp only [Exit.then, Exit.inBlock, ↓reduceIte]
          obtain ⟨y, hy, hyS⟩ := elems_get (S := S) (by rw [hcS]; exact hlk)
          have hyt := hin y hyS
          have gy := toL_get hy
          have hMl : card M ≤ 1024 := hcl
          have htk : (elems S).take (k + 1) = (elems S).take k ++ [y] := by rw [List.take_add_one, hy]; rfl
          repeat refine seq ?_
          refine blk ?_
          replace hf := hf.keep [0, 1, 5, 6, 7]
          dsimp only [keep, List.filterMap, look, Nat.beq, Option.map] at hf
          repeat refine seq ?_
          refine regn 7 hf (by decide +kernel) ?_
          refine st (mv rfl) ?_
          refine st (mv rfl) ?_
          refine st (mv rfl) ?_
          refine st (mv rfl) ?_
          refine st (idxD Tryd.underlying57 S3 (isR rfl) rfl (by omega) (gy)) ?_
          refine st (ldI T3 (isR rfl)) ?_
          refine st (call3 (A := E (B (besB (toT t) b y))) En129 rfl rfl rfl (fun v u s w he h h' h'' => by cases h'; cases h''; exact bes_spec (toT t) b y _ w h (by omega) (by omega) (by omega))) ?_
          refine en fun a w e' hf => ?_
          replace e := Ext.tr e e'
          clear e'
          refine tl_nil ?_
          repeat refine seq ?_
          refine ifc hf rfl (fun hb => ?_) (fun hb => ?_)
          · replace hf := hf.keep [0, 1, 5, 6, 7]
            dsimp only [keep, List.filterMap, look, Nat.beq, Option.map] at hf
            repeat refine seq ?_
            refine regn 3 hf (by decide +kernel) ?_
            refine st (mv rfl) ?_
            refine st (mv rfl) ?_
            refine st (call2 (A := Dv (slE intE) Go.Mono.G0 (toL (ins M (b : Int)))) En130 rfl rfl (fun v u w he h h' => by cases h'; rw [← toL_ins M (by omega)]; exact withL_spec _ _ _ w h (fun b hb => hb.elim) (by rw [toL_card]; omega))) ?_
            refine en fun a w e' hf => ?_
            replace e := Ext.tr e e'
            clear e'
            refine tl_as hf rfl (by decide) fun a hf => ?_
            refine tl_nil ?_
            try simp only [Exit.then, Exit.inBlock, ↓reduceIte]
            replace hf := hf.keep [0, 1, 5, 6, 7]
            dsimp only [keep, List.filterMap, look, Nat.beq, Option.map] at hf
            repeat refine seq ?_
            refine regn 2 hf (by decide +kernel) ?_
            refine st (mv rfl) ?_
            refine st ((add rfl rfl (by omega)).eq (congrArg (Value.int .i64) (show (k : Int) + 1 = ((k + 1 : Nat) : Int) from rfl))) ?_
            refine en fun a w e' hf => ?_
            replace e := Ext.tr e e'
            clear e'
            refine tl_as hf rfl (by decide) fun a hf => ?_
            refine tl_nil ?_
            replace hf := hf.keep [0, 1, 5, 6, 7]
            dsimp only [keep, List.filterMap, look, Nat.beq, Option.map] at hf
            refine ⟨cS - (k + 1), by omega, k + 1, _, rfl, by omega, fun i => ?_, hf, e⟩
            rw [bit_ins M (by omega), hM i, htk]
            constructor
            · rintro ((h | ⟨h1, x, h2, h3⟩) | h)
              · exact .inl h
              · exact .inr ⟨h1, x, by simp [h2], h3⟩
              · exact .inr ⟨h, y, by simp, hb⟩
            · rintro (h | ⟨h1, x, h2, h3⟩)
              · exact .inl (.inl h)
              · exact .inr h1
          · refine wskip ?_
            try simp only [Exit.then, Exit.inBlock, ↓reduceIte]
            replace hf := hf.keep [0, 1, 5, 6, 7]
            dsimp only [keep, List.filterMap, look, Nat.beq, Option.map] at hf
            repeat refine seq ?_
            refine regn 2 hf (by decide +kernel) ?_
            refine st (mv rfl) ?_
            refine st ((add rfl rfl (by omega)).eq (congrArg (Value.int .i64) (show (k : Int) + 1 = ((k + 1 : Nat) : Int) from rfl))) ?_
            refine en fun a w e' hf => ?_
            replace e := Ext.tr e e'
            clear e'
            refine tl_as hf rfl (by decide) fun a hf => ?_
            refine tl_nil ?_
            replace hf := hf.keep [0, 1, 5, 6, 7]
            dsimp only [keep, List.filterMap, look, Nat.beq, Option.map] at hf
            refine ⟨cS - (k + 1), by omega, k + 1, M, rfl, by omega, fun i => ?_, hf, e⟩
            rw [hM i, htk]
            constructor
            · rintro (h | ⟨h1, x, h2, h3⟩)
              · exact .inl h
              · exact .inr ⟨h1, x, by simp [h2], h3⟩
            · rintro (h | ⟨h1, x, h2, h3⟩)
              · exact .inl h
              · rcases List.mem_append.1 h2 with h4 | h4
                · exact .inr ⟨h1, x, h4, h3⟩
                · rw [List.mem_singleton] at h4
                  subst h4
                  rw [h3] at hb; cases hb
        · have hkc : k = cS := by have := of_decide_eq_false hc; omega
          clear hc
          simp only [Exit.then, Exit.inBlock, ↓reduceIte]
          have e1 : (elems S).take k = elems S := List.take_of_length_le (by rw [card_elems]; omega)
          rw [e1] at hM
          replace hf := hf.keep [0, 1, 5, 6]
          dsimp only [keep, List.filterMap, look, Nat.beq, Option.map] at hf
          refine ⟨trivial, M, fun i => ?_, hf, e⟩
          rw [hM i, hN i]
          constructor
          · rintro (⟨h1, h2⟩ | ⟨rfl, x, h2, h3⟩)
            · exact ⟨by omega, h2⟩
            · exact ⟨by omega, hSb, x, (mem_elems.1 h2).2, h3⟩
          · rintro ⟨h1, h2, x, h3, h4⟩
            by_cases hib : i = b
            · subst hib
              exact .inr ⟨rfl, x, mem_elems.2 ⟨bit_lt h3, h3⟩, h4⟩
            · exact .inl ⟨by omega, h2, x, h3, h4⟩
      clear hf e
      obtain ⟨N', hN', hf, e⟩ := hJ
      try simp only [Exit.then, Exit.inBlock, ↓reduceIte]
      repeat refine seq ?_
      refine regn 2 hf (by decide +kernel) ?_
      refine st (mv rfl) ?_
      refine st ((add rfl rfl (by omega)).eq (congrArg (Value.int .i64) (show (b : Int) + 1 = ((b + 1 : Nat) : Int) from rfl))) ?_
      refine en fun a w e' hf => ?_
      replace e := Ext.tr e e'
      clear e'
      refine tl_as hf rfl (by decide) fun a hf => ?_
      refine tl_nil ?_
      replace hf := hf.keep [0, 1, 5, 6]
      dsimp only [keep, List.filterMap, look, Nat.beq, Option.map] at hf
      exact ⟨t.length - (b + 1), by omega, b + 1, N', rfl, by omega, hN', hf, e⟩
  · have hbt : b = t.length := by have := of_decide_eq_false hc; omega
    clear hc
    simp only [Exit.then, Exit.inBlock, ↓reduceIte]
    rw [hbt] at hN
    rw [hfin N hN] at hf
    replace hf := hf.keep [5]
    dsimp only [keep, List.filterMap, look, Nat.beq, Option.map] at hf
    repeat refine seq ?_
    refine regn 1 hf (by decide +kernel) ?_
    refine st (mv rfl) ?_
    refine en fun a w e' hf => ?_
    replace e := Ext.tr e e'
    clear e'
    refine tl_as hf rfl (by decide) fun a hf => ?_
    refine tl_nil ?_
    refine wret ?_
    try simp only [Exit.then, Exit.inBlock]
    refine ret1 rfl hf rfl ?_
    intro v hv
    exact ⟨_, rfl, e, hv⟩
end Go.Mono
