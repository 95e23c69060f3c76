/-
  The reference's splitter, walked.
  No condition.
-/
import Derived.Test.YtnhbkdliljcedaaDoorRef29e
set_option linter.unusedVariables false
set_option linter.unusedSimpArgs false
set_option linter.unusedVariables false
set_option linter.unusedSimpArgs false
namespace Go.Mono
open Go Go.Proofs Go.RowKit

theorem splitterR_spec {G : Nat → Prop} {t : List (Int × BS)} (hl : t.length ≤ 1000) (V : Vals (toT t)) (S : BS) (v u : Value) (W : World) (h : (Dv rtE G (toT t)).p v W) (h' : (Dv (slE intE) G (toL S)).p u W) (hin : ∀ i, S.getLsbD i = true → i < t.length) (hC : (trOf (toT t) V).conn (bits S)) {p : Nat} (hp : S.getLsbD p = true) :
    Calls Tryd.prog 83 #[v, u] W (Post (E (I (splitter (adjL t) S : Nat))) W) := by
  have F := fo_tree hl V
  have hTn : (trOf (toT t) V).n = t.length := toT_len t
  have hxl := toT_len t
  have hin' : ∀ i, S.getLsbD i = true → i < (trOf (toT t) V).n := fun i hi => by rw [hTn]; exact hin i hi
  have hcl : ∀ {X : BS}, card X ≤ 1024 := fun {X} => card_le_n fun i hi => bit_lt hi
  have SP := spl_ok F hin' hC hp
  obtain ⟨hc, hcE, _⟩ := cen_ok (fs := adjL t) hp
  obtain ⟨s, hs⟩ : ∃ s, splitter (adjL t) S = s := ⟨_, rfl⟩
  change Spl (adjL t) (trOf (toT t) V) S (splitter (adjL t) S) at SP
  rw [hs] at SP ⊢
  obtain ⟨om, hom⟩ : ∃ om, outM (adjL t) S = om := ⟨_, rfl⟩
  obtain ⟨co, hco⟩ : ∃ c, card om = c := ⟨_, rfl⟩
  have hlo : (toL om).length = co := (toL_card om).trans hco
  have hbo : co ≤ 1024 := by rw [← hco]; exact hcl
  obtain ⟨c, hcc⟩ : ∃ c, cenB (adjL t) S = c := ⟨_, rfl⟩
  rw [hcc] at hc hcE
  obtain ⟨SQ1, SQ2, SQ3⟩ := SP
  rw [hom, hcc] at SQ2
  rw [hom] at SQ3
  rw [hcc] at SQ3
  refine enter (args := [v, u]) (As := [Dv rtE Go.Mono.G0 (toT t), Dv (slE intE) Go.Mono.G0 (toL S)]) Tryd.func83 rfl Tryd.ntmps83 (Nat.le_of_ble_eq_true rfl) ?_ (fun a hf => ?_) (Nat.le_of_ble_eq_true rfl)
  rotate_left
  dsimp only [params, Nat.reduceAdd] at hf
  rotate_right
  · exact arg2 (Dv.weak h fun b _ hb => hb.elim) (Dv.weak h' fun b _ hb => hb.elim)
  have e := Ext.rfl' W
  repeat refine seq ?_
  refine regn0 ?_
  refine tl_as hf rfl (by decide) fun a hf => ?_
  refine tl_nil ?_
  repeat refine seq ?_
  refine regn 3 hf (by decide +kernel) ?_
  refine st (mv rfl) ?_
  refine st (mv rfl) ?_
  refine st (call2 (A := E (I (c : Nat))) En71 rfl rfl (fun v u w he h h' => by have := cenR_spec hl V S _ _ w h h' hin; rwa [hcE] at this)) ?_
  refine en fun a w e' hf => ?_
  replace e := Ext.tr e e'
  clear e'
  refine tl_as hf rfl (by decide) fun a hf => ?_
  refine tl_nil ?_
  replace hf := hf.keep [0, 1, 5]
  dsimp only [keep, List.filterMap, look, Nat.beq, Option.map] at hf
  repeat refine seq ?_
  refine regn 3 hf (by decide +kernel) ?_
  refine st (mv rfl) ?_
  refine st (mv rfl) ?_
  refine st (call2 (A := Dv (slE intE) Go.Mono.G0 (toL om)) En70 rfl rfl (fun v u w he h h' => by rw [← hom]; exact outR_spec hl V S _ _ w h h' hin)) ?_
  refine en fun a w e' hf => ?_
  replace e := Ext.tr e e'
  clear e'
  refine tl_as hf rfl (by decide) fun a hf => ?_
  refine tl_nil ?_
  replace hf := hf.keep [0, 1, 5, 6]
  dsimp only [keep, List.filterMap, look, Nat.beq, Option.map] at hf
  repeat refine seq ?_
  refine regn 3 hf (by decide +kernel) ?_
  refine st (mv rfl) ?_
  refine st (lenD Tryd.underlying57 (isR rfl)) ?_
  refine st (lss rfl rfl) ?_
  refine en fun a w e' hf => ?_
  replace e := Ext.tr e e'
  clear e'
  refine tl_nil ?_
  rw [hlo] at hf
  repeat refine seq ?_
  refine ifc hf rfl (fun hb => ?_) (fun hb => ?_)
  · have h2 : co < 2 := by have := of_decide_eq_true hb; omega
    have h3 := SQ2 (by rw [hco]; exact h2)
    repeat refine seq ?_
    refine regn 1 hf (by decide +kernel) ?_
    refine st (mv rfl) ?_
    refine en fun a w e' hf => ?_
    replace e := Ext.tr e e'
    clear e'
    refine tl_as hf rfl (by decide) fun a hf => ?_
    refine tl_nil ?_
    refine wret ?_
    try simp only [Exit.then, Exit.inBlock]
    refine ret1 rfl hf rfl ?_
    rintro _ rfl
    exact ⟨_, rfl, e, congrArg (fun n : Nat => I (n : Nat)) h3.symm⟩
  have h2 : ¬co < 2 := by have := of_decide_eq_false hb; omega
  clear hb
  obtain ⟨o0, o1, ol, hoe, ho01, ho0, ho1⟩ := card_two (S := om) (by rw [hco]; exact h2)
  have g0 : (toL om)[0]? = some ((o0 : Nat) : Int) := toL_get (by rw [hoe]; rfl)
  have g1 : (toL om)[1]? = some ((o1 : Nat) : Int) := toL_get (by rw [hoe]; rfl)
  have ho0' : (outM (adjL t) S).getLsbD o0 = true := by rw [hom]; exact ho0
  have ho1' : (outM (adjL t) S).getLsbD o1 = true := by rw [hom]; exact ho1
  obtain ⟨m1, m2, m3⟩ := SQ3 hoe
  obtain ⟨a1, _, _⟩ := end_ok F hin' hC ho0'
  obtain ⟨b1, _, _⟩ := end_ok F hin' hC ho1'
  obtain ⟨e0, he0⟩ : ∃ e0, endB (adjL t) S o0 = e0 := ⟨_, rfl⟩
  obtain ⟨e1', he1⟩ : ∃ e1', endB (adjL t) S o1 = e1' := ⟨_, rfl⟩
  rw [he0] at m1 m2 a1
  rw [he1] at m1 m3 b1
  obtain ⟨Z, hZ⟩ : ∃ Z, pathB (adjL t) S e0 e1' = Z := ⟨_, rfl⟩
  have hZb : ∀ i, Z.getLsbD i = true ↔ (trOf (toT t) V).P i e0 e1' := fun i => by rw [← hZ]; exact (path_some F hin' hC a1 b1).2 i
  have hZS : ∀ i, Z.getLsbD i = true → S.getLsbD i = true := fun i hi => path_in F hin' hC a1 b1 (by rw [hZ]; exact hi)
  have hsZ := (hZb s).2 m1
  have hlt : ∀ n, Z.getLsbD n = true → n ≠ s → card (pathB (adjL t) S s c) < card (pathB (adjL t) S n c) := fun n hn hne => near_lt F hin' hC a1 b1 hc m1 m2 m3 ((hZb n).1 hn) hne
  obtain ⟨cZ, hcZ⟩ : ∃ c, card Z = c := ⟨_, rfl⟩
  have hlZ : (toL Z).length = cZ := (toL_card Z).trans hcZ
  have hbZ : cZ ≤ 1024 := by rw [← hcZ]; exact hcl
  have hpZ : 0 < cZ := by rw [← hcZ]; exact card_pos hsZ
  refine wskip ?_
  try simp only [Exit.then, Exit.inBlock, ↓reduceIte]
  replace hf := hf.keep [0, 1, 5, 6]
  dsimp only [keep, List.filterMap, look, Nat.beq, Option.map] at hf
  repeat refine seq ?_
  refine reg 16 Mix.mix hf (by decide +kernel) ?_
  refine st (mv rfl) ?_
  refine st (mv rfl) ?_
  refine st (mv rfl) ?_
  refine st (mv rfl) ?_
  refine st (mv rfl) ?_
  refine st (idxD Tryd.underlying57 S3 (isR rfl) rfl (by omega) (g0)) ?_
  refine st (ldI T3 (isR rfl)) ?_
  refine st (call3 (A := E (I (e0 : Nat))) En133 rfl rfl rfl (fun v u s w he h h' h'' => by cases h''; rw [← he0]; exact beside_spec hl V S o0 _ _ w h h' hin hC ho0')) ?_
  refine st (mv rfl) ?_
  refine st (mv rfl) ?_
  refine st (mv rfl) ?_
  refine st (idxD Tryd.underlying57 S3 (isR rfl) rfl (by omega) (g1)) ?_
  refine st (ldI T3 (isR rfl)) ?_
  refine st (call3 (A := E (I (e1' : Nat))) En133 rfl rfl rfl (fun v u s w he h h' h'' => by cases h''; rw [← he1]; exact beside_spec hl V S o1 _ _ w h h' hin hC ho1')) ?_
  refine st (call4 (A := Dv (slE intE) Go.Mono.G0 (toL Z)) En132 rfl rfl rfl rfl (fun v u s q w he h h' h'' h3 => by cases h''; cases h3; rw [← hZ]; exact way_spec hl V 1024 S e0 e1' hcl hin hC a1 b1 _ _ _ w h h')) ?_
  refine st (asg rfl) ?_
  refine en fun a w e' hf => ?_
  replace e := Ext.tr e e'
  clear e'
  refine tl_nil ?_
  obtain ⟨z0, hz0, hz0Z⟩ := elems_get (S := Z) (k := 0) (by rw [hcZ]; exact hpZ)
  have gz0 := toL_get hz0
  replace hf := hf.keep [0, 1, 5, 7]
  dsimp only [keep, List.filterMap, look, Nat.beq, Option.map] at hf
  repeat refine seq ?_
  refine regn 3 hf (by decide +kernel) ?_
  refine st (mv rfl) ?_
  refine st (idxD (j := 0) Tryd.underlying57 S3 (isR rfl) rfl rfl gz0) ?_
  refine st (ldI T3 (isR rfl)) ?_
  refine en fun a w e' hf => ?_
  replace e := Ext.tr e e'
  clear e'
  refine tl_as hf rfl (by decide) fun a hf => ?_
  refine tl_nil ?_
  repeat refine seq ?_
  refine regn0 ?_
  refine tl_as hf rfl (by decide) fun a hf => ?_
  refine tl_nil ?_
  replace hf := hf.keep [0, 1, 5, 7, 8, 9]
  dsimp only [keep, List.filterMap, look, Nat.beq, Option.map] at hf
  repeat refine seq ?_
  refine blk (loopN (fun r0 a w => ∃ (k b : Nat), r0 = cZ - k ∧ k ≤ cZ ∧ Z.getLsbD b = true ∧ (s ∈ (elems Z).take k → b = s) ∧ Fr 65 a w [(0, Dv rtE Go.Mono.G0 (toT t)), (1, Dv (slE intE) Go.Mono.G0 (toL S)), (5, E (I (c : Nat))), (7, Dv (slE intE) Go.Mono.G0 (toL Z)), (8, E (I (b : Nat))), (9, E (I k))] ∧ Ext W w) cZ ⟨0, z0, rfl, by omega, hz0Z, (fun hh => by simp at hh), hf, e⟩ ?_)
  clear hf e
  rintro r0 a w ⟨k, b, rfl, hk, hbZ2, hbs, hf, e⟩
  repeat refine seq ?_
  refine regn 4 hf (by decide +kernel) ?_
  refine st (mv rfl) ?_
  refine st (mv rfl) ?_
  refine st (lenD Tryd.underlying57 (isR rfl)) ?_
  refine st (lss rfl rfl) ?_
  refine en fun a w e' hf => ?_
  replace e := Ext.tr e e'
  clear e'
  refine tl_nil ?_
  rw [hlZ] at hf
  repeat refine seq ?_
  refine ifc hf rfl (fun hc => wskip ?_) (fun hc => wexit ?_)
  · have hlk : k < cZ := by have := of_decide_eq_true hc; omega
    clear hc
    simp only [Exit.then, Exit.inBlock, ↓reduceIte]
    obtain ⟨z, hz, hzZ⟩ := elems_get (S := Z) (by rw [hcZ]; exact hlk)
    have gz := toL_get hz
    have htz := take_get hz
    obtain ⟨X, hX⟩ : ∃ X, pathB (adjL t) S z c = X := ⟨_, rfl⟩
    obtain ⟨Y, hY⟩ : ∃ Y, pathB (adjL t) S b c = Y := ⟨_, rfl⟩
    obtain ⟨cX, hcX⟩ : ∃ c, card X = c := ⟨_, rfl⟩
    obtain ⟨cY, hcY⟩ : ∃ c, card Y = c := ⟨_, rfl⟩
    have hlX : (toL X).length = cX := (toL_card X).trans hcX
    have hlY : (toL Y).length = cY := (toL_card Y).trans hcY
    have hnx : z = s → b ≠ s → cX < cY := fun h1 h2 => by
      have := hlt b hbZ2 h2
      rw [← h1, hX, hY, hcX, hcY] at this
      exact this
    have hny : z ≠ s → b = s → ¬cX < cY := fun h1 h2 => by
      have := hlt z hzZ h1
      rw [← h2, hX, hY, hcX, hcY] at this
      omega
    repeat refine seq ?_
    refine blk ?_
    replace hf := hf.keep [0, 1, 5, 7, 8, 9]
    dsimp only [keep, List.filterMap, look, Nat.beq, Option.map] at hf
    repeat refine seq ?_
    refine regn 16 hf (by decide +kernel) ?_
    refine st (mv rfl) ?_
    refine st (mv rfl) ?_
    refine st (mv rfl) ?_
    refine st (mv rfl) ?_
    refine st (idxD Tryd.underlying57 S3 (isR rfl) rfl (by omega) (gz)) ?_
    refine st (ldI T3 (isR rfl)) ?_
    refine st (mv rfl) ?_
    refine st (call4 (A := Dv (slE intE) Go.Mono.G0 (toL X)) En132 rfl rfl rfl rfl (fun v u s q w he h h' h'' h3 => by cases h''; cases h3; rw [← hX]; exact way_spec hl V 1024 S z c hcl hin hC (hZS z hzZ) hc _ _ _ w h h')) ?_
    refine st ((lenD Tryd.underlying57 (isR rfl)).eq (congrArg (Value.int .i64) (congrArg (fun n : Nat => (n : Int)) hlX))) ?_
    refine st (mv rfl) ?_
    refine st (mv rfl) ?_
    refine st (mv rfl) ?_
    refine st (mv rfl) ?_
    refine st (call4 (A := Dv (slE intE) Go.Mono.G0 (toL Y)) En132 rfl rfl rfl rfl (fun v u s q w he h h' h'' h3 => by cases h''; cases h3; rw [← hY]; exact way_spec hl V 1024 S b c hcl hin hC (hZS b hbZ2) hc _ _ _ w h h')) ?_
    refine st ((lenD Tryd.underlying57 (isR rfl)).eq (congrArg (Value.int .i64) (congrArg (fun n : Nat => (n : Int)) hlY))) ?_
    refine st (lss rfl rfl) ?_
    refine en fun a w e' hf => ?_
    replace e := Ext.tr e e'
    clear e'
    refine tl_nil ?_
    repeat refine seq ?_
    refine ifc hf rfl (fun hb => ?_) (fun hb => ?_)
    · have hlt2 : cX < cY := by have := of_decide_eq_true hb; omega
      repeat refine seq ?_
      refine regn 4 hf (by decide +kernel) ?_
      refine st (mv rfl) ?_
      refine st (mv rfl) ?_
      refine st (idxD Tryd.underlying57 S3 (isR rfl) rfl (by omega) (gz)) ?_
      refine st (ldI T3 (isR rfl)) ?_
      refine en fun a w e' hf => ?_
      replace e := Ext.tr e e'
      clear e'
      refine tl_as hf rfl (by decide) fun a hf => ?_
      refine tl_nil ?_
      try simp only [Exit.then, Exit.inBlock, ↓reduceIte]
      replace hf := hf.keep [0, 1, 5, 7, 8, 9]
      dsimp only [keep, List.filterMap, look, Nat.beq, Option.map] at hf
      repeat refine seq ?_
      refine regn 2 hf (by decide +kernel) ?_
      refine st (mv rfl) ?_
      refine st ((add rfl rfl (by omega)).eq (congrArg (Value.int .i64) (show (k : Int) + 1 = ((k + 1 : Nat) : Int) from rfl))) ?_
      refine en fun a w e' hf => ?_
      replace e := Ext.tr e e'
      clear e'
      refine tl_as hf rfl (by decide) fun a hf => ?_
      refine tl_nil ?_
      replace hf := hf.keep [0, 1, 5, 7, 8, 9]
      dsimp only [keep, List.filterMap, look, Nat.beq, Option.map] at hf
      refine ⟨cZ - (k + 1), by omega, k + 1, z, rfl, by omega, hzZ, fun hm => ?_, hf, e⟩
      apply Classical.byContradiction
      intro hzs
      rw [htz] at hm
      rcases List.mem_append.1 hm with h | h
      · exact hny hzs (hbs h) hlt2
      · rw [List.mem_singleton] at h; exact hzs h.symm
    · have hlt2 : ¬cX < cY := by have := of_decide_eq_false hb; omega
      refine wskip ?_
      try simp only [Exit.then, Exit.inBlock, ↓reduceIte]
      replace hf := hf.keep [0, 1, 5, 7, 8, 9]
      dsimp only [keep, List.filterMap, look, Nat.beq, Option.map] at hf
      repeat refine seq ?_
      refine regn 2 hf (by decide +kernel) ?_
      refine st (mv rfl) ?_
      refine st ((add rfl rfl (by omega)).eq (congrArg (Value.int .i64) (show (k : Int) + 1 = ((k + 1 : Nat) : Int) from rfl))) ?_
      refine en fun a w e' hf => ?_
      replace e := Ext.tr e e'
      clear e'
      refine tl_as hf rfl (by decide) fun a hf => ?_
      refine tl_nil ?_
      replace hf := hf.keep [0, 1, 5, 7, 8, 9]
      dsimp only [keep, List.filterMap, look, Nat.beq, Option.map] at hf
      refine ⟨cZ - (k + 1), by omega, k + 1, b, rfl, by omega, hbZ2, fun hm => ?_, hf, e⟩
      apply Classical.byContradiction
      intro hbs2
      rw [htz] at hm
      rcases List.mem_append.1 hm with h | h
      · exact hbs2 (hbs h)
      · rw [List.mem_singleton] at h; exact hlt2 (hnx h.symm hbs2)
  · have hkc : k = cZ := by have := of_decide_eq_false hc; omega
    clear hc
    simp only [Exit.then, Exit.inBlock, ↓reduceIte]
    rw [hkc, List.take_of_length_le (by rw [card_elems]; omega)] at hbs
    have hb2 := hbs (mem_elems.2 ⟨bit_lt hsZ, hsZ⟩)
    replace hf := hf.keep [8]
    dsimp only [keep, List.filterMap, look, Nat.beq, Option.map] at hf
    repeat refine seq ?_
    refine regn 1 hf (by decide +kernel) ?_
    refine st (mv rfl) ?_
    refine en fun a w e' hf => ?_
    replace e := Ext.tr e e'
    clear e'
    refine tl_as hf rfl (by decide) fun a hf => ?_
    refine tl_nil ?_
    refine wret ?_
    try simp only [Exit.then, Exit.inBlock]
    refine ret1 rfl hf rfl ?_
    rintro _ rfl
    exact ⟨_, rfl, e, congrArg (fun n : Nat => I (n : Nat)) hb2⟩
end Go.Mono
