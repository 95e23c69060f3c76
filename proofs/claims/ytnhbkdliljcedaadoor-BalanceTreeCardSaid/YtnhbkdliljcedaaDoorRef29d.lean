/-
  The reference's centre; BalanceCentroid, walked: it answers true.
  No condition.
-/
import Derived.Test.YtnhbkdliljcedaaDoorRef29c
set_option linter.unusedVariables false
set_option linter.unusedSimpArgs false
set_option linter.unusedVariables false
set_option linter.unusedSimpArgs false
namespace Go.Mono
open Go Go.Proofs Go.RowKit

theorem take_get {α : Type} {l : List α} {k : Nat} {x : α} (h : l[k]? = some x) : l.take (k + 1) = l.take k ++ [x] := by rw [List.take_add_one, h]; rfl
theorem cenR_spec {G : Nat → Prop} {t : List (Int × BS)} (hl : t.length ≤ 1000) (V : Vals (toT t)) (S : BS) (v u : Value) (W : World) (h : (Dv rtE G (toT t)).p v W) (h' : (Dv (slE intE) G (toL S)).p u W) (hin : ∀ i, S.getLsbD i = true → i < t.length) :
    Calls Tryd.prog 71 #[v, u] W (Post (E (I (cenTo (adjL t) S (elems S)).1)) W) := by
  have F := fo_tree hl V
  have hTn : (trOf (toT t) V).n = t.length := toT_len t
  have hin' : ∀ i, S.getLsbD i = true → i < (trOf (toT t) V).n := fun i hi => by rw [hTn]; exact hin i hi
  have hcl : ∀ {X : BS}, card X ≤ 1024 := fun {X} => card_le_n fun i hi => bit_lt hi
  obtain ⟨cS, hcS⟩ : ∃ c, card S = c := ⟨_, rfl⟩
  have hls : (toL S).length = cS := (toL_card S).trans hcS
  have hbS : cS ≤ 1024 := by rw [← hcS]; exact hcl
  refine enter (args := [v, u]) (As := [Dv rtE Go.Mono.G0 (toT t), Dv (slE intE) Go.Mono.G0 (toL S)]) Tryd.func71 rfl Tryd.ntmps71 (Nat.le_of_ble_eq_true rfl) ?_ (fun a hf => ?_) (Nat.le_of_ble_eq_true rfl)
  rotate_left
  dsimp only [params, Nat.reduceAdd] at hf
  rotate_right
  · exact arg2 (Dv.weak h fun b _ hb => hb.elim) (Dv.weak h' fun b _ hb => hb.elim)
  have e := Ext.rfl' W
  repeat refine seq ?_
  refine regn0 ?_
  refine tl_as hf rfl (by decide) fun a hf => ?_
  refine tl_nil ?_
  repeat refine seq ?_
  refine regn0 ?_
  refine tl_as hf rfl (by decide) fun a hf => ?_
  refine tl_as hf rfl (by decide) fun a hf => ?_
  refine tl_nil ?_
  replace hf := hf.keep [0, 1, 5, 6]
  dsimp only [keep, List.filterMap, look, Nat.beq, Option.map] at hf
  repeat refine seq ?_
  refine regn0 ?_
  refine tl_as hf rfl (by decide) fun a hf => ?_
  refine tl_nil ?_
  replace hf := hf.keep [0, 1, 5, 6, 7]
  dsimp only [keep, List.filterMap, look, Nat.beq, Option.map] at hf
  repeat refine seq ?_
  refine blk (loopN (fun r0 a w => ∃ k : Nat, r0 = cS - k ∧ k ≤ cS ∧ Fr 50 a w [(0, Dv rtE Go.Mono.G0 (toT t)), (1, Dv (slE intE) Go.Mono.G0 (toL S)), (5, E (I (cenTo (adjL t) S ((elems S).take k)).1)), (6, E (I (cenTo (adjL t) S ((elems S).take k)).2)), (7, E (I k))] ∧ Ext W w) cS ⟨0, rfl, by omega, hf, e⟩ ?_)
  clear hf e
  rintro r0 a w ⟨k, rfl, hk, hf, e⟩
  repeat refine seq ?_
  refine regn 4 hf (by decide +kernel) ?_
  refine st (mv rfl) ?_
  refine st (mv rfl) ?_
  refine st (lenD Tryd.underlying57 (isR rfl)) ?_
  refine st (lss rfl rfl) ?_
  refine en fun a w e' hf => ?_
  replace e := Ext.tr e e'
  clear e'
  refine tl_nil ?_
  rw [hls] at hf
  repeat refine seq ?_
  refine ifc hf rfl (fun hc => wskip ?_) (fun hc => wexit ?_)
  · have hlt : k < cS := by have := of_decide_eq_true hc; omega
    clear hc
    simp only [Exit.then, Exit.inBlock, ↓reduceIte]
    obtain ⟨x, hx, hxS⟩ := elems_get (S := S) (by rw [hcS]; exact hlt)
    have gx := toL_get hx
    have htk := take_get hx
    obtain ⟨s, hs⟩ : ∃ s, (elems S).take k = s := ⟨_, rfl⟩
    rw [hs] at hf htk
    obtain ⟨ms, hms⟩ : ∃ ms, partsB (adjL t) (del S (x : Int)) = ms := ⟨_, rfl⟩
    have hmx : mostB (adjL t) S x = mTo ms ms.length := by rw [mostB, hms, mTo, List.take_length]
    have hml : ms.length ≤ 1024 := by
      have h1 := (parts_some F (del_in hin' (x : Int))).2.1
      rw [hms] at h1
      have : card (del S (x : Int)) ≤ 1024 := hcl
      omega
    have hMm := most_le F hin' x
    have hmll : (ms.map toL).length = ms.length := List.length_map ..
    repeat refine seq ?_
    refine blk ?_
    replace hf := hf.keep [0, 1, 5, 6, 7]
    dsimp only [keep, List.filterMap, look, Nat.beq, Option.map] at hf
    repeat refine seq ?_
    refine regn0 ?_
    refine tl_as hf rfl (by decide) fun a hf => ?_
    refine tl_nil ?_
    repeat refine seq ?_
    refine regn 7 hf (by decide +kernel) ?_
    refine st (mv rfl) ?_
    refine st (mv rfl) ?_
    refine st (mv rfl) ?_
    refine st (mv rfl) ?_
    refine st (idxD Tryd.underlying57 S3 (isR rfl) rfl (by omega) (gx)) ?_
    refine st (ldI T3 (isR rfl)) ?_
    refine st (call3 (A := Dv (slE (slE intE)) Go.Mono.G0 (ms.map toL)) En87 rfl rfl rfl (fun v u s w he h h' h'' => by cases h''; rw [← hms]; exact splitR_spec hl V S (x : Int) _ _ w h h' (fun b hb => hb.elim) hin)) ?_
    refine en fun a w e' hf => ?_
    replace e := Ext.tr e e'
    clear e'
    refine tl_as hf rfl (by decide) fun a hf => ?_
    refine tl_nil ?_
    repeat refine seq ?_
    refine regn0 ?_
    refine tl_as hf rfl (by decide) fun a hf => ?_
    refine tl_nil ?_
    replace hf := hf.keep [0, 1, 5, 6, 7, 8, 9, 10]
    dsimp only [keep, List.filterMap, look, Nat.beq, Option.map] at hf
    repeat refine seq ?_
    refine cut (J := fun a w => Fr 50 a w [(0, Dv rtE Go.Mono.G0 (toT t)), (1, Dv (slE intE) Go.Mono.G0 (toL S)), (5, E (I (cenTo (adjL t) S s).1)), (6, E (I (cenTo (adjL t) S s).2)), (7, E (I k)), (8, E (I (mostB (adjL t) S x : Nat)))] ∧ Ext W w) ?_ (fun a w hJ => ?_)
    · refine blk (loopN (fun r0 a w => ∃ j : Nat, r0 = ms.length - j ∧ j ≤ ms.length ∧ Fr 50 a w [(0, Dv rtE Go.Mono.G0 (toT t)), (1, Dv (slE intE) Go.Mono.G0 (toL S)), (5, E (I (cenTo (adjL t) S s).1)), (6, E (I (cenTo (adjL t) S s).2)), (7, E (I k)), (8, E (I (mTo ms j : Nat))), (9, Dv (slE (slE intE)) Go.Mono.G0 (ms.map toL)), (10, E (I j))] ∧ Ext W w) ms.length ⟨0, rfl, by omega, hf, e⟩ ?_)
      clear hf e
      rintro r0 a w ⟨j, rfl, hj, hf, e⟩
      repeat refine seq ?_
      refine regn 4 hf (by decide +kernel) ?_
      refine st (mv rfl) ?_
      refine st (mv rfl) ?_
      refine st ((lenD Tryd.underlying95 (isR rfl)).eq (congrArg (Value.int .i64) (congrArg (fun n : Nat => (n : Int)) hmll))) ?_
      refine st (lss rfl rfl) ?_
      refine en fun a w e' hf => ?_
      replace e := Ext.tr e e'
      clear e'
      refine tl_nil ?_
      repeat refine seq ?_
      refine ifc hf rfl (fun hc => wskip ?_) (fun hc => wexit ?_)
      · have hlj : j < ms.length := by have := of_decide_eq_true hc; omega
        clear hc
        simp only [Exit.then, Exit.inBlock, ↓reduceIte]
        obtain ⟨C, hC⟩ : ∃ C, ms[j]? = some C := ⟨_, List.getElem?_eq_getElem hlj⟩
        have gC : (ms.map toL)[j]? = some (toL C) := by rw [List.getElem?_map, hC]; rfl
        have hm1 := mTo_succ hC
        repeat refine seq ?_
        refine blk ?_
        replace hf := hf.keep [0, 1, 5, 6, 7, 8, 9, 10]
        dsimp only [keep, List.filterMap, look, Nat.beq, Option.map] at hf
        repeat refine seq ?_
        refine regn 7 hf (by decide +kernel) ?_
        refine st (mv rfl) ?_
        refine st (mv rfl) ?_
        refine st (mv rfl) ?_
        refine st (idxD Tryd.underlying95 S57 (isR rfl) rfl (by omega) (gC)) ?_
        refine st (ldD (e := slE intE) T57 (isR rfl)) ?_
        refine st ((lenD Tryd.underlying57 (isR rfl)).eq (congrArg (Value.int .i64) (congrArg (fun n : Nat => (n : Int)) (toL_card C)))) ?_
        refine st ((max2 rfl rfl).eq (congrArg (Value.int .i64) (show max ((mTo ms j : Nat) : Int) (card C : Nat) = ((mTo ms (j + 1) : Nat) : Int) from by rw [hm1]; omega))) ?_
        refine en fun a w e' hf => ?_
        replace e := Ext.tr e e'
        clear e'
        refine tl_as hf rfl (by decide) fun a hf => ?_
        refine tl_nil ?_
        try simp only [Exit.then, Exit.inBlock, ↓reduceIte]
        replace hf := hf.keep [0, 1, 5, 6, 7, 8, 9, 10]
        dsimp only [keep, List.filterMap, look, Nat.beq, Option.map] at hf
        repeat refine seq ?_
        refine regn 2 hf (by decide +kernel) ?_
        refine st (mv rfl) ?_
        refine st ((add rfl rfl (by omega)).eq (congrArg (Value.int .i64) (show (j : Int) + 1 = ((j + 1 : Nat) : Int) from rfl))) ?_
        refine en fun a w e' hf => ?_
        replace e := Ext.tr e e'
        clear e'
        refine tl_as hf rfl (by decide) fun a hf => ?_
        refine tl_nil ?_
        replace hf := hf.keep [0, 1, 5, 6, 7, 8, 9, 10]
        dsimp only [keep, List.filterMap, look, Nat.beq, Option.map] at hf
        exact ⟨ms.length - (j + 1), by omega, j + 1, rfl, by omega, hf, e⟩
      · have hjc : j = ms.length := by have := of_decide_eq_false hc; omega
        clear hc
        simp only [Exit.then, Exit.inBlock, ↓reduceIte]
        rw [hjc, ← hmx] at hf
        replace hf := hf.keep [0, 1, 5, 6, 7, 8]
        dsimp only [keep, List.filterMap, look, Nat.beq, Option.map] at hf
        exact ⟨trivial, hf, e⟩
    clear hf e
    obtain ⟨hf, e⟩ := hJ
    try simp only [Exit.then, Exit.inBlock, ↓reduceIte]
    have hst : ∀ c : Bool, c = decide ((cenTo (adjL t) S s).1 < 0 ∨ (mostB (adjL t) S x : Int) < (cenTo (adjL t) S s).2) → cenTo (adjL t) S (s ++ [x]) = if c = true then ((x : Int), (mostB (adjL t) S x : Int)) else cenTo (adjL t) S s := by
      intro c hc
      rw [cenTo_app, cenStep, hc]
      simp only [decide_eq_true_eq]
    obtain ⟨c, hcE⟩ : ∃ c, c = decide ((cenTo (adjL t) S s).1 < 0 ∨ (mostB (adjL t) S x : Int) < (cenTo (adjL t) S s).2) := ⟨_, rfl⟩
    replace hst := hst c hcE
    rw [← htk] at hst
    repeat refine seq ?_
    refine cut (J := fun a w => Fr 50 a w [(0, Dv rtE Go.Mono.G0 (toT t)), (1, Dv (slE intE) Go.Mono.G0 (toL S)), (5, E (I (cenTo (adjL t) S s).1)), (6, E (I (cenTo (adjL t) S s).2)), (7, E (I k)), (8, E (I (mostB (adjL t) S x : Nat))), (43, E (B c))] ∧ Ext W w ∧ True) ?_ (fun a w hJ => ?_)
    · cases h1 : decide ((cenTo (adjL t) S s).1 < 0)
      all_goals cases h2 : decide ((mostB (adjL t) S x : Int) < (cenTo (adjL t) S s).2)
      all_goals
        repeat refine seq ?_
        refine regn 7 hf (by decide +kernel) ?_
        refine st (mv rfl) ?_
        refine st ((lss rfl rfl).eq (congrArg Value.bool (h1))) ?_
        refine st (mv rfl) ?_
        first | refine sn rfl rfl rfl ?_ | refine su rfl rfl ?_ | refine sy rfl rfl (mv rfl) ?_
        first | refine sn rfl rfl rfl ?_ | refine su rfl rfl ?_ | refine sy rfl rfl (mv rfl) ?_
        first | refine sn rfl rfl rfl ?_ | refine su rfl rfl ?_ | refine sy rfl rfl ((lss rfl rfl).eq (congrArg Value.bool (h2))) ?_
        first | refine st ((pkT rfl rfl).eq (show Value.bool _ = B c from congrArg Value.bool (by rw [hcE, Bool.decide_or, h1, h2]; rfl))) ?_ | refine st ((pkF rfl rfl).eq (show Value.bool _ = B c from congrArg Value.bool (by rw [hcE, Bool.decide_or, h1, h2]; rfl))) ?_ | refine st ((pk rfl rfl rfl).eq (show Value.bool _ = B c from congrArg Value.bool (by rw [hcE, Bool.decide_or, h1, h2]; rfl))) ?_
        refine en fun a w e' hf => ?_
        replace e := Ext.tr e e'
        clear e'
        refine tl_nil ?_
        replace hf := hf.keep [0, 1, 5, 6, 7, 8, 43]
        dsimp only [keep, List.filterMap, look, Nat.beq, Option.map] at hf
        exact ⟨rfl, hf, e, trivial⟩
    clear hf e 
    obtain ⟨hf, e, _⟩ := hJ
    try simp only [Exit.then]
    repeat refine seq ?_
    refine ifc hf rfl (fun hb => ?_) (fun hb => ?_)
    · rw [hb, if_pos rfl] at hst
      repeat refine seq ?_
      refine regn 5 hf (by decide +kernel) ?_
      refine st (mv rfl) ?_
      refine st (mv rfl) ?_
      refine st (idxD Tryd.underlying57 S3 (isR rfl) rfl (by omega) (gx)) ?_
      refine st (ldI T3 (isR rfl)) ?_
      refine st (mv rfl) ?_
      refine en fun a w e' hf => ?_
      replace e := Ext.tr e e'
      clear e'
      refine tl_as hf rfl (by decide) fun a hf => ?_
      refine tl_as hf rfl (by decide) fun a hf => ?_
      refine tl_nil ?_
      rw [show (Value.int .i64 ((x : Nat) : Int)) = Value.int .i64 (cenTo (adjL t) S ((elems S).take (k + 1))).1 from by rw [hst], show (I (mostB (adjL t) S x : Nat)) = I (cenTo (adjL t) S ((elems S).take (k + 1))).2 from by rw [hst]] at hf
      try simp only [Exit.then, Exit.inBlock, ↓reduceIte]
      replace hf := hf.keep [0, 1, 5, 6, 7]
      dsimp only [keep, List.filterMap, look, Nat.beq, Option.map] at hf
      repeat refine seq ?_
      refine regn 2 hf (by decide +kernel) ?_
      refine st (mv rfl) ?_
      refine st ((add rfl rfl (by omega)).eq (congrArg (Value.int .i64) (show (k : Int) + 1 = ((k + 1 : Nat) : Int) from rfl))) ?_
      refine en fun a w e' hf => ?_
      replace e := Ext.tr e e'
      clear e'
      refine tl_as hf rfl (by decide) fun a hf => ?_
      refine tl_nil ?_
      replace hf := hf.keep [0, 1, 5, 6, 7]
      dsimp only [keep, List.filterMap, look, Nat.beq, Option.map] at hf
      exact ⟨cS - (k + 1), by omega, k + 1, rfl, by omega, hf, e⟩
    · rw [hb, if_neg (by decide)] at hst
      rw [← hst] at hf
      refine wskip ?_
      try simp only [Exit.then, Exit.inBlock, ↓reduceIte]
      replace hf := hf.keep [0, 1, 5, 6, 7]
      dsimp only [keep, List.filterMap, look, Nat.beq, Option.map] at hf
      repeat refine seq ?_
      refine regn 2 hf (by decide +kernel) ?_
      refine st (mv rfl) ?_
      refine st ((add rfl rfl (by omega)).eq (congrArg (Value.int .i64) (show (k : Int) + 1 = ((k + 1 : Nat) : Int) from rfl))) ?_
      refine en fun a w e' hf => ?_
      replace e := Ext.tr e e'
      clear e'
      refine tl_as hf rfl (by decide) fun a hf => ?_
      refine tl_nil ?_
      replace hf := hf.keep [0, 1, 5, 6, 7]
      dsimp only [keep, List.filterMap, look, Nat.beq, Option.map] at hf
      exact ⟨cS - (k + 1), by omega, k + 1, rfl, by omega, hf, e⟩
  · have hkc : k = cS := by have := of_decide_eq_false hc; omega
    clear hc
    simp only [Exit.then, Exit.inBlock, ↓reduceIte]
    have e1 : (elems S).take k = elems S := List.take_of_length_le (by rw [card_elems]; omega)
    rw [e1] at hf
    replace hf := hf.keep [5]
    dsimp only [keep, List.filterMap, look, Nat.beq, Option.map] at hf
    repeat refine seq ?_
    refine regn 1 hf (by decide +kernel) ?_
    refine st (mv rfl) ?_
    refine en fun a w e' hf => ?_
    replace e := Ext.tr e e'
    clear e'
    refine tl_as hf rfl (by decide) fun a hf => ?_
    refine tl_nil ?_
    refine wret ?_
    try simp only [Exit.then, Exit.inBlock]
    refine ret1 rfl hf rfl ?_
    rintro _ rfl
    exact ⟨_, rfl, e, rfl⟩
end Go.Mono
