/-
  The reference's path and splitter, walked.
  No condition.
-/
import Derived.Test.YtnhbkdliljcedaaDoorRef29d
import Derived.Test.YtnhbkdliljcedaaDoorBalC
set_option linter.unusedVariables false
set_option linter.unusedSimpArgs false
set_option linter.unusedVariables false
set_option linter.unusedSimpArgs false
namespace Go.Mono
open Go Go.Proofs Go.RowKit

theorem beside_spec {G : Nat → Prop} {t : List (Int × BS)} (hl : t.length ≤ 1000) (V : Vals (toT t)) (S : BS) (b : Nat) (v u : Value) (W : World) (h : (Dv rtE G (toT t)).p v W) (h' : (Dv (slE intE) G (toL S)).p u W) (hin : ∀ i, S.getLsbD i = true → i < t.length) (hC : (trOf (toT t) V).conn (bits S)) (hb : (outM (adjL t) S).getLsbD b = true) :
    Calls Tryd.prog 133 #[v, u, I (b : Nat)] W (Post (E (I (endB (adjL t) S b : Nat))) W) := by
  have F := fo_tree hl V
  have hTn : (trOf (toT t) V).n = t.length := toT_len t
  have hxl := toT_len t
  have hin' : ∀ i, S.getLsbD i = true → i < (trOf (toT t) V).n := fun i hi => by rw [hTn]; exact hin i hi
  obtain ⟨e1, e2, e3⟩ := end_ok F hin' hC hb
  have hbt : b < t.length := by have := ((out_bit F hin' b).1 hb).1; omega
  obtain ⟨cS, hcS⟩ : ∃ c, card S = c := ⟨_, rfl⟩
  have hls : (toL S).length = cS := (toL_card S).trans hcS
  have hbS : cS ≤ 1024 := by rw [← hcS]; exact card_le_n fun i hi => bit_lt hi
  generalize endB (adjL t) S b = en0 at *
  refine enter (args := [v, u, I (b : Nat)]) (As := [Dv rtE Go.Mono.G0 (toT t), Dv (slE intE) Go.Mono.G0 (toL S), E (I (b : Nat))]) Tryd.func133 rfl Tryd.ntmps133 (Nat.le_of_ble_eq_true rfl) ?_ (fun a hf => ?_) (Nat.le_of_ble_eq_true rfl)
  rotate_left
  dsimp only [params, Nat.reduceAdd] at hf
  rotate_right
  · exact arg3 (Dv.weak h fun b _ hb => hb.elim) (Dv.weak h' fun b _ hb => hb.elim) rfl
  have e := Ext.rfl' W
  repeat refine seq ?_
  refine regn0 ?_
  refine tl_as hf rfl (by decide) fun a hf => ?_
  refine tl_nil ?_
  repeat refine seq ?_
  refine regn0 ?_
  refine tl_as hf rfl (by decide) fun a hf => ?_
  refine tl_nil ?_
  replace hf := hf.keep [0, 1, 2, 7]
  dsimp only [keep, List.filterMap, look, Nat.beq, Option.map] at hf
  repeat refine seq ?_
  refine blk (loopN (fun r0 a w => ∃ k : Nat, r0 = cS - k ∧ k ≤ cS ∧ en0 ∉ (elems S).take k ∧ Fr 25 a w [(0, Dv rtE Go.Mono.G0 (toT t)), (1, Dv (slE intE) Go.Mono.G0 (toL S)), (2, E (I (b : Nat))), (7, E (I k))] ∧ Ext W w) cS ⟨0, rfl, by omega, by simp, hf, e⟩ ?_)
  clear hf e
  rintro r0 a w ⟨k, rfl, hk, hno, hf, e⟩
  repeat refine seq ?_
  refine regn 4 hf (by decide +kernel) ?_
  refine st (mv rfl) ?_
  refine st (mv rfl) ?_
  refine st (lenD Tryd.underlying57 (isR rfl)) ?_
  refine st (lss rfl rfl) ?_
  refine en fun a w e' hf => ?_
  replace e := Ext.tr e e'
  clear e'
  refine tl_nil ?_
  rw [hls] at hf
  repeat refine seq ?_
  refine ifc hf rfl (fun hc => wskip ?_) (fun hc => wexit ?_)
  · have hlt : k < cS := by have := of_decide_eq_true hc; omega
    clear hc
    simp only [Exit.then, Exit.inBlock, ↓reduceIte]
    obtain ⟨x, hx, hxS⟩ := elems_get (S := S) (by rw [hcS]; exact hlt)
    have gx := toL_get hx
    have htk := take_get hx
    have hxt := hin x hxS
    repeat refine seq ?_
    refine blk ?_
    replace hf := hf.keep [0, 1, 2, 7]
    dsimp only [keep, List.filterMap, look, Nat.beq, Option.map] at hf
    repeat refine seq ?_
    refine regn 7 hf (by decide +kernel) ?_
    refine st (mv rfl) ?_
    refine st (mv rfl) ?_
    refine st (mv rfl) ?_
    refine st (idxD Tryd.underlying57 S3 (isR rfl) rfl (by omega) (gx)) ?_
    refine st (ldI T3 (isR rfl)) ?_
    refine st (mv rfl) ?_
    refine st (call3 (A := E (B (besB (toT t) x b))) En129 rfl rfl rfl (fun v u s w he h h' h'' => by cases h'; cases h''; exact bes_spec (toT t) x b _ w h (by omega) (by omega) (by omega))) ?_
    refine en fun a w e' hf => ?_
    replace e := Ext.tr e e'
    clear e'
    refine tl_nil ?_
    repeat refine seq ?_
    refine ifc hf rfl (fun hb => ?_) (fun hb => ?_)
    · have hxe := e3 x hxS ((bes_adj V hxt hbt).1 hb)
      repeat refine seq ?_
      refine regn 4 hf (by decide +kernel) ?_
      refine st (mv rfl) ?_
      refine st (mv rfl) ?_
      refine st (idxD Tryd.underlying57 S3 (isR rfl) rfl (by omega) (gx)) ?_
      refine st (ldI T3 (isR rfl)) ?_
      refine en fun a w e' hf => ?_
      replace e := Ext.tr e e'
      clear e'
      refine tl_as hf rfl (by decide) fun a hf => ?_
      refine tl_nil ?_
      refine wret ?_
      try simp only [Exit.then, Exit.inBlock]
      refine ret1 rfl hf rfl ?_
      rintro _ rfl
      exact ⟨_, rfl, e, congrArg (fun n : Nat => I (n : Nat)) hxe⟩
    · refine wskip ?_
      try simp only [Exit.then, Exit.inBlock, ↓reduceIte]
      replace hf := hf.keep [0, 1, 2, 7]
      dsimp only [keep, List.filterMap, look, Nat.beq, Option.map] at hf
      repeat refine seq ?_
      refine regn 2 hf (by decide +kernel) ?_
      refine st (mv rfl) ?_
      refine st ((add rfl rfl (by omega)).eq (congrArg (Value.int .i64) (show (k : Int) + 1 = ((k + 1 : Nat) : Int) from rfl))) ?_
      refine en fun a w e' hf => ?_
      replace e := Ext.tr e e'
      clear e'
      refine tl_as hf rfl (by decide) fun a hf => ?_
      refine tl_nil ?_
      replace hf := hf.keep [0, 1, 2, 7]
      dsimp only [keep, List.filterMap, look, Nat.beq, Option.map] at hf
      refine ⟨cS - (k + 1), by omega, k + 1, rfl, by omega, fun hm => ?_, hf, e⟩
      rw [htk] at hm
      rcases List.mem_append.1 hm with h | h
      · exact hno h
      · rw [List.mem_singleton] at h
        subst h
        rw [(bes_adj V hxt hbt).2 e2] at hb; cases hb
  · have hkc : k = cS := by have := of_decide_eq_false hc; omega
    rw [hkc, List.take_of_length_le (by rw [card_elems]; omega)] at hno
    exact absurd (mem_elems.2 ⟨bit_lt e1, e1⟩) hno

theorem way_spec {t : List (Int × BS)} (hl : t.length ≤ 1000) (V : Vals (toT t)) : ∀ (m : Nat) (S : BS) (x y : Nat), card S ≤ m → (∀ i, S.getLsbD i = true → i < t.length) → (trOf (toT t) V).conn (bits S) → S.getLsbD x = true → S.getLsbD y = true →
    ∀ (G : Nat → Prop) (v u : Value) (W : World), (Dv rtE G (toT t)).p v W → (Dv (slE intE) G (toL S)).p u W →
    Calls Tryd.prog 132 #[v, u, I (x : Nat), I (y : Nat)] W (Post (Dv (slE intE) Go.Mono.G0 (toL (pathB (adjL t) S x y))) W) := by
  have F := fo_tree hl V
  have hTn : (trOf (toT t) V).n = t.length := toT_len t
  have hxl := toT_len t
  have hcl : ∀ {X : BS}, card X ≤ 1024 := fun {X} => card_le_n fun i hi => bit_lt hi
  intro m
  induction m with
  | zero => intro S x y hc _ _ hx; have := card_pos hx; omega
  | succ m ih =>
    intro S x y hcm hin hC hx hy G v u W h h'
    have hin' : ∀ i, S.getLsbD i = true → i < (trOf (toT t) V).n := fun i hi => by rw [hTn]; exact hin i hi
    refine enter (args := [v, u, I (x : Nat), I (y : Nat)]) (As := [Dv rtE Go.Mono.G0 (toT t), Dv (slE intE) Go.Mono.G0 (toL S), E (I (x : Nat)), E (I (y : Nat))]) Tryd.func132 rfl Tryd.ntmps132 (Nat.le_of_ble_eq_true rfl) ?_ (fun a hf => ?_) (Nat.le_of_ble_eq_true rfl)
    rotate_left
    dsimp only [params, Nat.reduceAdd] at hf
    rotate_right
    · exact argC (Dv.weak h fun b _ hb => hb.elim) (argC (Dv.weak h' fun b _ hb => hb.elim) (argC rfl (argC rfl argZ)))
    have e := Ext.rfl' W
    repeat refine seq ?_
    refine regn0 ?_
    refine tl_as hf rfl (by decide) fun a hf => ?_
    refine tl_nil ?_
    by_cases hxy : x = y
    · subst hxy
      have hps := path_self F hin' hC hx
      repeat refine seq ?_
      refine regn 3 hf (by decide +kernel) ?_
      refine st (mv rfl) ?_
      refine st (mv rfl) ?_
      refine st ((eql rfl rfl).eq (congrArg Value.bool (beq_self_eq_true _))) ?_
      refine en fun a w e' hf => ?_
      replace e := Ext.tr e e'
      clear e'
      refine tl_nil ?_
      repeat refine seq ?_
      refine ifc hf rfl (fun _ => ?_) (fun h => by cases h)
      repeat refine seq ?_
      refine regn 2 hf (by decide +kernel) ?_
      refine st (mv rfl) ?_
      refine st (bsl1 (e := intE) (G := Go.Mono.G0) Tryd.underlying57 I3 rfl (by decide) rfl (fun b hb => hb.elim) (isI rfl)) ?_
      refine en fun a w e' hf => ?_
      replace e := Ext.tr e e'
      clear e'
      refine tl_as hf rfl (by decide) fun a hf => ?_
      refine tl_nil ?_
      refine wret ?_
      try simp only [Exit.then, Exit.inBlock]
      refine ret1 rfl hf rfl ?_
      intro v hv
      exact ⟨_, rfl, e, by rw [hps, toL_one (bit_lt hx)]; exact hv⟩
    have hxt := hin x hx
    obtain ⟨ms, hms⟩ : ∃ ms, partsB (adjL t) (del S (x : Int)) = ms := ⟨_, rfl⟩
    have hsub : ∀ C ∈ ms, Sub (adjL t) (trOf (toT t) V) S x C := fun C hCm => parts_sub F hin' (by omega) (by rw [hms]; exact hCm)
    have hyd : (del S (x : Int)).getLsbD y = true := (bit_del S (bit_lt hx)).2 ⟨hy, Ne.symm hxy⟩
    obtain ⟨hp1, hp2, hp3, hp4⟩ := parts_some F (del_in hin' (x : Int))
    rw [hms] at hp1 hp2 hp3 hp4
    have hyC := hp4 y hyd
    have hyC2 := comp_self F (del_in hin' (x : Int)) hyd
    have hml : ms.length ≤ 1024 := by have : card (del S (x : Int)) ≤ 1024 := hcl; omega
    have hmll : (ms.map toL).length = ms.length := List.length_map ..
    obtain ⟨Z, hZ⟩ : ∃ Z, pathB (adjL t) S x y = Z := ⟨_, rfl⟩
    rw [hZ]
    repeat refine seq ?_
    refine regn 3 hf (by decide +kernel) ?_
    refine st (mv rfl) ?_
    refine st (mv rfl) ?_
    refine st ((eql rfl rfl).eq (congrArg Value.bool ((beq_eq_false_iff_ne.2 (by omega))))) ?_
    refine en fun a w e' hf => ?_
    replace e := Ext.tr e e'
    clear e'
    refine tl_nil ?_
    repeat refine seq ?_
    refine ifc hf rfl (fun h => by cases h) (fun _ => ?_)
    refine wskip ?_
    try simp only [Exit.then, Exit.inBlock, ↓reduceIte]
    replace hf := hf.keep [0, 1, 2, 3]
    dsimp only [keep, List.filterMap, look, Nat.beq, Option.map] at hf
    repeat refine seq ?_
    refine regn 4 hf (by decide +kernel) ?_
    refine st (mv rfl) ?_
    refine st (mv rfl) ?_
    refine st (mv rfl) ?_
    refine st (call3 (A := Dv (slE (slE intE)) Go.Mono.G0 (ms.map toL)) En87 rfl rfl rfl (fun v u s w he h h' h'' => by cases h''; rw [← hms]; exact splitR_spec hl V S (x : Int) _ _ w h h' (fun b hb => hb.elim) hin)) ?_
    refine en fun a w e' hf => ?_
    replace e := Ext.tr e e'
    clear e'
    refine tl_as hf rfl (by decide) fun a hf => ?_
    refine tl_nil ?_
    replace hf := hf.keep [0, 2, 3, 9]
    dsimp only [keep, List.filterMap, look, Nat.beq, Option.map] at hf
    repeat refine seq ?_
    refine regn0 ?_
    refine tl_as hf rfl (by decide) fun a hf => ?_
    refine tl_nil ?_
    replace hf := hf.keep [0, 2, 3, 9, 10]
    dsimp only [keep, List.filterMap, look, Nat.beq, Option.map] at hf
    repeat refine seq ?_
    refine blk (loopN (fun r0 a w => ∃ i : Nat, r0 = ms.length - i ∧ i ≤ ms.length ∧ (∀ D ∈ ms.take i, ¬D.getLsbD y = true) ∧ Fr 70 a w [(0, Dv rtE Go.Mono.G0 (toT t)), (2, E (I (x : Nat))), (3, E (I (y : Nat))), (9, Dv (slE (slE intE)) Go.Mono.G0 (ms.map toL)), (10, E (I i))] ∧ Ext W w) ms.length ⟨0, rfl, by omega, (fun D hD => by simp at hD), hf, e⟩ ?_)
    clear hf e
    rintro r0 a w ⟨i, rfl, hi, hno, hf, e⟩
    repeat refine seq ?_
    refine regn 4 hf (by decide +kernel) ?_
    refine st (mv rfl) ?_
    refine st (mv rfl) ?_
    refine st ((lenD Tryd.underlying95 (isR rfl)).eq (congrArg (Value.int .i64) (congrArg (fun n : Nat => (n : Int)) hmll))) ?_
    refine st (lss rfl rfl) ?_
    refine en fun a w e' hf => ?_
    replace e := Ext.tr e e'
    clear e'
    refine tl_nil ?_
    repeat refine seq ?_
    refine ifc hf rfl (fun hc => wskip ?_) (fun hc => wexit ?_)
    · have hlt : i < ms.length := by have := of_decide_eq_true hc; omega
      clear hc
      simp only [Exit.then, Exit.inBlock, ↓reduceIte]
      obtain ⟨C, hCi⟩ : ∃ C, ms[i]? = some C := ⟨_, List.getElem?_eq_getElem hlt⟩
      have gC : (ms.map toL)[i]? = some (toL C) := by rw [List.getElem?_map, hCi]; rfl
      have hCm := List.mem_of_getElem? hCi
      have hCS := hsub C hCm
      have htk := take_get hCi
      have hCl : (toL C).length ≤ 4096 := by rw [toL_card]; have : card C ≤ 1024 := hcl; omega
      obtain ⟨q, hq⟩ : ∃ q, hasL (toL C) (y : Int) = q := ⟨_, rfl⟩
      have hqb : q = true ↔ C.getLsbD y = true := by
        rw [← hq, hasL, decide_eq_true_eq, toL_mem']
        exact ⟨fun ⟨j, e, h⟩ => by have : y = j := by omega
                                   rw [this]; exact h, fun h => ⟨y, rfl, h⟩⟩
      repeat refine seq ?_
      refine blk ?_
      replace hf := hf.keep [0, 2, 3, 9, 10]
      dsimp only [keep, List.filterMap, look, Nat.beq, Option.map] at hf
      repeat refine seq ?_
      refine regn 7 hf (by decide +kernel) ?_
      refine st (mv rfl) ?_
      refine st (mv rfl) ?_
      refine st (idxD Tryd.underlying95 S57 (isR rfl) rfl (by omega) (gC)) ?_
      refine st (ldD (e := slE intE) T57 (isR rfl)) ?_
      refine st (mv rfl) ?_
      refine st (call2 (A := E (B q)) En84 rfl rfl (fun v u w he h h' => by cases h'; rw [← hq]; exact hasL_spec _ _ _ _ h hCl)) ?_
      refine st (notp rfl) ?_
      refine en fun a w e' hf => ?_
      replace e := Ext.tr e e'
      clear e'
      refine tl_nil ?_
      repeat refine seq ?_
      refine ifc hf rfl (fun hb => ?_) (fun hb => ?_)
      · have hnC : ¬C.getLsbD y = true := fun hh => by rw [hqb.2 hh] at hb; cases hb
        refine wexit ?_
        try simp only [Exit.then, Exit.inBlock, ↓reduceIte]
        replace hf := hf.keep [0, 2, 3, 9, 10]
        dsimp only [keep, List.filterMap, look, Nat.beq, Option.map] at hf
        repeat refine seq ?_
        refine regn 2 hf (by decide +kernel) ?_
        refine st (mv rfl) ?_
        refine st ((add rfl rfl (by omega)).eq (congrArg (Value.int .i64) (show (i : Int) + 1 = ((i + 1 : Nat) : Int) from rfl))) ?_
        refine en fun a w e' hf => ?_
        replace e := Ext.tr e e'
        clear e'
        refine tl_as hf rfl (by decide) fun a hf => ?_
        refine tl_nil ?_
        replace hf := hf.keep [0, 2, 3, 9, 10]
        dsimp only [keep, List.filterMap, look, Nat.beq, Option.map] at hf
        refine ⟨ms.length - (i + 1), by omega, i + 1, rfl, by omega, fun D hD => ?_, hf, e⟩
        rw [htk] at hD
        rcases List.mem_append.1 hD with h | h
        · exact hno D h
        · rw [List.mem_singleton] at h; subst h; exact hnC
      · have hyCi : C.getLsbD y = true := by
          refine hqb.1 ?_
          cases q
          · cases hb
          · rfl
        obtain ⟨k0, k1, k2⟩ := path_first F hin' hC hx hy hxy hCS hyCi
        have hCin : ∀ i, C.getLsbD i = true → i < t.length := fun j hj => hin j (hCS.sub j hj).1
        have hCc : card C ≤ m := by
          have : card C < card S := card_lt (fun j hj => (hCS.sub j hj).1) hx fun hh => (hCS.sub x hh).2 rfl
          omega
        obtain ⟨cC, hcC⟩ : ∃ c, card C = c := ⟨_, rfl⟩
        have hlC : (toL C).length = cC := (toL_card C).trans hcC
        have hbC : cC ≤ 1024 := by rw [← hcC]; exact hcl
        refine wskip ?_
        try simp only [Exit.then, Exit.inBlock, ↓reduceIte]
        repeat refine seq ?_
        refine regn0 ?_
        refine tl_as hf rfl (by decide) fun a hf => ?_
        refine tl_nil ?_
        replace hf := hf.keep [0, 2, 3, 9, 10, 11]
        dsimp only [keep, List.filterMap, look, Nat.beq, Option.map] at hf
        repeat refine seq ?_
        refine blk (loopN (fun r0 a w => ∃ k : Nat, r0 = cC - k ∧ k ≤ cC ∧ (∀ z ∈ (elems C).take k, besB (toT t) x z = false) ∧ Fr 70 a w [(0, Dv rtE Go.Mono.G0 (toT t)), (2, E (I (x : Nat))), (3, E (I (y : Nat))), (9, Dv (slE (slE intE)) Go.Mono.G0 (ms.map toL)), (10, E (I i)), (11, E (I k))] ∧ Ext W w) cC ⟨0, rfl, by omega, (fun D hD => by simp at hD), hf, e⟩ ?_)
        clear hf e
        rintro r0 a w ⟨k, rfl, hk, hnk, hf, e⟩
        repeat refine seq ?_
        refine regn 7 hf (by decide +kernel) ?_
        refine st (mv rfl) ?_
        refine st (mv rfl) ?_
        refine st (mv rfl) ?_
        refine st (idxD Tryd.underlying95 S57 (isR rfl) rfl (by omega) (gC)) ?_
        refine st (ldD (e := slE intE) T57 (isR rfl)) ?_
        refine st ((lenD Tryd.underlying57 (isR rfl)).eq (congrArg (Value.int .i64) (congrArg (fun n : Nat => (n : Int)) hlC))) ?_
        refine st (lss rfl rfl) ?_
        refine en fun a w e' hf => ?_
        replace e := Ext.tr e e'
        clear e'
        refine tl_nil ?_
        repeat refine seq ?_
        refine ifc hf rfl (fun hc => wskip ?_) (fun hc => wexit ?_)
        · have hlk : k < cC := by have := of_decide_eq_true hc; omega
          clear hc
          simp only [Exit.then, Exit.inBlock, ↓reduceIte]
          obtain ⟨z, hz, hzC⟩ := elems_get (S := C) (by rw [hcC]; exact hlk)
          have gz := toL_get hz
          have htz := take_get hz
          have hzt := hCin z hzC
          repeat refine seq ?_
          refine blk ?_
          replace hf := hf.keep [0, 2, 3, 9, 10, 11]
          dsimp only [keep, List.filterMap, look, Nat.beq, Option.map] at hf
          repeat refine seq ?_
          refine regn 10 hf (by decide +kernel) ?_
          refine st (mv rfl) ?_
          refine st (mv rfl) ?_
          refine st (mv rfl) ?_
          refine st (mv rfl) ?_
          refine st (idxD Tryd.underlying95 S57 (isR rfl) rfl (by omega) (gC)) ?_
          refine st (ldD (e := slE intE) T57 (isR rfl)) ?_
          refine st (mv rfl) ?_
          refine st (idxD Tryd.underlying57 S3 (isR rfl) rfl (by omega) (gz)) ?_
          refine st (ldI T3 (isR rfl)) ?_
          refine st (call3 (A := E (B (besB (toT t) x z))) En129 rfl rfl rfl (fun v u s w he h h' h'' => by cases h'; cases h''; exact bes_spec (toT t) x z _ w h (by omega) (by omega) (by omega))) ?_
          refine en fun a w e' hf => ?_
          replace e := Ext.tr e e'
          clear e'
          refine tl_nil ?_
          repeat refine seq ?_
          refine ifc hf rfl (fun hb => ?_) (fun hb => ?_)
          · have hadj := ((bes_adj V hxt hzt).1 hb).symm
            have hst := path_step F hin' hC hx hy hxy hCS hyCi hzC hadj
            rw [hZ] at hst
            obtain ⟨Y, hY⟩ : ∃ Y, pathB (adjL t) C z y = Y := ⟨_, rfl⟩
            rw [hY] at hst
            have hYl : (toL Y).length ≤ 4096 := by rw [toL_card]; have : card Y ≤ 1024 := hcl; omega
            replace hf := hf.keep [0, 2, 3, 9, 10, 11]
            dsimp only [keep, List.filterMap, look, Nat.beq, Option.map] at hf
            repeat refine seq ?_
            refine reg 17 Mix.mix hf (by decide +kernel) ?_
            refine st (mv rfl) ?_
            refine st (mv rfl) ?_
            refine st (mv rfl) ?_
            refine st (idxD Tryd.underlying95 S57 (isR rfl) rfl (by omega) (gC)) ?_
            refine st (ldD (e := slE intE) T57 (isR rfl)) ?_
            refine st (mv rfl) ?_
            refine st (mv rfl) ?_
            refine st (idxD Tryd.underlying95 S57 (isR rfl) rfl (by omega) (gC)) ?_
            refine st (ldD (e := slE intE) T57 (isR rfl)) ?_
            refine st (mv rfl) ?_
            refine st (idxD Tryd.underlying57 S3 (isR rfl) rfl (by omega) (gz)) ?_
            refine st (ldI T3 (isR rfl)) ?_
            refine st (mv rfl) ?_
            refine st (call4 (A := Dv (slE intE) Go.Mono.G0 (toL Y)) En132 rfl rfl rfl rfl (fun v u s q w he h h' h'' h3 => by cases h''; cases h3; rw [← hY]; exact ih C z y hCc hCin hCS.conn hzC hyCi _ _ _ w h h')) ?_
            refine st (mv rfl) ?_
            refine st (call2 (A := Dv (slE intE) Go.Mono.G0 (toL (ins Y (x : Int)))) En130 rfl rfl (fun v u w he h h' => by cases h'; rw [← toL_ins Y (bit_lt hx)]; exact withL_spec _ _ _ w h (fun b hb => hb.elim) hYl)) ?_
            refine st (asg rfl) ?_
            refine en fun a w e' hf => ?_
            replace e := Ext.tr e e'
            clear e'
            refine tl_nil ?_
            refine wret ?_
            try simp only [Exit.then, Exit.inBlock]
            refine ret1 rfl hf rfl ?_
            intro v hv
            exact ⟨_, rfl, e, by rw [hst]; exact hv⟩
          · refine wskip ?_
            try simp only [Exit.then, Exit.inBlock, ↓reduceIte]
            replace hf := hf.keep [0, 2, 3, 9, 10, 11]
            dsimp only [keep, List.filterMap, look, Nat.beq, Option.map] at hf
            repeat refine seq ?_
            refine regn 2 hf (by decide +kernel) ?_
            refine st (mv rfl) ?_
            refine st ((add rfl rfl (by omega)).eq (congrArg (Value.int .i64) (show (k : Int) + 1 = ((k + 1 : Nat) : Int) from rfl))) ?_
            refine en fun a w e' hf => ?_
            replace e := Ext.tr e e'
            clear e'
            refine tl_as hf rfl (by decide) fun a hf => ?_
            refine tl_nil ?_
            replace hf := hf.keep [0, 2, 3, 9, 10, 11]
            dsimp only [keep, List.filterMap, look, Nat.beq, Option.map] at hf
            refine ⟨cC - (k + 1), by omega, k + 1, rfl, by omega, fun z' hz' => ?_, hf, e⟩
            rw [htz] at hz'
            rcases List.mem_append.1 hz' with h | h
            · exact hnk z' h
            · rw [List.mem_singleton] at h; subst h; exact hb
        · have hkc : k = cC := by have := of_decide_eq_false hc; omega
          rw [hkc, List.take_of_length_le (by rw [card_elems]; omega)] at hnk
          have h9 := hnk k0 (mem_elems.2 ⟨bit_lt k1, k1⟩)
          rw [(bes_adj V hxt (hCin k0 k1)).2 k2.symm] at h9
          cases h9
    · have hic : i = ms.length := by have := of_decide_eq_false hc; omega
      rw [hic, List.take_length] at hno
      exact absurd hyC2 (hno _ hyC)
end Go.Mono
