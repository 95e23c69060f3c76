/-
  The reference's search for a component, its checks, walked.
  No condition.
-/
import Derived.Test.YtnhbkdliljcedaaDoorLawBL
import Derived.Test.YtnhbkdliljcedaaDoorBalA
set_option linter.unusedVariables false
set_option linter.unusedSimpArgs false
set_option linter.unusedVariables false
set_option linter.unusedSimpArgs false
namespace Go.Mono
open Go Go.Proofs Go.RowKit

theorem bes_spec {G : Nat → Prop} (xs : List RB) (x y : Nat) (v : Value) (W : World) (h : (Dv rtE G xs).p v W) (hx : x < xs.length) (hy : y < xs.length) (hl : xs.length ≤ 4096) :
    Calls Tryd.prog 129 #[v, I (x : Nat), I (y : Nat)] W (Post (E (B (besB xs x y))) W) := by
  refine enter (args := [v, I (x : Nat), I (y : Nat)]) (As := [Dv rtE G xs, E (I (x : Nat)), E (I (y : Nat))]) Tryd.func129 rfl Tryd.ntmps129 (Nat.le_of_ble_eq_true rfl) ?_ (fun a hf => ?_) (Nat.le_of_ble_eq_true rfl)
  rotate_left
  dsimp only [params, Nat.reduceAdd] at hf
  rotate_right
  · exact arg3 h rfl rfl
  have e := Ext.rfl' W
  have gx := up_get hx
  have gy := up_get hy
  obtain ⟨c, hc⟩ : ∃ c, besB xs x y = c := ⟨_, rfl⟩
  rw [hc]
  unfold besB at hc
  have q1 : (up xs x == ((y : Nat) : Int)) = decide (up xs x = ((y : Nat) : Int)) := by rw [Bool.eq_iff_iff, beq_iff_eq, decide_eq_true_eq]
  have q2 : (up xs y == ((x : Nat) : Int)) = decide (up xs y = ((x : Nat) : Int)) := by rw [Bool.eq_iff_iff, beq_iff_eq, decide_eq_true_eq]
  cases h1 : decide (up xs x = ((y : Nat) : Int))
  all_goals cases h2 : decide (up xs y = ((x : Nat) : Int))
  all_goals
    rw [h1] at q1
    rw [h2] at q2
    rw [h1, h2] at hc
    repeat refine seq ?_
    refine regn0 ?_
    refine tl_as hf rfl (by decide) fun a hf => ?_
    refine tl_nil ?_
    repeat refine seq ?_
    refine regn 16 hf (by decide +kernel) ?_
    refine st (mv rfl) ?_
    refine st (mv rfl) ?_
    refine st (idxD Tryd.underlying26 S60 (isR rfl) rfl (by omega) (gx)) ?_
    refine st (fldD Tryd.underlying60 rfl T3 (by decide) (Fld.fst Fld.refl) (isR rfl)) ?_
    refine st (ldI T3 (isR rfl)) ?_
    refine st (mv rfl) ?_
    refine st ((eql rfl rfl).eq (congrArg Value.bool (q1))) ?_
    refine st (mv rfl) ?_
    first | refine sn rfl rfl rfl ?_ | refine su rfl rfl ?_ | refine sy rfl rfl (mv rfl) ?_
    first | refine sn rfl rfl rfl ?_ | refine su rfl rfl ?_ | refine sy rfl rfl (mv rfl) ?_
    first | refine sn rfl rfl rfl ?_ | refine su rfl rfl ?_ | refine sy rfl rfl (idxD Tryd.underlying26 S60 (isR rfl) rfl (by omega) (gy)) ?_
    first | refine sn rfl rfl rfl ?_ | refine su rfl rfl ?_ | refine sy rfl rfl (fldD Tryd.underlying60 rfl T3 (by decide) (Fld.fst Fld.refl) (isR rfl)) ?_
    first | refine sn rfl rfl rfl ?_ | refine su rfl rfl ?_ | refine sy rfl rfl (ldI T3 (isR rfl)) ?_
    first | refine sn rfl rfl rfl ?_ | refine su rfl rfl ?_ | refine sy rfl rfl (mv rfl) ?_
    first | refine sn rfl rfl rfl ?_ | refine su rfl rfl ?_ | refine sy rfl rfl ((eql rfl rfl).eq (congrArg Value.bool (q2))) ?_
    first | refine st ((pkT rfl rfl).eq (show Value.bool _ = B c from by rw [← hc]; rfl)) ?_ | refine st ((pkF rfl rfl).eq (show Value.bool _ = B c from by rw [← hc]; rfl)) ?_ | refine st ((pk rfl rfl rfl).eq (show Value.bool _ = B c from by rw [← hc]; rfl)) ?_
    refine en fun a w e' hf => ?_
    replace e := Ext.tr e e'
    clear e'
    refine tl_as hf rfl (by decide) fun a hf => ?_
    refine tl_nil ?_
    refine wret ?_
    try simp only [Exit.then, Exit.inBlock]
    refine ret1 rfl hf rfl ?_
    rintro _ rfl
    exact ⟨_, rfl, e, rfl⟩

theorem come_spec {G G2 : Nat → Prop} {t : List (Int × BS)} (hl : t.length ≤ 1000) (V : Vals (toT t)) (S : BS) (p : Nat) (v u : Value) (W : World) (h : (Dv rtE G2 (toT t)).p v W) (h' : (Dv (slE intE) G2 (toL S)).p u W) (hG : ∀ b, G b → b < W.heap.size) (hin : ∀ i, S.getLsbD i = true → i < t.length) (hp : S.getLsbD p = true) :
    Calls Tryd.prog 128 #[v, u, I (p : Nat)] W (Post (Dv (slE intE) G (toL (compB (adjL t) S p))) W) := by
  have F := fo_tree hl V
  have hTn : (trOf (toT t) V).n = t.length := toT_len t
  have hin' : ∀ i, S.getLsbD i = true → i < (trOf (toT t) V).n := fun i hi => by rw [hTn]; exact hin i hi
  have hself := comp_self F hin' hp
  have hcS := comp_sub F hin' hp
  have hpl := bit_lt hp
  obtain ⟨C, hC⟩ : ∃ C, compB (adjL t) S p = C := ⟨_, rfl⟩
  rw [hC] at hself hcS
  rw [hC]
  have hcl : ∀ {X : BS}, card X ≤ 1024 := fun {X} => card_le_n fun i hi => bit_lt hi
  have hone : ∀ i, (ins 0 (p : Int)).getLsbD i = true ↔ i = p := fun i => by
    rw [bit_ins 0 hpl]; exact ⟨fun h => h.resolve_left (bit_zero i), .inr⟩
  refine enter (args := [v, u, I (p : Nat)]) (As := [Dv rtE Go.Mono.G0 (toT t), Dv (slE intE) Go.Mono.G0 (toL S), E (I (p : Nat))]) Tryd.func128 rfl Tryd.ntmps128 (Nat.le_of_ble_eq_true rfl) ?_ (fun a hf => ?_) (Nat.le_of_ble_eq_true rfl)
  rotate_left
  dsimp only [params, Nat.reduceAdd] at hf
  rotate_right
  · exact arg3 (Dv.weak h fun b _ hb => hb.elim) (Dv.weak h' fun b _ hb => hb.elim) rfl
  have e := Ext.rfl' W
  repeat refine seq ?_
  refine regn0 ?_
  refine tl_as hf rfl (by decide) fun a hf => ?_
  refine tl_nil ?_
  repeat refine seq ?_
  refine regn 2 hf (by decide +kernel) ?_
  refine st (mv rfl) ?_
  refine st (bsl1 (e := intE) (G := G) Tryd.underlying57 I3 rfl (by decide) rfl (fun b hb => Nat.lt_of_lt_of_le (hG b hb) e.size) (isI rfl)) ?_
  refine en fun a w e' hf => ?_
  replace e := Ext.tr e e'
  clear e'
  refine tl_as hf rfl (by decide) fun a hf => ?_
  refine tl_nil ?_
  rw [← toL_one hpl] at hf
  replace hf := hf.keep [0, 1, 7]
  dsimp only [keep, List.filterMap, look, Nat.beq, Option.map] at hf
  repeat refine seq ?_
  refine blk (loopN (fun r0 a w => ∃ O : BS, r0 + card O = 1024 ∧ O.getLsbD p = true ∧ (∀ i, O.getLsbD i = true → C.getLsbD i = true) ∧ Fr 49 a w [(0, Dv rtE Go.Mono.G0 (toT t)), (1, Dv (slE intE) Go.Mono.G0 (toL S)), (7, Dv (slE intE) G (toL O))] ∧ Ext W w) 1023 ⟨ins 0 (p : Int), by rw [card_one hone], (hone p).2 rfl, fun i hi => by rw [(hone i).1 hi]; exact hself, hf, e⟩ ?_)
  clear hf e
  rintro r0 a w ⟨O, hr0, hpO, hOC, hf, e⟩
  obtain ⟨n1, n2, n3⟩ := next_ok hl V hin hp hpO (fun i hi => by rw [hC]; exact hOC i hi)
  rw [hC] at n2 n3
  have hOS : ∀ i, O.getLsbD i = true → i < t.length := fun i hi => hin i (hcS i (hOC i hi))
  repeat refine seq ?_
  refine blk ?_
  repeat refine seq ?_
  refine regn 1 hf (by decide +kernel) ?_
  refine st (mv rfl) ?_
  refine en fun a w e' hf => ?_
  replace e := Ext.tr e e'
  clear e'
  refine tl_as hf rfl (by decide) fun a hf => ?_
  refine tl_nil ?_
  replace hf := hf.keep [0, 1, 7, 8]
  dsimp only [keep, List.filterMap, look, Nat.beq, Option.map] at hf
  obtain ⟨cO, hcO⟩ : ∃ c, card O = c := ⟨_, rfl⟩
  obtain ⟨cS, hcS2⟩ : ∃ c, card S = c := ⟨_, rfl⟩
  have hbO : cO ≤ 1024 := by rw [← hcO]; exact hcl
  have hbS : cS ≤ 1024 := by rw [← hcS2]; exact hcl
  -- the two loops
  repeat refine seq ?_
  repeat refine seq ?_
  refine regn0 ?_
  refine tl_as hf rfl (by decide) fun a hf => ?_
  refine tl_nil ?_
  replace hf := hf.keep [0, 1, 7, 8, 9]
  dsimp only [keep, List.filterMap, look, Nat.beq, Option.map] at hf
  repeat refine seq ?_
  refine cut (J := fun a w => Fr 49 a w [(0, Dv rtE Go.Mono.G0 (toT t)), (1, Dv (slE intE) Go.Mono.G0 (toL S)), (7, Dv (slE intE) G (toL O)), (8, Dv (slE intE) G (toL (nextN (toT t) S O)))] ∧ Ext W w) ?_ (fun a w hJ => ?_)
  · refine blk (loopN (fun r0 a w => ∃ i : Nat, r0 = cO - i ∧ i ≤ cO ∧ Fr 49 a w [(0, Dv rtE Go.Mono.G0 (toT t)), (1, Dv (slE intE) Go.Mono.G0 (toL S)), (7, Dv (slE intE) G (toL O)), (8, Dv (slE intE) G (toL (stepN (toT t) ((elems O).take i) (elems S) O))), (9, E (I i))] ∧ Ext W w) (cO) ⟨0, rfl, by omega, hf, e⟩ ?_)
    clear hf e
    rintro r0 a w ⟨i, rfl, hi, hf, e⟩
    repeat refine seq ?_
    refine regn 4 hf (by decide +kernel) ?_
    refine st (mv rfl) ?_
    refine st (mv rfl) ?_
    refine st ((lenD Tryd.underlying57 (isR rfl)).eq (congrArg (Value.int .i64) (congrArg (fun n : Nat => (n : Int)) ((toL_card O).trans hcO)))) ?_
    refine st (lss rfl rfl) ?_
    refine en fun a w e' hf => ?_
    replace e := Ext.tr e e'
    clear e'
    refine tl_nil ?_
    repeat refine seq ?_
    refine ifc hf rfl (fun hc => wskip ?_) (fun hc => wexit ?_)
    · have hlt : i < cO := by have := of_decide_eq_true hc; omega
      clear hc
      simp only [Exit.then, Exit.inBlock, ↓reduceIte]
      obtain ⟨x, hx, hxO⟩ := elems_get (S := O) (by rw [hcO]; exact hlt)
      have hxt := hOS x hxO
      have gx := toL_get hx
      have hst := stepN_succ (toT t) (elems S) hx O
      obtain ⟨N0, hN0⟩ : ∃ N0, stepN (toT t) ((elems O).take i) (elems S) O = N0 := ⟨_, rfl⟩
      rw [hN0] at hf hst
      repeat refine seq ?_
      refine blk ?_
      replace hf := hf.keep [0, 1, 7, 8, 9]
      dsimp only [keep, List.filterMap, look, Nat.beq, Option.map] at hf
      repeat refine seq ?_
      refine regn0 ?_
      refine tl_as hf rfl (by decide) fun a hf => ?_
      refine tl_nil ?_
      replace hf := hf.keep [0, 1, 7, 8, 9, 10]
      dsimp only [keep, List.filterMap, look, Nat.beq, Option.map] at hf
      repeat refine seq ?_
      refine cut (J := fun a w => Fr 49 a w [(0, Dv rtE Go.Mono.G0 (toT t)), (1, Dv (slE intE) Go.Mono.G0 (toL S)), (7, Dv (slE intE) G (toL O)), (8, Dv (slE intE) G (toL (rowN (toT t) x (elems S) N0))), (9, E (I i))] ∧ Ext W w) ?_ (fun a w hJ => ?_)
      · refine blk (loopN (fun r0 a w => ∃ k : Nat, r0 = cS - k ∧ k ≤ cS ∧ Fr 49 a w [(0, Dv rtE Go.Mono.G0 (toT t)), (1, Dv (slE intE) Go.Mono.G0 (toL S)), (7, Dv (slE intE) G (toL O)), (8, Dv (slE intE) G (toL (rowN (toT t) x ((elems S).take k) N0))), (9, E (I i)), (10, E (I k))] ∧ Ext W w) (cS) ⟨0, rfl, by omega, hf, e⟩ ?_)
        clear hf e
        rintro r0 a w ⟨k, rfl, hk, hf, e⟩
        repeat refine seq ?_
        refine regn 4 hf (by decide +kernel) ?_
        refine st (mv rfl) ?_
        refine st (mv rfl) ?_
        refine st ((lenD Tryd.underlying57 (isR rfl)).eq (congrArg (Value.int .i64) (congrArg (fun n : Nat => (n : Int)) ((toL_card S).trans hcS2)))) ?_
        refine st (lss rfl rfl) ?_
        refine en fun a w e' hf => ?_
        replace e := Ext.tr e e'
        clear e'
        refine tl_nil ?_
        repeat refine seq ?_
        refine ifc hf rfl (fun hc => wskip ?_) (fun hc => wexit ?_)
        · have hlk : k < cS := by have := of_decide_eq_true hc; omega
          clear hc
          simp only [Exit.then, Exit.inBlock, ↓reduceIte]
          obtain ⟨y, hy, hyS⟩ := elems_get (S := S) (by rw [hcS2]; exact hlk)
          have hyt := hin y hyS
          have hyl := bit_lt hyS
          have gy := toL_get hy
          have hrs := rowN_succ (toT t) x hy N0
          obtain ⟨N1, hN1⟩ : ∃ N1, rowN (toT t) x ((elems S).take k) N0 = N1 := ⟨_, rfl⟩
          rw [hN1] at hf hrs
          have hc1 : card N1 ≤ 1024 := hcl
          repeat refine seq ?_
          refine blk ?_
          replace hf := hf.keep [0, 1, 7, 8, 9, 10]
          dsimp only [keep, List.filterMap, look, Nat.beq, Option.map] at hf
          repeat refine seq ?_
          refine reg 10 Mix.mix hf (by decide +kernel) ?_
          refine st (mv rfl) ?_
          refine st (mv rfl) ?_
          refine st (mv rfl) ?_
          refine st (idxD Tryd.underlying57 S3 (isR rfl) rfl (by omega) (gx)) ?_
          refine st (ldI T3 (isR rfl)) ?_
          refine st (mv rfl) ?_
          refine st (mv rfl) ?_
          refine st (idxD Tryd.underlying57 S3 (isR rfl) rfl (by omega) (gy)) ?_
          refine st (ldI T3 (isR rfl)) ?_
          refine st (call3 (A := E (B (besB (toT t) x y))) En129 rfl rfl rfl (fun v u s w he h h' h'' => by cases h'; cases h''; exact bes_spec (toT t) x y _ w h (by rw [toT_len]; exact hxt) (by rw [toT_len]; exact hyt) (by rw [toT_len]; omega))) ?_
          refine en fun a w e' hf => ?_
          replace e := Ext.tr e e'
          clear e'
          refine tl_nil ?_
          repeat refine seq ?_
          refine ifc hf rfl (fun hb => ?_) (fun hb => ?_)
          · rw [if_pos hb] at hrs
            replace hf := hf.keep [0, 1, 7, 8, 9, 10]
            dsimp only [keep, List.filterMap, look, Nat.beq, Option.map] at hf
            repeat refine seq ?_
            refine regn 6 hf (by decide +kernel) ?_
            refine st (mv rfl) ?_
            refine st (mv rfl) ?_
            refine st (mv rfl) ?_
            refine st (idxD Tryd.underlying57 S3 (isR rfl) rfl (by omega) (gy)) ?_
            refine st (ldI T3 (isR rfl)) ?_
            refine st (call2 (A := Dv (slE intE) G (toL (ins N1 (y : Int)))) En130 rfl rfl (fun v u w he h h' => by cases h'; rw [← toL_ins N1 hyl]; exact withL_spec _ _ _ w h (fun b hb => Nat.lt_of_lt_of_le (hG b hb) (Nat.le_trans e.size he.size)) (by rw [toL_card]; omega))) ?_
            refine en fun a w e' hf => ?_
            replace e := Ext.tr e e'
            clear e'
            refine tl_as hf rfl (by decide) fun a hf => ?_
            refine tl_nil ?_
            rw [← hrs] at hf
            try simp only [Exit.then, Exit.inBlock, ↓reduceIte]
            replace hf := hf.keep [0, 1, 7, 8, 9, 10]
            dsimp only [keep, List.filterMap, look, Nat.beq, Option.map] at hf
            repeat refine seq ?_
            refine regn 2 hf (by decide +kernel) ?_
            refine st (mv rfl) ?_
            refine st ((add rfl rfl (by omega)).eq (congrArg (Value.int .i64) (show (k : Int) + 1 = ((k + 1 : Nat) : Int) from rfl))) ?_
            refine en fun a w e' hf => ?_
            replace e := Ext.tr e e'
            clear e'
            refine tl_as hf rfl (by decide) fun a hf => ?_
            refine tl_nil ?_
            replace hf := hf.keep [0, 1, 7, 8, 9, 10]
            dsimp only [keep, List.filterMap, look, Nat.beq, Option.map] at hf
            exact ⟨cS - (k + 1), by omega, k + 1, rfl, by omega, hf, e⟩
          · rw [if_neg (by rw [hb]; decide)] at hrs
            rw [← hrs] at hf
            refine wskip ?_
            try simp only [Exit.then, Exit.inBlock, ↓reduceIte]
            replace hf := hf.keep [0, 1, 7, 8, 9, 10]
            dsimp only [keep, List.filterMap, look, Nat.beq, Option.map] at hf
            repeat refine seq ?_
            refine regn 2 hf (by decide +kernel) ?_
            refine st (mv rfl) ?_
            refine st ((add rfl rfl (by omega)).eq (congrArg (Value.int .i64) (show (k : Int) + 1 = ((k + 1 : Nat) : Int) from rfl))) ?_
            refine en fun a w e' hf => ?_
            replace e := Ext.tr e e'
            clear e'
            refine tl_as hf rfl (by decide) fun a hf => ?_
            refine tl_nil ?_
            replace hf := hf.keep [0, 1, 7, 8, 9, 10]
            dsimp only [keep, List.filterMap, look, Nat.beq, Option.map] at hf
            exact ⟨cS - (k + 1), by omega, k + 1, rfl, by omega, hf, e⟩
        · have hkc : k = cS := by have := of_decide_eq_false hc; omega
          rw [hkc] at hf
          clear hc
          simp only [Exit.then, Exit.inBlock, ↓reduceIte]
          have e1 : (elems S).take (cS) = elems S := List.take_of_length_le (by rw [card_elems]; omega)
          rw [e1] at hf
          replace hf := hf.keep [0, 1, 7, 8, 9]
          dsimp only [keep, List.filterMap, look, Nat.beq, Option.map] at hf
          exact ⟨trivial, hf, e⟩
      clear hf e
      obtain ⟨hf, e⟩ := hJ
      try simp only [Exit.then, Exit.inBlock, ↓reduceIte]
      rw [← hst] at hf
      repeat refine seq ?_
      refine regn 2 hf (by decide +kernel) ?_
      refine st (mv rfl) ?_
      refine st ((add rfl rfl (by omega)).eq (congrArg (Value.int .i64) (show (i : Int) + 1 = ((i + 1 : Nat) : Int) from rfl))) ?_
      refine en fun a w e' hf => ?_
      replace e := Ext.tr e e'
      clear e'
      refine tl_as hf rfl (by decide) fun a hf => ?_
      refine tl_nil ?_
      replace hf := hf.keep [0, 1, 7, 8, 9]
      dsimp only [keep, List.filterMap, look, Nat.beq, Option.map] at hf
      exact ⟨cO - (i + 1), by omega, i + 1, rfl, by omega, hf, e⟩
    · have hic : i = cO := by have := of_decide_eq_false hc; omega
      rw [hic] at hf
      clear hc
      simp only [Exit.then, Exit.inBlock, ↓reduceIte]
      have e1 : (elems O).take (cO) = elems O := List.take_of_length_le (by rw [card_elems]; omega)
      rw [e1] at hf
      replace hf := hf.keep [0, 1, 7, 8]
      dsimp only [keep, List.filterMap, look, Nat.beq, Option.map] at hf
      exact ⟨trivial, hf, e⟩
  clear hf e
  obtain ⟨hf, e⟩ := hJ
  try simp only [Exit.then, Exit.inBlock, ↓reduceIte]
  generalize nextN (toT t) S O = N at *
  have hcN : card N ≤ 1024 := hcl
  have hcO : card O ≤ 1024 := hcl
  repeat refine seq ?_
  refine regn 5 hf (by decide +kernel) ?_
  refine st (mv rfl) ?_
  refine st ((lenD Tryd.underlying57 (isR rfl)).eq (congrArg (Value.int .i64) (congrArg (fun n : Nat => (n : Int)) (toL_card N)))) ?_
  refine st (mv rfl) ?_
  refine st ((lenD Tryd.underlying57 (isR rfl)).eq (congrArg (Value.int .i64) (congrArg (fun n : Nat => (n : Int)) (toL_card O)))) ?_
  refine st (eql rfl rfl) ?_
  refine en fun a w e' hf => ?_
  replace e := Ext.tr e e'
  clear e'
  refine tl_nil ?_
  repeat refine seq ?_
  refine ifc hf rfl (fun hb => ?_) (fun hb => ?_)
  · have hb' : card N = card O := by have h1 : ((card N : Nat) : Int) = (card O : Nat) := by simpa using hb
                                     omega
    have hOC2 := n3 hb'
    rw [hOC2] at hf
    replace hf := hf.keep [7]
    dsimp only [keep, List.filterMap, look, Nat.beq, Option.map] at hf
    repeat refine seq ?_
    refine regn 1 hf (by decide +kernel) ?_
    refine st (mv rfl) ?_
    refine en fun a w e' hf => ?_
    replace e := Ext.tr e e'
    clear e'
    refine tl_as hf rfl (by decide) fun a hf => ?_
    refine tl_nil ?_
    refine wret ?_
    try simp only [Exit.then, Exit.inBlock]
    refine ret1 rfl hf rfl ?_
    intro v hv
    exact ⟨_, rfl, e, hv⟩
  · have hb' : ¬card N = card O := by have h1 : ((card N : Nat) : Int) ≠ (card O : Nat) := by simpa using hb
                                      omega
    have := card_mono n1
    refine wskip ?_
    try simp only [Exit.then, Exit.inBlock, ↓reduceIte]
    replace hf := hf.keep [0, 1, 8]
    dsimp only [keep, List.filterMap, look, Nat.beq, Option.map] at hf
    repeat refine seq ?_
    refine regn 1 hf (by decide +kernel) ?_
    refine st (mv rfl) ?_
    refine en fun a w e' hf => ?_
    replace e := Ext.tr e e'
    clear e'
    refine tl_as hf rfl (by decide) fun a hf => ?_
    refine tl_nil ?_
    try simp only [Exit.then, Exit.inBlock, ↓reduceIte]
    replace hf := hf.keep [0, 1, 7]
    dsimp only [keep, List.filterMap, look, Nat.beq, Option.map] at hf
    exact ⟨1024 - card N, by omega, N, by omega, n1 p hpO, n2, hf, e⟩
end Go.Mono
