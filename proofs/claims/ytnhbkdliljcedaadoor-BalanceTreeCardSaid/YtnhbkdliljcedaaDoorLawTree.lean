/-
  BalanceTree, walked: it answers true.
  No condition.
-/
import Derived.Test.YtnhbkdliljcedaaDoorLawBL
import Derived.Test.YtnhbkdliljcedaaDoorRef29g
set_option linter.unusedVariables false
set_option linter.unusedSimpArgs false
set_option linter.unusedVariables false
set_option linter.unusedSimpArgs false
namespace Go.Mono
open Go Go.Proofs Go.RowKit

theorem balR_spec {G : Nat → Prop} {t : List (Int × BS)} (hl : t.length ≤ 1000) (V : Vals (toT t)) (h0 : 0 < t.length) (v : Value) (W : World) (h : (Dv rtE G (toT t)).p v W) :
    Calls Tryd.prog 59 #[v] W (Post (Tup [Dv rtE Go.Mono.G0 ((parts0 t).map fun x => toB (bagOf (adjL t) t x)), Dv (slE intE) Go.Mono.G0 ((parts0 t).map (atOf (adjL t)))]) W) := by
  have hxl := toT_len t
  have F := fo_tree hl V
  obtain ⟨PA, hPc⟩ := Pt.all F h0
  have HT : (Dv rtE (fun b => W.heap.size ≤ b) (toT t)).p v W := Dv.weak h fun b hb hg => absurd hb (Nat.not_lt.2 hg)
  clear h
  obtain ⟨lt, hlt⟩ : ∃ n, (toT t).length = n := ⟨_, rfl⟩
  have hlt2 : lt = t.length := by omega
  refine enter (args := [v]) (As := [Dv rtE (GB W Go.Mono.G0) (toT t)]) Tryd.func59 rfl Tryd.ntmps59 (Nat.le_of_ble_eq_true rfl) ?_ (fun a hf => ?_) (Nat.le_of_ble_eq_true rfl)
  rotate_left
  dsimp only [params, Nat.reduceAdd] at hf
  rotate_right
  · exact arg1 (Dv.weak HT fun b _ hb => hb.elim (fun h => h.elim) id)
  clear HT
  have e := Ext.rfl' W
  have hG : ∀ b, Go.Mono.G0 b → b < W.heap.size := fun b hb => hb.elim
  repeat refine seq ?_
  refine regn0 ?_
  refine tl_as hf rfl (by decide) fun a hf => ?_
  refine tl_as hf rfl (by decide) fun a hf => ?_
  refine tl_nil ?_
  repeat refine seq ?_
  refine regn0 ?_
  refine tl_bsl0 W.heap.size Go.Mono.G0 intE Tryd.underlying57 S3 hf (by decide) e.size hG fun a v w e' hov Ho hf => ?_
  replace e := Ext.tr e e'
  clear e'
  refine tl_as hf rfl (by decide) fun a hf => ?_
  refine tl_nil ?_
  repeat refine seq ?_
  refine regn0 ?_
  refine tl_as hf rfl (by decide) fun a hf => ?_
  refine tl_nil ?_
  replace hf := hf.keep [0, 4, 5]
  dsimp only [keep, List.filterMap, look, Nat.beq, Option.map] at hf
  repeat refine seq ?_
  refine blk (loopN (fun r0 a w => ∃ (k : Nat) (u : Value), r0 = lt - k ∧ k ≤ lt ∧ Fr 22 a w [(0, Dv rtE (GB W Go.Mono.G0) (toT t)), (4, E u), (5, E (I k))] ∧ Ext W w ∧ OwR intE 3 W.heap.size Go.Mono.G0 w ((List.range k).map fun i : Nat => (i : Int)) u) lt ⟨0, _, rfl, by omega, hf, e, Ho⟩ ?_)
  clear hf e; try clear Ho
  rintro r0 a w ⟨k, u, rfl, hk, hf, e, Ho⟩
  repeat refine seq ?_
  refine regn 4 hf (by decide +kernel) ?_
  refine st (mv rfl) ?_
  refine st (mv rfl) ?_
  refine st ((lenD Tryd.underlying26 (isR rfl)).eq (congrArg (Value.int .i64) (congrArg (fun n : Nat => (n : Int)) hlt))) ?_
  refine st (lss rfl rfl) ?_
  refine en fun a w e' hf => ?_
  replace e := Ext.tr e e'
  replace Ho := Ho.ext e'
  clear e'
  refine tl_nil ?_
  repeat refine seq ?_
  refine ifc hf rfl (fun hc => wskip ?_) (fun hc => wexit ?_)
  rotate_left
  rotate_left
  · have hlt : k < lt := by have := of_decide_eq_true hc; (try dsimp only at this); omega
    clear hc
    replace hf := hf.keep [0, 4, 5]
    dsimp only [keep, List.filterMap, look, Nat.beq, Option.map] at hf
    repeat refine seq ?_
    refine blk ?_
    have hsel : ((List.range k).map fun i : Nat => (i : Int)).length = k := by simp
    repeat refine seq ?_
    refine regn 3 hf (by decide +kernel) ?_
    refine st (mv rfl) ?_
    refine st (mv rfl) ?_
    refine st (bsl1 Tryd.underlying57 I3 rfl (by decide) rfl Ho.avs (isI rfl)) ?_
    refine en fun a w e' hf => ?_
    replace e := Ext.tr e e'
    replace Ho := Ho.ext e'
    clear e'
    haveI hin : ∀ G0, InR (GB W G0) _ := OwR.inGB Ho (Nat.le_refl _)
    refine tl_app Tryd.underlying57 I3 rfl rfl hf (by decide) rfl Ho (isR rfl) (by simp only [List.length_singleton]; omega) (by simp only [List.length_singleton, maxLen]; omega) fun a v w hg hat Hn hf => ?_
    replace e := e.gro hg (Ho.row (Nat.le_refl _))
    replace Ho := Hn; clear Hn hg hat hin
    refine tl_as hf rfl (by decide) fun a hf => ?_
    refine tl_nil ?_
    try simp only [Exit.then, Exit.inBlock, ↓reduceIte]
    repeat refine seq ?_
    refine regn 2 hf (by decide +kernel) ?_
    refine st (mv rfl) ?_
    refine st ((add rfl rfl (by omega)).eq (congrArg (Value.int .i64) (show (k : Int) + 1 = ((k + 1 : Nat) : Int) from rfl))) ?_
    refine en fun a w e' hf => ?_
    replace e := Ext.tr e e'
    replace Ho := Ho.ext e'
    clear e'
    refine tl_as hf rfl (by decide) fun a hf => ?_
    refine tl_nil ?_
    replace hf := hf.keep [0, 4, 5]
    dsimp only [keep, List.filterMap, look, Nat.beq, Option.map] at hf
    refine ⟨_, ?_, k + 1, _, rfl, by omega, hf, e, ?_⟩
    · omega
    rw [List.range_succ, List.map_append]; exact Ho
  · obtain rfl : k = lt := by have := of_decide_eq_false hc; (try dsimp only at this); omega
    clear hc
    simp only [Exit.then, Exit.inBlock, ↓reduceIte]
    have hall := toL_below (n := t.length) (by omega)
    rw [hlt2, ← hall] at Ho
    obtain ⟨tv, HT, hf⟩ := hf.fix 0 rfl
    have HL : (Dv (slE intE) (OB (.slice none 0 0) (.slice none 0 0)) (toL (belowB t.length))).p u w := Dv.weak Ho.sl fun b _ hb => by rcases hb with hb | hb <;> simp [Value.ownBlock] at hb
    replace HT : (Dv rtE (fun b => W.heap.size ≤ b) (toT t)).p tv w := Dv.weak HT fun b _ hb => .inr hb
    clear Ho
    replace hf := hf.keep [0, 4]
    dsimp only [keep, List.filterMap, look, Nat.beq, Option.map] at hf
    repeat refine seq ?_
    refine regn 2 hf (by decide +kernel) ?_
    refine st (mv rfl) ?_
    refine st (mv rfl) ?_
    refine en fun a w e' hf => ?_
    replace HT := Dv.ex HT e'
    replace HL := Dv.ex HL e'
    replace e := Ext.tr e e'
    clear e'
    have v17 : a.eval (.tmp 17) = tv := hf.val 17 _ rfl
    have v18 : a.eval (.tmp 18) = u := hf.val 18 _ rfl
    have vc : a.eval (.const (I (-1))) = I (-1) := rfl
    have vn : a.eval (.const (.slice none 0 0)) = .slice none 0 0 := rfl
    have hWw : W.heap.size ≤ w.heap.size := e.size
    have St : RSt (adjL t) t W.heap.size [] (.slice none 0 0) (.slice none 0 0) w := ⟨OwX.nil rbE _ hWw, OwR.nil intE _ hWw (fun b hb => hb.elim)⟩
    refine tl_callE (S := OB (.slice none 0 0) (.slice none 0 0)) (F := fun v w' => ∃ ut' ua', v = .tuple #[ut', ua'] ∧ RSt (adjL t) t W.heap.size (parts0 t) ut' ua' w') hf (by decide) En121 ?_ fun a v w' hc hF hf => ?_
    · have := partR_spec hl V W.heap.size tv t.length (belowB t.length) (-1) [] u (.slice none 0 0) (.slice none 0 0) w PA hPc (by simp; omega) hWw HT HL St
      rw [show balL (adjL t) t.length (belowB t.length) (-1) [] = parts0 t from rfl] at this
      have h2 : Calls Tryd.prog 121 #[tv, u, I (-1), .slice none 0 0, .slice none 0 0] w (fun e w' => ∃ v, e = .returned v ∧ Chg (OB (.slice none 0 0) (.slice none 0 0)) w w' ∧ ∃ ut' ua', v = .tuple #[ut', ua'] ∧ RSt (adjL t) t W.heap.size (parts0 t) ut' ua' w') := Calls.mono this fun en w2 hh => by
        obtain ⟨v, h1, h2, ut', ua', h3, h4, _⟩ := hh
        exact ⟨v, h1, h2, ut', ua', h3, h4⟩
      simpa [v17, v18, vc, vn] using h2
    obtain ⟨ut', ua', rfl, St'⟩ := hF
    replace e := e.ch hc fun b hb => by rcases hb with hb | hb <;> simp [Value.ownBlock] at hb
    clear hc St v17 v18 vc vn HT HL hWw
    have H1 := St'.ht.sl0
    have H2 := St'.ha.sl
    clear St'
    generalize w' = w at *
    replace hf := hf.upd 19 rfl (B := Tup [Dv rtE Go.Mono.G0 ((parts0 t).map fun x => toB (bagOf (adjL t) t x)), Dv (slE intE) Go.Mono.G0 ((parts0 t).map (atOf (adjL t)))]) (fun v hv => by cases hv; exact Tup.two H1 H2)
    replace hf := hf.keep [19]
    dsimp only [keep, List.filterMap, look, Nat.beq, Option.map] at hf
    refine tl_op hf (by decide) (ext_ rfl rfl) fun a w e' hf => ?_
    replace e := Ext.tr e e'
    clear e'
    refine tl_op hf (by decide) (ext_ rfl rfl) fun a w e' hf => ?_
    replace e := Ext.tr e e'
    clear e'
    refine tl_as hf rfl (by decide) fun a hf => ?_
    refine tl_as hf rfl (by decide) fun a hf => ?_
    refine tl_nil ?_
    refine wret (ret2 rfl hf rfl rfl ?_)
    rintro _ _ h1 h2
    exact ⟨_, rfl, e, Tup.two h1 h2⟩

theorem law_tree {G : Nat → Prop} (t0 : List (Int × BS)) (v : Value) (W : World) (hT : Tab W) (h : (Dv treeE G t0).p v W) : Calls Tryd.prog 7 #[v] W (Post (E (B true)) W) := by
  have hT0 := hT.lt
  obtain ⟨t, ht⟩ : ∃ t, t0.take 40 = t := ⟨_, rfl⟩
  have hl : t.length ≤ 40 := by rw [← ht, List.length_take]; omega
  have hF := foT (t := t) (by omega)
  have hg0 : ∀ {w : World}, ∀ b, Go.Mono.G0 b → b < w.heap.size := fun b hb => hb.elim
  have hxl := toT_len t
  refine enter (args := [v]) (As := [Dv treeE Go.Mono.G0 t0]) Tryd.func7 rfl Tryd.ntmps7 (Nat.le_of_ble_eq_true rfl) ?_ (fun a hf => ?_) (Nat.le_of_ble_eq_true rfl)
  rotate_left
  dsimp only [params, Nat.reduceAdd] at hf
  rotate_right
  · exact arg1 (Dv.weak h fun b _ hb => hb.elim)
  have e := Ext.rfl' W
  repeat refine seq ?_
  refine regn0 ?_
  refine tl_as hf rfl (by decide) fun a hf => ?_
  refine tl_nil ?_
  repeat refine seq ?_
  refine regn 2 hf (by decide +kernel) ?_
  refine st (mv rfl) ?_
  refine st (call1 (A := Dv treeE Go.Mono.G0 t) En55 rfl (fun v w he h => by rw [← ht]; exact cut_spec t0 v w h)) ?_
  refine en fun a w e' hf => ?_
  replace hT := hT.ext e'
  replace e := Ext.tr e e'
  clear e'
  refine tl_as hf rfl (by decide) fun a hf => ?_
  refine tl_nil ?_
  replace hf := hf.keep [0]
  dsimp only [keep, List.filterMap, look, Nat.beq, Option.map] at hf
  repeat refine seq ?_
  refine regn 2 hf (by decide +kernel) ?_
  refine st (mv rfl) ?_
  refine st (call1 (A := Dv rtE Go.Mono.G0 (toT t)) En31 rfl (fun v w he h => toT_spec t v w h hg0 (by omega))) ?_
  refine en fun a w e' hf => ?_
  replace hT := hT.ext e'
  replace e := Ext.tr e e'
  clear e'
  refine tl_as hf rfl (by decide) fun a hf => ?_
  refine tl_nil ?_
  replace hf := hf.keep [0, 3]
  dsimp only [keep, List.filterMap, look, Nat.beq, Option.map] at hf
  repeat refine seq ?_
  refine regn 6 hf (by decide +kernel) ?_
  refine st (mv rfl) ?_
  refine st (call1 En56 rfl (fun v w he h => balance_spec t v w (hT.ext he) h (by omega) hF)) ?_
  refine st (mv rfl) ?_
  refine st (ext_ rfl rfl) ?_
  refine st (ext_ rfl rfl) ?_
  refine st (ext_ rfl rfl) ?_
  refine en fun a w e' hf => ?_
  replace hT := hT.ext e'
  replace e := Ext.tr e e'
  clear e'
  refine tl_as hf rfl (by decide) fun a hf => ?_
  refine tl_as hf rfl (by decide) fun a hf => ?_
  refine tl_as hf rfl (by decide) fun a hf => ?_
  refine tl_nil ?_
  replace hf := hf.keep [0, 3, 4, 5, 6]
  dsimp only [keep, List.filterMap, look, Nat.beq, Option.map] at hf
  repeat refine seq ?_
  refine regn 2 hf (by decide +kernel) ?_
  refine st (mv rfl) ?_
  refine st (call1 (A := E (I (chkR (toT t)))) En57 rfl (fun v w he h => right_spec (by omega) v w h)) ?_
  refine en fun a w e' hf => ?_
  replace hT := hT.ext e'
  replace e := Ext.tr e e'
  clear e'
  refine tl_as hf rfl (by decide) fun a hf => ?_
  refine tl_nil ?_
  replace hf := hf.keep [0, 3, 4, 5, 6, 7]
  dsimp only [keep, List.filterMap, look, Nat.beq, Option.map] at hf
  repeat refine seq ?_
  refine regn 2 hf (by decide +kernel) ?_
  refine st (mv rfl) ?_
  refine st (neq rfl rfl) ?_
  refine en fun a w e' hf => ?_
  replace hT := hT.ext e'
  replace e := Ext.tr e e'
  clear e'
  refine tl_nil ?_
  repeat refine seq ?_
  refine ifc hf rfl (fun hb => ?_) (fun hb => ?_)
  · have hb' : chkR (toT t) ≠ 0 := by simpa using hb
    have e1 : balT t = [] := if_neg hb'
    have e2 : balAt t = [] := if_neg hb'
    rw [e1, e2] at hf
    repeat refine seq ?_
    refine regn 16 hf (by decide +kernel) ?_
    refine st (call0 En58 (fun w he => known_spec w (hT.ext he))) ?_
    refine st (mv rfl) ?_
    first | refine sn rfl rfl rfl ?_ | refine su rfl rfl ?_ | refine sy rfl rfl (mv rfl) ?_
    first | refine sn rfl rfl rfl ?_ | refine su rfl rfl ?_ | refine sy rfl rfl (mv rfl) ?_
    first | refine sn rfl rfl rfl ?_ | refine su rfl rfl ?_ | refine sy rfl rfl ((eql rfl rfl).eq (congrArg Value.bool (beq_self_eq_true _))) ?_
    first | refine st (pkT rfl rfl) ?_ | refine st (pkF rfl rfl) ?_ | refine st (pk rfl rfl rfl) ?_
    refine st (mv rfl) ?_
    first | refine sn rfl rfl rfl ?_ | refine su rfl rfl ?_ | refine sy rfl rfl (mv rfl) ?_
    first | refine sn rfl rfl rfl ?_ | refine su rfl rfl ?_ | refine sy rfl rfl (lenD Tryd.underlying23 (isR rfl)) ?_
    first | refine sn rfl rfl rfl ?_ | refine su rfl rfl ?_ | refine sy rfl rfl ((eql rfl rfl).eq (congrArg Value.bool (show ((0 : Int) == 0) = true from rfl))) ?_
    first | refine st (pkT rfl rfl) ?_ | refine st (pkF rfl rfl) ?_ | refine st (pk rfl rfl rfl) ?_
    refine st (mv rfl) ?_
    first | refine sn rfl rfl rfl ?_ | refine su rfl rfl ?_ | refine sy rfl rfl (mv rfl) ?_
    first | refine sn rfl rfl rfl ?_ | refine su rfl rfl ?_ | refine sy rfl rfl (lenD Tryd.underlying43 (isR rfl)) ?_
    first | refine sn rfl rfl rfl ?_ | refine su rfl rfl ?_ | refine sy rfl rfl ((eql rfl rfl).eq (congrArg Value.bool (show ((0 : Int) == 0) = true from rfl))) ?_
    first | refine st (pkT rfl rfl) ?_ | refine st (pkF rfl rfl) ?_ | refine st (pk rfl rfl rfl) ?_
    refine en fun a w e' hf => ?_
    replace hT := hT.ext e'
    replace e := Ext.tr e e'
    clear e'
    refine tl_as hf rfl (by decide) fun a hf => ?_
    refine tl_nil ?_
    refine wret ?_
    try simp only [Exit.then, Exit.inBlock]
    refine ret1 rfl hf rfl ?_
    rintro _ rfl
    exact ⟨_, rfl, e, rfl⟩
  have h0 : chkR (toT t) = 0 := by simpa using hb
  clear hb
  obtain ⟨T, F⟩ := hF h0
  obtain ⟨hp, V⟩ := chkR_ok.1 h0
  rw [toT_len] at hp
  have hbl := balT_len F h0
  have e1 : toT (balT t) = (parts0 t).map fun x => toB (bagOf (adjL t) t x) := by rw [toT_map, balT, if_pos h0, List.map_map]; rfl
  have e2 : balAt t = (parts0 t).map (atOf (adjL t)) := if_pos h0
  rw [h0] at hf
  obtain ⟨o, ho⟩ : ∃ o, balT t = o := ⟨_, rfl⟩
  obtain ⟨at', hat⟩ : ∃ o, balAt t = o := ⟨_, rfl⟩
  rw [ho] at hf e1 hbl
  rw [hat] at hf e2
  have hal : at'.length = t.length := by rw [e2, List.length_map, (parts0_ok F hp).1]
  have hol : (toT o).length = o.length := toT_len o
  have hsl : ∀ b ∈ toT o, b.2.length ≤ 4096 := fun b hb => by
    rw [toT_map] at hb
    obtain ⟨x, _, hx⟩ := List.mem_map.1 hb
    rw [← hx]
    simp only [toB]
    exact Nat.le_trans (toL_len x.2) (by decide)
  have hslt : ∀ b ∈ toT t, b.2.length ≤ 4096 := fun b hb => by
    rw [toT_map] at hb
    obtain ⟨x, _, hx⟩ := List.mem_map.1 hb
    rw [← hx]
    simp only [toB]
    exact Nat.le_trans (toL_len x.2) (by decide)
  refine wskip ?_
  try simp only [Exit.then, Exit.inBlock, ↓reduceIte]
  repeat refine seq ?_
  refine regn 5 hf (by decide +kernel) ?_
  refine st (mv rfl) ?_
  refine st (call1 (A := Tup [Dv rtE Go.Mono.G0 (toT o), Dv (slE intE) Go.Mono.G0 at']) En59 rfl (fun v w he h => by rw [e1, e2]; exact balR_spec (by omega) V hp v w h)) ?_
  refine st (mv rfl) ?_
  refine st (ext_ rfl rfl) ?_
  refine st (ext_ rfl rfl) ?_
  refine en fun a w e' hf => ?_
  replace hT := hT.ext e'
  replace e := Ext.tr e e'
  clear e'
  refine tl_as hf rfl (by decide) fun a hf => ?_
  refine tl_as hf rfl (by decide) fun a hf => ?_
  refine tl_nil ?_
  replace hf := hf.keep [0, 3, 4, 5, 6, 8, 9]
  dsimp only [keep, List.filterMap, look, Nat.beq, Option.map] at hf
  repeat refine seq ?_
  refine regn 16 hf (by decide +kernel) ?_
  refine st (mv rfl) ?_
  refine st ((neq rfl rfl).eq (congrArg Value.bool (show ((0 : Int) != 0) = false from rfl))) ?_
  refine st (mv rfl) ?_
  first | refine sn rfl rfl rfl ?_ | refine su rfl rfl ?_ | refine sy rfl rfl (mv rfl) ?_
  first | refine sn rfl rfl rfl ?_ | refine su rfl rfl ?_ | refine sy rfl rfl (call1 (A := Dv rtE Go.Mono.G0 (toT o)) En31 rfl (fun v w he h => toT_spec o v w h hg0 (by omega))) ?_
  first | refine sn rfl rfl rfl ?_ | refine su rfl rfl ?_ | refine sy rfl rfl (mv rfl) ?_
  first | refine sn rfl rfl rfl ?_ | refine su rfl rfl ?_ | refine sy rfl rfl ((call2 En35 rfl rfl (fun v u w he h h' => sameT_spec (toT o) (toT o) v u w h h' (by omega) (by omega) hsl hsl)).eq (congrArg Value.bool (decide_eq_true ⟨rfl, fun i _ => ⟨rfl, cmpL_self _⟩⟩))) ?_
  first | refine sn rfl rfl rfl ?_ | refine su rfl rfl ?_ | refine sy rfl rfl (notp rfl) ?_
  first | refine st (pkT rfl rfl) ?_ | refine st (pkF rfl rfl) ?_ | refine st (pk rfl rfl rfl) ?_
  refine st (mv rfl) ?_
  first | refine sn rfl rfl rfl ?_ | refine su rfl rfl ?_ | refine sy rfl rfl (mv rfl) ?_
  first | refine sn rfl rfl rfl ?_ | refine su rfl rfl ?_ | refine sy rfl rfl (lenD Tryd.underlying43 (isR rfl)) ?_
  first | refine sn rfl rfl rfl ?_ | refine su rfl rfl ?_ | refine sy rfl rfl (mv rfl) ?_
  first | refine sn rfl rfl rfl ?_ | refine su rfl rfl ?_ | refine sy rfl rfl (lenD Tryd.underlying43 (isR rfl)) ?_
  first | refine sn rfl rfl rfl ?_ | refine su rfl rfl ?_ | refine sy rfl rfl ((neq rfl rfl).eq (congrArg Value.bool (bne_self_eq_false _))) ?_
  first | refine st (pkT rfl rfl) ?_ | refine st (pkF rfl rfl) ?_ | refine st (pk rfl rfl rfl) ?_
  refine en fun a w e' hf => ?_
  replace hT := hT.ext e'
  replace e := Ext.tr e e'
  clear e'
  refine tl_nil ?_
  repeat refine seq ?_
  refine ifc hf rfl (fun h => by cases h) (fun _ => ?_)
  refine wskip ?_
  try simp only [Exit.then, Exit.inBlock, ↓reduceIte]
  replace hf := hf.keep [0, 3, 5, 9]
  dsimp only [keep, List.filterMap, look, Nat.beq, Option.map] at hf
  repeat refine seq ?_
  refine regn0 ?_
  refine tl_as hf rfl (by decide) fun a hf => ?_
  refine tl_nil ?_
  replace hf := hf.keep [0, 3, 5, 9, 10]
  dsimp only [keep, List.filterMap, look, Nat.beq, Option.map] at hf
  repeat refine seq ?_
  refine blk (loopN (fun r0 a w => ∃ (k : Nat) , r0 = at'.length - k ∧ k ≤ at'.length ∧ Fr 84 a w [(0, Dv treeE Go.Mono.G0 t), (3, Dv rtE Go.Mono.G0 (toT t)), (5, Dv (slE intE) Go.Mono.G0 at'), (9, Dv (slE intE) Go.Mono.G0 at'), (10, E (I k))] ∧ Ext W w ∧ Tab w) at'.length ⟨0, rfl, by omega, hf, e, hT⟩ ?_)
  clear hf e; try clear hT
  rintro r0 a w ⟨k, rfl, hk, hf, e, hT⟩
  repeat refine seq ?_
  refine regn 4 hf (by decide +kernel) ?_
  refine st (mv rfl) ?_
  refine st (mv rfl) ?_
  refine st (lenD Tryd.underlying43 (isR rfl)) ?_
  refine st (lss rfl rfl) ?_
  refine en fun a w e' hf => ?_
  replace hT := hT.ext e'
  replace e := Ext.tr e e'
  clear e'
  refine tl_nil ?_
  repeat refine seq ?_
  refine ifc hf rfl (fun hc => wskip ?_) (fun hc => wexit ?_)
  rotate_left
  rotate_left
  · have hlt : k < at'.length := by have := of_decide_eq_true hc; (try dsimp only at this); omega
    clear hc
    replace hf := hf.keep [0, 3, 5, 9, 10]
    dsimp only [keep, List.filterMap, look, Nat.beq, Option.map] at hf
    repeat refine seq ?_
    refine blk ?_
    repeat refine seq ?_
    refine reg 9 Mix.mix hf (by decide +kernel) ?_
    refine st (mv rfl) ?_
    refine st (mv rfl) ?_
    refine st (idxD Tryd.underlying43 S3 (isR rfl) rfl (by omega) (gi_get hlt)) ?_
    refine st (ldI T3 (isR rfl)) ?_
    refine st (mv rfl) ?_
    refine st (mv rfl) ?_
    refine st (idxD Tryd.underlying43 S3 (isR rfl) rfl (by omega) (gi_get hlt)) ?_
    refine st (ldI T3 (isR rfl)) ?_
    refine st ((neq rfl rfl).eq (congrArg Value.bool (bne_self_eq_false _))) ?_
    refine en fun a w e' hf => ?_
    replace hT := hT.ext e'
    replace e := Ext.tr e e'
    clear e'
    refine tl_nil ?_
    repeat refine seq ?_
    refine ifc hf rfl (fun h => by cases h) (fun _ => ?_)
    refine wskip ?_
    try simp only [Exit.then, Exit.inBlock, ↓reduceIte]
    replace hf := hf.keep [0, 3, 5, 9, 10]
    dsimp only [keep, List.filterMap, look, Nat.beq, Option.map] at hf
    try simp only [Exit.then, Exit.inBlock, ↓reduceIte]
    repeat refine seq ?_
    refine regn 2 hf (by decide +kernel) ?_
    refine st (mv rfl) ?_
    refine st ((add rfl rfl (by omega)).eq (congrArg (Value.int .i64) (show (k : Int) + 1 = ((k + 1 : Nat) : Int) from rfl))) ?_
    refine en fun a w e' hf => ?_
    replace hT := hT.ext e'
    replace e := Ext.tr e e'
    clear e'
    refine tl_as hf rfl (by decide) fun a hf => ?_
    refine tl_nil ?_
    replace hf := hf.keep [0, 3, 5, 9, 10]
    dsimp only [keep, List.filterMap, look, Nat.beq, Option.map] at hf
    refine ⟨_, ?_, k + 1, rfl, by omega, hf, e, ?_⟩
    · omega
    exact hT
  · obtain rfl : k = at'.length := by have := of_decide_eq_false hc; (try dsimp only at this); omega
    clear hc
    simp only [Exit.then, Exit.inBlock, ↓reduceIte]
    replace hf := hf.keep [0, 3]
    dsimp only [keep, List.filterMap, look, Nat.beq, Option.map] at hf
    repeat refine seq ?_
    refine regn 7 hf (by decide +kernel) ?_
    refine st (call0 En58 (fun w he => known_spec w (hT.ext he))) ?_
    refine st (mv rfl) ?_
    first | refine sn rfl rfl rfl ?_ | refine su rfl rfl ?_ | refine sy rfl rfl (mv rfl) ?_
    first | refine sn rfl rfl rfl ?_ | refine su rfl rfl ?_ | refine sy rfl rfl (call1 (A := Dv rtE Go.Mono.G0 (toT t)) En31 rfl (fun v w he h => toT_spec t v w h hg0 (by omega))) ?_
    first | refine sn rfl rfl rfl ?_ | refine su rfl rfl ?_ | refine sy rfl rfl (mv rfl) ?_
    first | refine sn rfl rfl rfl ?_ | refine su rfl rfl ?_ | refine sy rfl rfl ((call2 En35 rfl rfl (fun v u w he h h' => sameT_spec (toT t) (toT t) v u w h h' (by omega) (by omega) hslt hslt)).eq (congrArg Value.bool (decide_eq_true ⟨rfl, fun i _ => ⟨rfl, cmpL_self _⟩⟩))) ?_
    first | refine st (pkT rfl rfl) ?_ | refine st (pkF rfl rfl) ?_ | refine st (pk rfl rfl rfl) ?_
    refine en fun a w e' hf => ?_
    replace hT := hT.ext e'
    replace e := Ext.tr e e'
    clear e'
    refine tl_as hf rfl (by decide) fun a hf => ?_
    refine tl_nil ?_
    refine wret ?_
    try simp only [Exit.then, Exit.inBlock]
    refine ret1 rfl hf rfl ?_
    rintro _ rfl
    exact ⟨_, rfl, e, rfl⟩
end Go.Mono
