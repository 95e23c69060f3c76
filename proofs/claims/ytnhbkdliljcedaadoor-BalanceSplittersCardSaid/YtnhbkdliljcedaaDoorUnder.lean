/-
  BalanceSplitters, walked: it answers true.
  No condition.
-/
import Derived.Test.YtnhbkdliljcedaaDoorLawBL
import Derived.Test.YtnhbkdliljcedaaDoorBal9
set_option linter.unusedVariables false
set_option linter.unusedSimpArgs false
set_option linter.unusedVariables false
set_option linter.unusedSimpArgs false
namespace Go.Mono
open Go Go.Proofs Go.RowKit

theorem under_spec {G : Nat → Prop} (o : List (Int × BS)) (k0 i : Nat) (v : Value) (W : World) (h : (Dv treeE G o).p v W) (hl : o.length ≤ 4096) (D : Dec o) (hk0 : k0 < o.length) :
    Calls Tryd.prog 75 #[v, I (k0 : Nat), I (i : Nat)] W (Post (E (B (und o (k0 + 1) k0 i))) W) := by
  refine enter (args := [v, I (k0 : Nat), I (i : Nat)]) (As := [Dv treeE G o, E (I (k0 : Nat)), E (I (i : Nat))]) Tryd.func75 rfl Tryd.ntmps75 (Nat.le_of_ble_eq_true rfl) ?_ (fun a hf => ?_) (Nat.le_of_ble_eq_true rfl)
  rotate_left
  dsimp only [params, Nat.reduceAdd] at hf
  rotate_right
  · exact arg3 h rfl rfl
  have e := Ext.rfl' W
  generalize hres : und o (k0 + 1) k0 i = res
  repeat refine seq ?_
  refine regn0 ?_
  refine tl_as hf rfl (by decide) fun a hf => ?_
  refine tl_nil ?_
  repeat refine seq ?_
  refine regn0 ?_
  refine tl_as hf rfl (by decide) fun a hf => ?_
  refine tl_nil ?_
  replace hf := hf.keep [0, 1, 2, 7]
  dsimp only [keep, List.filterMap, look, Nat.beq, Option.map] at hf
  repeat refine seq ?_
  refine blk (loopN (fun r0 a w => ∃ (c : Int) (n : Nat), r0 = (c + 1).toNat ∧ -1 ≤ c ∧ c + n ≤ k0 ∧ n ≤ k0 + 1 ∧ (0 ≤ c → und o (c.toNat + 1) c.toNat i = res) ∧ (c < 0 → res = false) ∧ Fr 32 a w [(0, Dv treeE G o), (1, E (I c)), (2, E (I (i : Nat))), (7, E (I (n : Nat)))] ∧ Ext W w) (k0 + 1) ⟨(k0 : Int), 0, by omega, by omega, by omega, by omega, fun _ => by rw [Int.toNat_natCast]; exact hres, fun h => by omega, hf, e⟩ ?_)
  clear hf e hres
  rintro r0 a w ⟨c, n, rfl, hc1, hcn, hn, hr1, hr2, hf, e⟩
  by_cases hc : 0 ≤ c
  · obtain ⟨q, rfl⟩ : ∃ q : Nat, c = (q : Int) := ⟨c.toNat, by omega⟩
    have hq : q < o.length := by omega
    obtain ⟨d1, d2⟩ := D q hq
    have hr := hr1 hc
    rw [Int.toNat_natCast, und] at hr
    repeat refine seq ?_
    refine regn 14 hf (by decide +kernel) ?_
    refine st (mv rfl) ?_
    refine st ((geq rfl rfl).eq (congrArg Value.bool (decide_eq_true hc))) ?_
    refine st (mv rfl) ?_
    first | refine sn rfl rfl rfl ?_ | refine su rfl rfl ?_ | refine sy rfl rfl (mv rfl) ?_
    first | refine sn rfl rfl rfl ?_ | refine su rfl rfl ?_ | refine sy rfl rfl (mv rfl) ?_
    first | refine sn rfl rfl rfl ?_ | refine su rfl rfl ?_ | refine sy rfl rfl (lenD Tryd.underlying23 (isR rfl)) ?_
    first | refine sn rfl rfl rfl ?_ | refine su rfl rfl ?_ | refine sy rfl rfl ((lss rfl rfl).eq (congrArg Value.bool (decide_eq_true (by omega)))) ?_
    first | refine st (pkT rfl rfl) ?_ | refine st (pkF rfl rfl) ?_ | refine st (pk rfl rfl rfl) ?_
    refine st (mv rfl) ?_
    first | refine sn rfl rfl rfl ?_ | refine su rfl rfl ?_ | refine sy rfl rfl (mv rfl) ?_
    first | refine sn rfl rfl rfl ?_ | refine su rfl rfl ?_ | refine sy rfl rfl (mv rfl) ?_
    first | refine sn rfl rfl rfl ?_ | refine su rfl rfl ?_ | refine sy rfl rfl (lenD Tryd.underlying23 (isR rfl)) ?_
    first | refine sn rfl rfl rfl ?_ | refine su rfl rfl ?_ | refine sy rfl rfl ((leq rfl rfl).eq (congrArg Value.bool (decide_eq_true (by omega)))) ?_
    first | refine st (pkT rfl rfl) ?_ | refine st (pkF rfl rfl) ?_ | refine st (pk rfl rfl rfl) ?_
    refine en fun a w e' hf => ?_
    replace e := Ext.tr e e'
    clear e'
    refine tl_nil ?_
    repeat refine seq ?_
    refine ifc hf rfl (fun _ => wskip ?_) (fun h => by cases h)
    repeat refine seq ?_
    refine blk ?_
    replace hf := hf.keep [0, 1, 2, 7]
    dsimp only [keep, List.filterMap, look, Nat.beq, Option.map] at hf
    by_cases hqi : q = i
    · rw [if_pos hqi] at hr
      repeat refine seq ?_
      refine regn 3 hf (by decide +kernel) ?_
      refine st (mv rfl) ?_
      refine st (mv rfl) ?_
      refine st ((eql rfl rfl).eq (congrArg Value.bool ((beq_iff_eq.2 (by omega))))) ?_
      refine en fun a w e' hf => ?_
      replace e := Ext.tr e e'
      clear e'
      refine tl_nil ?_
      repeat refine seq ?_
      refine ifc hf rfl (fun _ => ?_) (fun h => by cases h)
      repeat refine seq ?_
      refine regn0 ?_
      refine tl_as hf rfl (by decide) fun a hf => ?_
      refine tl_nil ?_
      refine wret ?_
      try simp only [Exit.then, Exit.inBlock]
      refine ret1 rfl hf rfl ?_
      rintro _ rfl
      exact ⟨_, rfl, e, congrArg B hr⟩
    · rw [if_neg hqi] at hr
      repeat refine seq ?_
      refine regn 3 hf (by decide +kernel) ?_
      refine st (mv rfl) ?_
      refine st (mv rfl) ?_
      refine st ((eql rfl rfl).eq (congrArg Value.bool ((beq_eq_false_iff_ne.2 (by omega))))) ?_
      refine en fun a w e' hf => ?_
      replace e := Ext.tr e e'
      clear e'
      refine tl_nil ?_
      repeat refine seq ?_
      refine ifc hf rfl (fun h => by cases h) (fun _ => ?_)
      refine wskip ?_
      try simp only [Exit.then, Exit.inBlock, ↓reduceIte]
      have hx := bg_get hq
      replace hf := hf.keep [0, 1, 2, 7]
      dsimp only [keep, List.filterMap, look, Nat.beq, Option.map] at hf
      repeat refine seq ?_
      refine regn 5 hf (by decide +kernel) ?_
      refine st (mv rfl) ?_
      refine st (mv rfl) ?_
      refine st (idxD Tryd.underlying23 S86 (isR rfl) rfl (by omega) (hx)) ?_
      refine st (fldD Tryd.underlying86 rfl T3 (by decide) (Fld.fst Fld.refl) (isR rfl)) ?_
      refine st (ldI T3 (isR rfl)) ?_
      refine en fun a w e' hf => ?_
      replace e := Ext.tr e e'
      clear e'
      refine tl_as hf rfl (by decide) fun a hf => ?_
      refine tl_nil ?_
      try simp only [Exit.then, Exit.inBlock, ↓reduceIte]
      replace hf := hf.keep [0, 1, 2, 7]
      dsimp only [keep, List.filterMap, look, Nat.beq, Option.map] at hf
      repeat refine seq ?_
      refine regn 2 hf (by decide +kernel) ?_
      refine st (mv rfl) ?_
      refine st ((add rfl rfl (by omega)).eq (congrArg (Value.int .i64) (show (n : Int) + 1 = ((n + 1 : Nat) : Int) from rfl))) ?_
      refine en fun a w e' hf => ?_
      replace e := Ext.tr e e'
      clear e'
      refine tl_as hf rfl (by decide) fun a hf => ?_
      refine tl_nil ?_
      replace hf := hf.keep [0, 1, 2, 7]
      dsimp only [keep, List.filterMap, look, Nat.beq, Option.map] at hf
      refine ⟨((bg o q).1 + 1).toNat, by omega, (bg o q).1, n + 1, rfl, d1, by omega, by omega, fun h => ?_, fun h => ?_, hf, e⟩
      · rw [if_neg (by omega), und_fuel D (g := (bg o q).1.toNat + 1) (by omega) (by omega) (by omega)] at hr
        exact hr
      · rw [if_pos h] at hr; exact hr.symm
  · have hc' : c = -1 := by omega
    have hr := hr2 (by omega)
    repeat refine seq ?_
    refine regn 14 hf (by decide +kernel) ?_
    refine st (mv rfl) ?_
    refine st ((geq rfl rfl).eq (congrArg Value.bool (decide_eq_false hc))) ?_
    refine st (mv rfl) ?_
    first | refine sn rfl rfl rfl ?_ | refine su rfl rfl ?_ | refine sy rfl rfl (mv rfl) ?_
    first | refine sn rfl rfl rfl ?_ | refine su rfl rfl ?_ | refine sy rfl rfl (mv rfl) ?_
    first | refine sn rfl rfl rfl ?_ | refine su rfl rfl ?_ | refine sy rfl rfl (lenD Tryd.underlying23 (isR rfl)) ?_
    first | refine sn rfl rfl rfl ?_ | refine su rfl rfl ?_ | refine sy rfl rfl (lss rfl rfl) ?_
    first | refine st (pkT rfl rfl) ?_ | refine st (pkF rfl rfl) ?_ | refine st (pk rfl rfl rfl) ?_
    refine st (mv rfl) ?_
    first | refine sn rfl rfl rfl ?_ | refine su rfl rfl ?_ | refine sy rfl rfl (mv rfl) ?_
    first | refine sn rfl rfl rfl ?_ | refine su rfl rfl ?_ | refine sy rfl rfl (mv rfl) ?_
    first | refine sn rfl rfl rfl ?_ | refine su rfl rfl ?_ | refine sy rfl rfl (lenD Tryd.underlying23 (isR rfl)) ?_
    first | refine sn rfl rfl rfl ?_ | refine su rfl rfl ?_ | refine sy rfl rfl (leq rfl rfl) ?_
    first | refine st (pkT rfl rfl) ?_ | refine st (pkF rfl rfl) ?_ | refine st (pk rfl rfl rfl) ?_
    refine en fun a w e' hf => ?_
    replace e := Ext.tr e e'
    clear e'
    refine tl_nil ?_
    repeat refine seq ?_
    refine ifc hf rfl (fun h => by cases h) (fun _ => wexit ?_)
    simp only [Exit.then, Exit.inBlock, ↓reduceIte]
    repeat refine seq ?_
    refine regn0 ?_
    refine tl_as hf rfl (by decide) fun a hf => ?_
    refine tl_nil ?_
    refine wret ?_
    try simp only [Exit.then, Exit.inBlock]
    refine ret1 rfl hf rfl ?_
    rintro _ rfl
    exact ⟨_, rfl, e, congrArg B hr.symm⟩

/-- what has been a splitter so far -/
def seenA (l : List Int) (k : Nat) : BS := (l.take k).foldl ins 0
theorem seenA_succ {l : List Int} {k : Nat} {x : Int} (h : l[k]? = some x) : seenA l (k + 1) = ins (seenA l k) x := by
  rw [seenA, List.take_add_one, h, List.foldl_append]; rfl
theorem seen_not {t : List (Int × BS)} {T : Tr} (F : Fo (adjL t) T) (h : chkR (toT t) = 0) {i : Nat} {x : Int × BS} (hx : (parts0 t)[i]? = some x) : has (seenA (balAt t) i) ((splitter (adjL t) x.2 : Nat) : Int) = false := by
  obtain ⟨h0, _⟩ := chkR_ok.1 h
  rw [toT_len] at h0
  obtain ⟨hl, _, hn⟩ := parts0_ok F h0
  cases hc : has (seenA (balAt t) i) ((splitter (adjL t) x.2 : Nat) : Int)
  · rfl
  · exfalso
    have hb := (has_bit _ _).1 hc
    have hs1 := bit_lt hb
    rw [seenA, foldl_ins_bit _ hs1, Bool.or_eq_true, decide_eq_true_eq] at hb
    have hm := hb.resolve_left (bit_zero _)
    obtain ⟨j, hj⟩ := List.getElem?_of_mem hm
    rw [List.getElem?_take] at hj
    split at hj
    · rename_i hji
      have hil := (List.getElem?_eq_some_iff.1 hx).1
      obtain ⟨z, hz⟩ : ∃ z, (parts0 t)[j]? = some z := ⟨_, List.getElem?_eq_getElem (by omega)⟩
      rw [at_get h hz] at hj
      have := Int.ofNat.inj (Option.some.inj hj)
      exact at_once F h hx hz hji this.symm
    · cases hj
theorem sub_new {t : List (Int × BS)} {i : Nat} {x : Int × BS} (h : chkR (toT t) = 0) (hx : (parts0 t)[i]? = some x) : ((bg t (splitter (adjL t) x.2)).2 &&& ~~~(bg (balT t) i).2 == 0) = true := by
  have e : balT t = (parts0 t).map (bagOf (adjL t) t) := by rw [balT, if_pos h]
  have : (bg t (splitter (adjL t) x.2)).2 &&& ~~~(bg (balT t) i).2 = 0 := set_ext' fun j => by
    rw [bit_diff, e, bal_bg hx, bagOf_snd]
    exact ⟨fun hh => absurd (hasTo_sub hh.1 _) hh.2, fun hh => absurd hh (bit_zero j)⟩
  rw [this]; exact beq_self_eq_true _

theorem law_splitters {G : Nat → Prop} (t0 : List (Int × BS)) (v : Value) (W : World) (hT : Tab W) (h : (Dv treeE G t0).p v W) : Calls Tryd.prog 13 #[v] W (Post (E (B true)) W) := by
  have hT0 := hT.lt
  obtain ⟨t, ht⟩ : ∃ t, t0.take 40 = t := ⟨_, rfl⟩
  have hl : t.length ≤ 40 := by rw [← ht, List.length_take]; omega
  have hF := foT (t := t) (by omega)
  refine enter (args := [v]) (As := [Dv treeE Go.Mono.G0 t0]) Tryd.func13 rfl Tryd.ntmps13 (Nat.le_of_ble_eq_true rfl) ?_ (fun a hf => ?_) (Nat.le_of_ble_eq_true rfl)
  rotate_left
  dsimp only [params, Nat.reduceAdd] at hf
  rotate_right
  · exact arg1 (Dv.weak h fun b _ hb => hb.elim)
  have e := Ext.rfl' W
  repeat refine seq ?_
  refine regn0 ?_
  refine tl_as hf rfl (by decide) fun a hf => ?_
  refine tl_nil ?_
  repeat refine seq ?_
  refine regn 2 hf (by decide +kernel) ?_
  refine st (mv rfl) ?_
  refine st (call1 (A := Dv treeE Go.Mono.G0 t) En55 rfl (fun v w he h => by rw [← ht]; exact cut_spec t0 v w h)) ?_
  refine en fun a w e' hf => ?_
  replace hT := hT.ext e'
  replace e := Ext.tr e e'
  clear e'
  refine tl_as hf rfl (by decide) fun a hf => ?_
  refine tl_nil ?_
  replace hf := hf.keep [0]
  dsimp only [keep, List.filterMap, look, Nat.beq, Option.map] at hf
  repeat refine seq ?_
  refine regn 6 hf (by decide +kernel) ?_
  refine st (mv rfl) ?_
  refine st (call1 En56 rfl (fun v w he h => balance_spec t v w (hT.ext he) h (by omega) hF)) ?_
  refine st (mv rfl) ?_
  refine st (ext_ rfl rfl) ?_
  refine st (ext_ rfl rfl) ?_
  refine st (ext_ rfl rfl) ?_
  refine en fun a w e' hf => ?_
  replace hT := hT.ext e'
  replace e := Ext.tr e e'
  clear e'
  refine tl_as hf rfl (by decide) fun a hf => ?_
  refine tl_as hf rfl (by decide) fun a hf => ?_
  refine tl_as hf rfl (by decide) fun a hf => ?_
  refine tl_nil ?_
  replace hf := hf.keep [0, 3, 4, 5]
  dsimp only [keep, List.filterMap, look, Nat.beq, Option.map] at hf
  repeat refine seq ?_
  refine regn 2 hf (by decide +kernel) ?_
  refine st (mv rfl) ?_
  refine st (neq rfl rfl) ?_
  refine en fun a w e' hf => ?_
  replace hT := hT.ext e'
  replace e := Ext.tr e e'
  clear e'
  refine tl_nil ?_
  repeat refine seq ?_
  refine ifc hf rfl (fun hb => ?_) (fun hb => ?_)
  · repeat refine seq ?_
    refine regn 1 hf (by decide +kernel) ?_
    refine st (call0 En58 (fun w he => known_spec w (hT.ext he))) ?_
    refine en fun a w e' hf => ?_
    replace hT := hT.ext e'
    replace e := Ext.tr e e'
    clear e'
    refine tl_as hf rfl (by decide) fun a hf => ?_
    refine tl_nil ?_
    refine wret ?_
    try simp only [Exit.then, Exit.inBlock]
    refine ret1 rfl hf rfl ?_
    rintro _ rfl
    exact ⟨_, rfl, e, rfl⟩
  have h0 : chkR (toT t) = 0 := by simpa using hb
  clear hb
  have h0l : 0 < t.length := by have := (chkR_ok.1 h0).1; rwa [toT_len] at this
  obtain ⟨T, F⟩ := hF h0
  have hbl := balT_len F h0
  have hal := balAt_len F h0
  have D := bal_dec F h0
  obtain ⟨hpl, _, hpn⟩ := parts0_ok F h0l
  have hTn : T.n = t.length := by rw [← F.len, adjL_len]
  refine wskip ?_
  try simp only [Exit.then, Exit.inBlock, ↓reduceIte]
  obtain ⟨tv, HV, hf⟩ := hf.fix 0 rfl
  obtain ⟨ov, HO, hf⟩ := hf.fix 3 rfl
  obtain ⟨av, HA, hf⟩ := hf.fix 4 rfl
  obtain ⟨N0, hN0⟩ : ∃ N0, N0 = w.heap.size := ⟨_, rfl⟩
  replace HV : (Dv treeE (fun b => N0 ≤ b) t).p tv w := Dv.weak HV fun b hb hg => absurd hb (Nat.not_lt.2 (by omega))
  replace HO : (Dv treeE (fun b => N0 ≤ b) (balT t)).p ov w := Dv.weak HO fun b hb hg => absurd hb (Nat.not_lt.2 (by omega))
  replace HA : (Dv (slE intE) (fun b => N0 ≤ b) (balAt t)).p av w := Dv.weak HA fun b hb hg => absurd hb (Nat.not_lt.2 (by omega))
  have hNw : N0 ≤ w.heap.size := by omega
  have hNW : W.heap.size ≤ N0 := by have := e.size; omega
  clear hN0
  have b1 : ((((balAt t).length : Nat) : Int) != ((t.length : Nat) : Int)) = false := by rw [hal]; simp
  have b2 : ((((balT t).length : Nat) : Int) != ((t.length : Nat) : Int)) = false := by rw [hbl]; simp
  replace hf := hf.keep [0, 3, 4]
  dsimp only [keep, List.filterMap, look, Nat.beq, Option.map] at hf
  repeat refine seq ?_
  refine regn 12 hf (by decide +kernel) ?_
  refine st (mv rfl) ?_
  refine st (lenD Tryd.underlying43 (isE rfl HA)) ?_
  refine st (mv rfl) ?_
  refine st (lenD Tryd.underlying23 (isE rfl HV)) ?_
  refine st ((neq rfl rfl).eq (congrArg Value.bool (b1))) ?_
  refine st (mv rfl) ?_
  first | refine sn rfl rfl rfl ?_ | refine su rfl rfl ?_ | refine sy rfl rfl (mv rfl) ?_
  first | refine sn rfl rfl rfl ?_ | refine su rfl rfl ?_ | refine sy rfl rfl (lenD Tryd.underlying23 (isE rfl HO)) ?_
  first | refine sn rfl rfl rfl ?_ | refine su rfl rfl ?_ | refine sy rfl rfl (mv rfl) ?_
  first | refine sn rfl rfl rfl ?_ | refine su rfl rfl ?_ | refine sy rfl rfl (lenD Tryd.underlying23 (isE rfl HV)) ?_
  first | refine sn rfl rfl rfl ?_ | refine su rfl rfl ?_ | refine sy rfl rfl ((neq rfl rfl).eq (congrArg Value.bool (b2))) ?_
  first | refine st (pkT rfl rfl) ?_ | refine st (pkF rfl rfl) ?_ | refine st (pk rfl rfl rfl) ?_
  refine en fun a w e' hf => ?_
  replace hT := hT.ext e'
  replace HV := Dv.ex HV e'
  replace HO := Dv.ex HO e'
  replace HA := Dv.ex HA e'
  replace hNw := Nat.le_trans hNw e'.size
  replace e := Ext.tr e e'
  clear e'
  refine tl_nil ?_
  repeat refine seq ?_
  refine ifc hf rfl (fun h => by cases h) (fun _ => ?_)
  refine wskip ?_
  try simp only [Exit.then, Exit.inBlock, ↓reduceIte]
  replace hf := hf.keep [0, 3, 4]
  dsimp only [keep, List.filterMap, look, Nat.beq, Option.map] at hf
  repeat refine seq ?_
  refine regn0 ?_
  refine tl_op hf (by decide) ((bld0 Bz37).eq z16_eq) fun a w e' hf => ?_
  replace hT := hT.ext e'
  replace HV := Dv.ex HV e'
  replace HO := Dv.ex HO e'
  replace HA := Dv.ex HA e'
  replace hNw := Nat.le_trans hNw e'.size
  replace e := Ext.tr e e'
  clear e'
  refine tl_alloc I37 hf (by decide) fun a b6 w e' hb6 hs6 B6 hf => ?_
  have hle6 := Nat.le_trans e.size (Nat.le_of_eq hb6.symm)
  have lo6_hNw := Nat.le_trans hNw (Nat.le_of_eq hb6.symm)
  replace hT := hT.ext e'
  replace HV := Dv.ex HV e'
  replace HO := Dv.ex HO e'
  replace HA := Dv.ex HA e'
  replace hNw := Nat.le_trans hNw e'.size
  replace e := Ext.tr e e'
  clear e'
  replace hf := hf.keep [0, 3, 4, 6, 36]
  dsimp only [keep, List.filterMap, look, Nat.beq, Option.map] at hf
  haveI hinr : ∀ G0, InR (GB W G0) (some b6) := fun G0 => InR.gb (by omega)
  refine tl_stW T37 hf rfl rfl (wordsC_one _) B6 rfl (rfl) fun w hg hsz B6 hf => ?_
  replace hT := hT.gr hg (by omega)
  replace HV := Dv.gr HV hg (by omega)
  replace HO := Dv.gr HO hg (by omega)
  replace HA := Dv.gr HA hg (by omega)
  replace hNw := Nat.le_trans hNw (Nat.le_of_eq hsz.symm)
  replace e := e.gr hg (by omega)
  clear hg
  refine tl_nil ?_
  replace B6 : Blk w b6 (setC (seenA (balAt t) 0)) 37 := B6
  replace hf := hf.keep [0, 3, 4, 6]
  dsimp only [keep, List.filterMap, look, Nat.beq, Option.map] at hf
  repeat refine seq ?_
  refine regn0 ?_
  refine tl_as hf rfl (by decide) fun a hf => ?_
  refine tl_nil ?_
  replace hf := hf.keep [0, 3, 4, 6, 7]
  dsimp only [keep, List.filterMap, look, Nat.beq, Option.map] at hf
  repeat refine seq ?_
  refine cut (J := fun a w => Fr 142 a w [(0, E tv), (3, E ov), (4, E av)] ∧ (Ext W w ∧ Tab w ∧ N0 ≤ w.heap.size) ∧ (Dv treeE (fun b => N0 ≤ b) t).p tv w ∧ (Dv treeE (fun b => N0 ≤ b) (balT t)).p ov w ∧ (Dv (slE intE) (fun b => N0 ≤ b) (balAt t)).p av w) ?_ (fun a w hJ => ?_)
  · refine blk (loopN (fun r0 a w => ∃ (k : Nat), r0 = t.length - k ∧ k ≤ t.length ∧ Fr 142 a w [(0, E tv), (3, E ov), (4, E av), (6, E (.pointer (some ⟨b6, 0, none⟩))), (7, E (I k))] ∧ (Ext W w ∧ Tab w ∧ N0 ≤ w.heap.size) ∧ (Dv treeE (fun b => N0 ≤ b) t).p tv w ∧ (Dv treeE (fun b => N0 ≤ b) (balT t)).p ov w ∧ (Dv (slE intE) (fun b => N0 ≤ b) (balAt t)).p av w ∧ Blk w b6 (setC (seenA (balAt t) k)) 37) t.length ⟨0, rfl, by omega, hf, ⟨e, hT, hNw⟩, HV, HO, HA, B6⟩ ?_)
    clear hf e hT hNw HV HO HA B6
    rintro r0 a w ⟨k, rfl, hk, hf, ⟨e, hT, hNw⟩, HV, HO, HA, B6⟩
    repeat refine seq ?_
    refine regn 4 hf (by decide +kernel) ?_
    refine st (mv rfl) ?_
    refine st (mv rfl) ?_
    refine st (lenD Tryd.underlying43 (isE rfl HA)) ?_
    refine st (lss rfl rfl) ?_
    refine en fun a w e' hf => ?_
    replace hT := hT.ext e'
    replace HV := Dv.ex HV e'
    replace HO := Dv.ex HO e'
    replace HA := Dv.ex HA e'
    replace hNw := Nat.le_trans hNw e'.size
    replace e := Ext.tr e e'
    replace B6 := B6.ext e'
    clear e'
    refine tl_nil ?_
    rw [hal] at hf
    repeat refine seq ?_
    refine ifc hf rfl (fun hc => wskip ?_) (fun hc => wexit ?_)
    · have hlt : k < t.length := by have := of_decide_eq_true hc; omega
      clear hc
      simp only [Exit.then, Exit.inBlock, ↓reduceIte]
      obtain ⟨x, hx⟩ := bal_get F h0l hlt
      have hp := (hpn k x hx).1.pt
      have hst := hp.inn _ (hp.spl F).mem
      have ga := at_get h0 hx
      have gt := bg_get (t := t) (i := splitter (adjL t) x.2) (by omega)
      have go := bg_get (t := balT t) (i := k) (by omega)
      have sn := seen_not F h0 hx
      have sb := sub_new h0 hx
      obtain ⟨d1, d2⟩ := D k (by omega)
      have hss := seenA_succ ga
      repeat refine seq ?_
      refine blk ?_
      replace hf := hf.keep [0, 3, 4, 6, 7]
      dsimp only [keep, List.filterMap, look, Nat.beq, Option.map] at hf
      repeat refine seq ?_
      refine reg 56 Mix.mix hf (by decide +kernel) ?_
      refine st (mv rfl) ?_
      refine st (mv rfl) ?_
      refine st (idxD Tryd.underlying43 S3 (isE rfl HA) rfl (by omega) (ga)) ?_
      refine st (ldI T3 (isR rfl)) ?_
      refine st ((lss rfl rfl).eq (congrArg Value.bool (decide_eq_false (by omega)))) ?_
      refine st (mv rfl) ?_
      first | refine sn rfl rfl rfl ?_ | refine su rfl rfl ?_ | refine sy rfl rfl (mv rfl) ?_
      first | refine sn rfl rfl rfl ?_ | refine su rfl rfl ?_ | refine sy rfl rfl (mv rfl) ?_
      first | refine sn rfl rfl rfl ?_ | refine su rfl rfl ?_ | refine sy rfl rfl (idxD Tryd.underlying43 S3 (isE rfl HA) rfl (by omega) (ga)) ?_
      first | refine sn rfl rfl rfl ?_ | refine su rfl rfl ?_ | refine sy rfl rfl (ldI T3 (isR rfl)) ?_
      first | refine sn rfl rfl rfl ?_ | refine su rfl rfl ?_ | refine sy rfl rfl (mv rfl) ?_
      first | refine sn rfl rfl rfl ?_ | refine su rfl rfl ?_ | refine sy rfl rfl (lenD Tryd.underlying23 (isE rfl HV)) ?_
      first | refine sn rfl rfl rfl ?_ | refine su rfl rfl ?_ | refine sy rfl rfl ((geq rfl rfl).eq (congrArg Value.bool (decide_eq_false (by omega)))) ?_
      first | refine st (pkT rfl rfl) ?_ | refine st (pkF rfl rfl) ?_ | refine st (pk rfl rfl rfl) ?_
      refine st (mv rfl) ?_
      first | refine sn rfl rfl rfl ?_ | refine su rfl rfl ?_ | refine sy rfl rfl (ldW T37 rfl B6 rfl) ?_
      first | refine sn rfl rfl rfl ?_ | refine su rfl rfl ?_ | refine sy rfl rfl (mv rfl) ?_
      first | refine sn rfl rfl rfl ?_ | refine su rfl rfl ?_ | refine sy rfl rfl (mv rfl) ?_
      first | refine sn rfl rfl rfl ?_ | refine su rfl rfl ?_ | refine sy rfl rfl (idxD Tryd.underlying43 S3 (isE rfl HA) rfl (by omega) (ga)) ?_
      first | refine sn rfl rfl rfl ?_ | refine su rfl rfl ?_ | refine sy rfl rfl (ldI T3 (isR rfl)) ?_
      first | refine sn rfl rfl rfl ?_ | refine su rfl rfl ?_ | refine sy rfl rfl ((call2 En23 rfl rfl (fun v u w he h h' => by cases h; cases h'; exact has_spec _ _ w)).eq (congrArg Value.bool (sn))) ?_
      first | refine st (pkT rfl rfl) ?_ | refine st (pkF rfl rfl) ?_ | refine st (pk rfl rfl rfl) ?_
      refine st (mv rfl) ?_
      first | refine sn rfl rfl rfl ?_ | refine su rfl rfl ?_ | refine sy rfl rfl (mv rfl) ?_
      first | refine sn rfl rfl rfl ?_ | refine su rfl rfl ?_ | refine sy rfl rfl (mv rfl) ?_
      first | refine sn rfl rfl rfl ?_ | refine su rfl rfl ?_ | refine sy rfl rfl (mv rfl) ?_
      first | refine sn rfl rfl rfl ?_ | refine su rfl rfl ?_ | refine sy rfl rfl (idxD Tryd.underlying43 S3 (isE rfl HA) rfl (by omega) (ga)) ?_
      first | refine sn rfl rfl rfl ?_ | refine su rfl rfl ?_ | refine sy rfl rfl (ldI T3 (isR rfl)) ?_
      first | refine sn rfl rfl rfl ?_ | refine su rfl rfl ?_ | refine sy rfl rfl (idxD Tryd.underlying23 S86 (isE rfl HV) rfl (by omega) (gt)) ?_
      first | refine sn rfl rfl rfl ?_ | refine su rfl rfl ?_ | refine sy rfl rfl (fldD Tryd.underlying86 rfl T37 (by decide) (Fld.snd Fld.refl rfl) (isR rfl)) ?_
      first | refine sn rfl rfl rfl ?_ | refine su rfl rfl ?_ | refine sy rfl rfl (ldS T37 (isR rfl)) ?_
      first | refine sn rfl rfl rfl ?_ | refine su rfl rfl ?_ | refine sy rfl rfl (mv rfl) ?_
      first | refine sn rfl rfl rfl ?_ | refine su rfl rfl ?_ | refine sy rfl rfl (mv rfl) ?_
      first | refine sn rfl rfl rfl ?_ | refine su rfl rfl ?_ | refine sy rfl rfl (idxD Tryd.underlying23 S86 (isE rfl HO) rfl (by omega) (go)) ?_
      first | refine sn rfl rfl rfl ?_ | refine su rfl rfl ?_ | refine sy rfl rfl (fldD Tryd.underlying86 rfl T37 (by decide) (Fld.snd Fld.refl rfl) (isR rfl)) ?_
      first | refine sn rfl rfl rfl ?_ | refine su rfl rfl ?_ | refine sy rfl rfl (ldS T37 (isR rfl)) ?_
      first | refine sn rfl rfl rfl ?_ | refine su rfl rfl ?_ | refine sy rfl rfl ((call2 En73 rfl rfl (fun v u w he h h' => by cases h; cases h'; exact subset_spec _ _ w)).eq (congrArg Value.bool (sb))) ?_
      first | refine sn rfl rfl rfl ?_ | refine su rfl rfl ?_ | refine sy rfl rfl (notp rfl) ?_
      first | refine st (pkT rfl rfl) ?_ | refine st (pkF rfl rfl) ?_ | refine st (pk rfl rfl rfl) ?_
      refine st (mv rfl) ?_
      first | refine sn rfl rfl rfl ?_ | refine su rfl rfl ?_ | refine sy rfl rfl (mv rfl) ?_
      first | refine sn rfl rfl rfl ?_ | refine su rfl rfl ?_ | refine sy rfl rfl (mv rfl) ?_
      first | refine sn rfl rfl rfl ?_ | refine su rfl rfl ?_ | refine sy rfl rfl (idxD Tryd.underlying23 S86 (isE rfl HO) rfl (by omega) (go)) ?_
      first | refine sn rfl rfl rfl ?_ | refine su rfl rfl ?_ | refine sy rfl rfl (fldD Tryd.underlying86 rfl T3 (by decide) (Fld.fst Fld.refl) (isR rfl)) ?_
      first | refine sn rfl rfl rfl ?_ | refine su rfl rfl ?_ | refine sy rfl rfl (ldI T3 (isR rfl)) ?_
      first | refine sn rfl rfl rfl ?_ | refine su rfl rfl ?_ | refine sy rfl rfl (mv rfl) ?_
      first | refine sn rfl rfl rfl ?_ | refine su rfl rfl ?_ | refine sy rfl rfl ((geq rfl rfl).eq (congrArg Value.bool (decide_eq_false (by omega)))) ?_
      first | refine st (pkT rfl rfl) ?_ | refine st (pkF rfl rfl) ?_ | refine st (pk rfl rfl rfl) ?_
      refine st (mv rfl) ?_
      first | refine sn rfl rfl rfl ?_ | refine su rfl rfl ?_ | refine sy rfl rfl (mv rfl) ?_
      first | refine sn rfl rfl rfl ?_ | refine su rfl rfl ?_ | refine sy rfl rfl (mv rfl) ?_
      first | refine sn rfl rfl rfl ?_ | refine su rfl rfl ?_ | refine sy rfl rfl (idxD Tryd.underlying23 S86 (isE rfl HO) rfl (by omega) (go)) ?_
      first | refine sn rfl rfl rfl ?_ | refine su rfl rfl ?_ | refine sy rfl rfl (fldD Tryd.underlying86 rfl T3 (by decide) (Fld.fst Fld.refl) (isR rfl)) ?_
      first | refine sn rfl rfl rfl ?_ | refine su rfl rfl ?_ | refine sy rfl rfl (ldI T3 (isR rfl)) ?_
      first | refine sn rfl rfl rfl ?_ | refine su rfl rfl ?_ | refine sy rfl rfl ((lss rfl rfl).eq (congrArg Value.bool (decide_eq_false (by omega)))) ?_
      first | refine st (pkT rfl rfl) ?_ | refine st (pkF rfl rfl) ?_ | refine st (pk rfl rfl rfl) ?_
      refine en fun a w e' hf => ?_
      replace hT := hT.ext e'
      replace HV := Dv.ex HV e'
      replace HO := Dv.ex HO e'
      replace HA := Dv.ex HA e'
      replace hNw := Nat.le_trans hNw e'.size
      replace e := Ext.tr e e'
      replace B6 := B6.ext e'
      clear e'
      refine tl_nil ?_
      repeat refine seq ?_
      refine ifc hf rfl (fun h => by cases h) (fun _ => ?_)
      refine wskip ?_
      try simp only [Exit.then, Exit.inBlock, ↓reduceIte]
      replace hf := hf.keep [0, 3, 4, 6, 7]
      dsimp only [keep, List.filterMap, look, Nat.beq, Option.map] at hf
      repeat refine seq ?_
      refine reg 6 Mix.mix hf (by decide +kernel) ?_
      refine st (ldW T37 rfl B6 rfl) ?_
      refine st (mv rfl) ?_
      refine st (mv rfl) ?_
      refine st (idxD Tryd.underlying43 S3 (isE rfl HA) rfl (by omega) (ga)) ?_
      refine st (ldI T3 (isR rfl)) ?_
      refine st (call2 En74 rfl rfl (fun v u w he h h' => by cases h; cases h'; exact with_spec _ _ w)) ?_
      refine en fun a w e' hf => ?_
      replace hT := hT.ext e'
      replace HV := Dv.ex HV e'
      replace HO := Dv.ex HO e'
      replace HA := Dv.ex HA e'
      replace hNw := Nat.le_trans hNw e'.size
      replace e := Ext.tr e e'
      replace B6 := B6.ext e'
      clear e'
      replace hf := hf.keep [0, 3, 4, 6, 7, 104]
      dsimp only [keep, List.filterMap, look, Nat.beq, Option.map] at hf
      haveI hinr : ∀ G0, InR (GB W G0) (some b6) := fun G0 => InR.gb (by omega)
      refine tl_stW T37 hf rfl rfl (wordsC_one _) B6 rfl (rfl) fun w hg hsz B6 hf => ?_
      replace hT := hT.gr hg (by omega)
      replace HV := Dv.gr HV hg (by omega)
      replace HO := Dv.gr HO hg (by omega)
      replace HA := Dv.gr HA hg (by omega)
      replace hNw := Nat.le_trans hNw (Nat.le_of_eq hsz.symm)
      replace e := e.gr hg (by omega)
      clear hg
      refine tl_nil ?_
      replace B6 : Blk w b6 (setC (seenA (balAt t) (k + 1))) 37 := by rw [hss]; exact B6
      try simp only [Exit.then, Exit.inBlock, ↓reduceIte]
      replace hf := hf.keep [0, 3, 4, 6, 7]
      dsimp only [keep, List.filterMap, look, Nat.beq, Option.map] at hf
      repeat refine seq ?_
      refine regn 2 hf (by decide +kernel) ?_
      refine st (mv rfl) ?_
      refine st ((add rfl rfl (by omega)).eq (congrArg (Value.int .i64) (show (k : Int) + 1 = ((k + 1 : Nat) : Int) from rfl))) ?_
      refine en fun a w e' hf => ?_
      replace hT := hT.ext e'
      replace HV := Dv.ex HV e'
      replace HO := Dv.ex HO e'
      replace HA := Dv.ex HA e'
      replace hNw := Nat.le_trans hNw e'.size
      replace e := Ext.tr e e'
      replace B6 := B6.ext e'
      clear e'
      refine tl_as hf rfl (by decide) fun a hf => ?_
      refine tl_nil ?_
      replace hf := hf.keep [0, 3, 4, 6, 7]
      dsimp only [keep, List.filterMap, look, Nat.beq, Option.map] at hf
      exact ⟨t.length - (k + 1), by omega, k + 1, rfl, by omega, hf, ⟨e, hT, hNw⟩, HV, HO, HA, B6⟩
    · clear hc
      simp only [Exit.then, Exit.inBlock, ↓reduceIte]
      replace hf := hf.keep [0, 3, 4]
      dsimp only [keep, List.filterMap, look, Nat.beq, Option.map] at hf
      exact ⟨trivial, hf, ⟨e, hT, hNw⟩, HV, HO, HA⟩
  clear hf e hT hNw HV HO HA B6
  obtain ⟨hf, ⟨e, hT, hNw⟩, HV, HO, HA⟩ := hJ
  try simp only [Exit.then]
  repeat refine seq ?_
  refine regn0 ?_
  refine tl_as hf rfl (by decide) fun a hf => ?_
  refine tl_nil ?_
  replace hf := hf.keep [0, 3, 4, 8]
  dsimp only [keep, List.filterMap, look, Nat.beq, Option.map] at hf
  repeat refine seq ?_
  refine blk (loopN (fun r0 a w => ∃ (i : Nat), r0 = t.length - i ∧ i ≤ t.length ∧ Fr 142 a w [(0, E tv), (3, E ov), (4, E av), (8, E (I i))] ∧ (Ext W w ∧ Tab w ∧ N0 ≤ w.heap.size) ∧ (Dv treeE (fun b => N0 ≤ b) t).p tv w ∧ (Dv treeE (fun b => N0 ≤ b) (balT t)).p ov w ∧ (Dv (slE intE) (fun b => N0 ≤ b) (balAt t)).p av w) t.length ⟨0, rfl, by omega, hf, ⟨e, hT, hNw⟩, HV, HO, HA⟩ ?_)
  clear hf e hT hNw HV HO HA
  rintro r0 a w ⟨i, rfl, hi, hf, ⟨e, hT, hNw⟩, HV, HO, HA⟩
  repeat refine seq ?_
  refine regn 4 hf (by decide +kernel) ?_
  refine st (mv rfl) ?_
  refine st (mv rfl) ?_
  refine st (lenD Tryd.underlying43 (isE rfl HA)) ?_
  refine st (lss rfl rfl) ?_
  refine en fun a w e' hf => ?_
  replace hT := hT.ext e'
  replace HV := Dv.ex HV e'
  replace HO := Dv.ex HO e'
  replace HA := Dv.ex HA e'
  replace hNw := Nat.le_trans hNw e'.size
  replace e := Ext.tr e e'
  clear e'
  refine tl_nil ?_
  rw [hal] at hf
  repeat refine seq ?_
  refine ifc hf rfl (fun hc => wskip ?_) (fun hc => wexit ?_)
  · have hlt : i < t.length := by have := of_decide_eq_true hc; omega
    clear hc
    simp only [Exit.then, Exit.inBlock, ↓reduceIte]
    obtain ⟨x, hx⟩ := bal_get F h0l hlt
    have hup := use_part F h0 hx
    obtain ⟨pe, pc⟩ := part_ok F h0 (hpn i x hx).1.pt
    repeat refine seq ?_
    refine blk ?_
    replace hf := hf.keep [0, 3, 4, 8]
    dsimp only [keep, List.filterMap, look, Nat.beq, Option.map] at hf
    repeat refine seq ?_
    refine regn0 ?_
    refine tl_op hf (by decide) ((bld0 Bz37).eq z16_eq) fun a w e' hf => ?_
    replace hT := hT.ext e'
    replace HV := Dv.ex HV e'
    replace HO := Dv.ex HO e'
    replace HA := Dv.ex HA e'
    replace hNw := Nat.le_trans hNw e'.size
    replace e := Ext.tr e e'
    clear e'
    refine tl_alloc I37 hf (by decide) fun a b9 w e' hb9 hs9 B9 hf => ?_
    have hle9 := Nat.le_trans e.size (Nat.le_of_eq hb9.symm)
    have lo9_hNw := Nat.le_trans hNw (Nat.le_of_eq hb9.symm)
    replace hT := hT.ext e'
    replace HV := Dv.ex HV e'
    replace HO := Dv.ex HO e'
    replace HA := Dv.ex HA e'
    replace hNw := Nat.le_trans hNw e'.size
    replace e := Ext.tr e e'
    clear e'
    replace hf := hf.keep [0, 3, 4, 8, 9, 111]
    dsimp only [keep, List.filterMap, look, Nat.beq, Option.map] at hf
    haveI hinr : ∀ G0, InR (GB W G0) (some b9) := fun G0 => InR.gb (by omega)
    refine tl_stW T37 hf rfl rfl (wordsC_one _) B9 rfl (rfl) fun w hg hsz B9 hf => ?_
    replace hT := hT.gr hg (by omega)
    replace HV := Dv.gr HV hg (by omega)
    replace HO := Dv.gr HO hg (by omega)
    replace HA := Dv.gr HA hg (by omega)
    replace hNw := Nat.le_trans hNw (Nat.le_of_eq hsz.symm)
    replace e := e.gr hg (by omega)
    clear hg
    refine tl_nil ?_
    replace B9 : Blk w b9 (setC (useto (balT t) (balAt t) i 0)) 37 := B9
    have hN9 : N0 ≤ b9 := by omega
    replace hf := hf.keep [0, 3, 4, 8, 9]
    dsimp only [keep, List.filterMap, look, Nat.beq, Option.map] at hf
    repeat refine seq ?_
    refine regn0 ?_
    refine tl_as hf rfl (by decide) fun a hf => ?_
    refine tl_nil ?_
    replace hf := hf.keep [0, 3, 4, 8, 9, 10]
    dsimp only [keep, List.filterMap, look, Nat.beq, Option.map] at hf
    repeat refine seq ?_
    refine cut (J := fun a w => Fr 142 a w [(0, E tv), (3, E ov), (4, E av), (8, E (I i)), (9, E (.pointer (some ⟨b9, 0, none⟩)))] ∧ (Ext W w ∧ Tab w ∧ N0 ≤ w.heap.size) ∧ (Dv treeE (fun b => N0 ≤ b) t).p tv w ∧ (Dv treeE (fun b => N0 ≤ b) (balT t)).p ov w ∧ (Dv (slE intE) (fun b => N0 ≤ b) (balAt t)).p av w ∧ Blk w b9 (setC x.2) 37) ?_ (fun a w hJ => ?_)
    · refine blk (loopN (fun r0 a w => ∃ (k : Nat), r0 = t.length - k ∧ k ≤ t.length ∧ Fr 142 a w [(0, E tv), (3, E ov), (4, E av), (8, E (I i)), (9, E (.pointer (some ⟨b9, 0, none⟩))), (10, E (I k))] ∧ (Ext W w ∧ Tab w ∧ N0 ≤ w.heap.size) ∧ (Dv treeE (fun b => N0 ≤ b) t).p tv w ∧ (Dv treeE (fun b => N0 ≤ b) (balT t)).p ov w ∧ (Dv (slE intE) (fun b => N0 ≤ b) (balAt t)).p av w ∧ Blk w b9 (setC (useto (balT t) (balAt t) i k)) 37) t.length ⟨0, rfl, by omega, hf, ⟨e, hT, hNw⟩, HV, HO, HA, B9⟩ ?_)
      clear hf e hT hNw HV HO HA B9
      rintro r0 a w ⟨k, rfl, hk, hf, ⟨e, hT, hNw⟩, HV, HO, HA, B9⟩
      repeat refine seq ?_
      refine regn 4 hf (by decide +kernel) ?_
      refine st (mv rfl) ?_
      refine st (mv rfl) ?_
      refine st (lenD Tryd.underlying43 (isE rfl HA)) ?_
      refine st (lss rfl rfl) ?_
      refine en fun a w e' hf => ?_
      replace hT := hT.ext e'
      replace HV := Dv.ex HV e'
      replace HO := Dv.ex HO e'
      replace HA := Dv.ex HA e'
      replace hNw := Nat.le_trans hNw e'.size
      replace e := Ext.tr e e'
      replace B9 := B9.ext e'
      clear e'
      refine tl_nil ?_
      rw [hal] at hf
      repeat refine seq ?_
      refine ifc hf rfl (fun hc => wskip ?_) (fun hc => wexit ?_)
      · have hlk : k < t.length := by have := of_decide_eq_true hc; omega
        clear hc
        simp only [Exit.then, Exit.inBlock, ↓reduceIte]
        obtain ⟨z, hz⟩ := bal_get F h0l hlk
        have ga := at_get h0 hz
        have hgd : (balAt t).getD k 0 = ((splitter (adjL t) z.2 : Nat) : Int) := by rw [List.getD_eq_getElem?_getD, ga]; rfl
        have hus := useto_succ (balT t) (balAt t) i k
        rw [hgd] at hus
        repeat refine seq ?_
        refine blk ?_
        replace hf := hf.keep [0, 3, 4, 8, 9, 10]
        dsimp only [keep, List.filterMap, look, Nat.beq, Option.map] at hf
        repeat refine seq ?_
        refine regn 4 hf (by decide +kernel) ?_
        refine st (mv rfl) ?_
        refine st (mv rfl) ?_
        refine st (mv rfl) ?_
        refine st (call3 (A := E (B (und (balT t) (k + 1) k i))) En75 rfl rfl rfl (fun v u s w he h h' h'' => by cases h; cases h'; cases h''; exact under_spec (balT t) k i _ w (Dv.ex HO he) (by omega) D (by omega))) ?_
        refine en fun a w e' hf => ?_
        replace hT := hT.ext e'
        replace HV := Dv.ex HV e'
        replace HO := Dv.ex HO e'
        replace HA := Dv.ex HA e'
        replace hNw := Nat.le_trans hNw e'.size
        replace e := Ext.tr e e'
        replace B9 := B9.ext e'
        clear e'
        refine tl_nil ?_
        repeat refine seq ?_
        refine ifc hf rfl (fun hb => ?_) (fun hb => ?_)
        · rw [if_pos hb] at hus
          replace hf := hf.keep [0, 3, 4, 8, 9, 10]
          dsimp only [keep, List.filterMap, look, Nat.beq, Option.map] at hf
          repeat refine seq ?_
          refine reg 6 Mix.mix hf (by decide +kernel) ?_
          refine st (ldW T37 rfl B9 rfl) ?_
          refine st (mv rfl) ?_
          refine st (mv rfl) ?_
          refine st (idxD Tryd.underlying43 S3 (isE rfl HA) rfl (by omega) (ga)) ?_
          refine st (ldI T3 (isR rfl)) ?_
          refine st (call2 En74 rfl rfl (fun v u w he h h' => by cases h; cases h'; exact with_spec _ _ w)) ?_
          refine en fun a w e' hf => ?_
          replace hT := hT.ext e'
          replace HV := Dv.ex HV e'
          replace HO := Dv.ex HO e'
          replace HA := Dv.ex HA e'
          replace hNw := Nat.le_trans hNw e'.size
          replace e := Ext.tr e e'
          replace B9 := B9.ext e'
          clear e'
          replace hf := hf.keep [0, 3, 4, 8, 9, 10, 127]
          dsimp only [keep, List.filterMap, look, Nat.beq, Option.map] at hf
          haveI hinr : ∀ G0, InR (GB W G0) (some b9) := fun G0 => InR.gb (by omega)
          refine tl_stW T37 hf rfl rfl (wordsC_one _) B9 rfl (rfl) fun w hg hsz B9 hf => ?_
          replace hT := hT.gr hg (by omega)
          replace HV := Dv.gr HV hg (by omega)
          replace HO := Dv.gr HO hg (by omega)
          replace HA := Dv.gr HA hg (by omega)
          replace hNw := Nat.le_trans hNw (Nat.le_of_eq hsz.symm)
          replace e := e.gr hg (by omega)
          clear hg
          refine tl_nil ?_
          replace B9 : Blk w b9 (setC (useto (balT t) (balAt t) i (k + 1))) 37 := by rw [hus]; exact B9
          try simp only [Exit.then, Exit.inBlock, ↓reduceIte]
          replace hf := hf.keep [0, 3, 4, 8, 9, 10]
          dsimp only [keep, List.filterMap, look, Nat.beq, Option.map] at hf
          repeat refine seq ?_
          refine regn 2 hf (by decide +kernel) ?_
          refine st (mv rfl) ?_
          refine st ((add rfl rfl (by omega)).eq (congrArg (Value.int .i64) (show (k : Int) + 1 = ((k + 1 : Nat) : Int) from rfl))) ?_
          refine en fun a w e' hf => ?_
          replace hT := hT.ext e'
          replace HV := Dv.ex HV e'
          replace HO := Dv.ex HO e'
          replace HA := Dv.ex HA e'
          replace hNw := Nat.le_trans hNw e'.size
          replace e := Ext.tr e e'
          replace B9 := B9.ext e'
          clear e'
          refine tl_as hf rfl (by decide) fun a hf => ?_
          refine tl_nil ?_
          replace hf := hf.keep [0, 3, 4, 8, 9, 10]
          dsimp only [keep, List.filterMap, look, Nat.beq, Option.map] at hf
          exact ⟨t.length - (k + 1), by omega, k + 1, rfl, by omega, hf, ⟨e, hT, hNw⟩, HV, HO, HA, B9⟩
        · rw [if_neg (by rw [hb]; decide)] at hus
          replace B9 : Blk w b9 (setC (useto (balT t) (balAt t) i (k + 1))) 37 := by rw [hus]; exact B9
          refine wskip ?_
          try simp only [Exit.then, Exit.inBlock, ↓reduceIte]
          replace hf := hf.keep [0, 3, 4, 8, 9, 10]
          dsimp only [keep, List.filterMap, look, Nat.beq, Option.map] at hf
          repeat refine seq ?_
          refine regn 2 hf (by decide +kernel) ?_
          refine st (mv rfl) ?_
          refine st ((add rfl rfl (by omega)).eq (congrArg (Value.int .i64) (show (k : Int) + 1 = ((k + 1 : Nat) : Int) from rfl))) ?_
          refine en fun a w e' hf => ?_
          replace hT := hT.ext e'
          replace HV := Dv.ex HV e'
          replace HO := Dv.ex HO e'
          replace HA := Dv.ex HA e'
          replace hNw := Nat.le_trans hNw e'.size
          replace e := Ext.tr e e'
          replace B9 := B9.ext e'
          clear e'
          refine tl_as hf rfl (by decide) fun a hf => ?_
          refine tl_nil ?_
          replace hf := hf.keep [0, 3, 4, 8, 9, 10]
          dsimp only [keep, List.filterMap, look, Nat.beq, Option.map] at hf
          exact ⟨t.length - (k + 1), by omega, k + 1, rfl, by omega, hf, ⟨e, hT, hNw⟩, HV, HO, HA, B9⟩
      · obtain rfl : k = t.length := by have := of_decide_eq_false hc; omega
        clear hc
        simp only [Exit.then, Exit.inBlock, ↓reduceIte]
        rw [hup] at B9
        replace hf := hf.keep [0, 3, 4, 8, 9]
        dsimp only [keep, List.filterMap, look, Nat.beq, Option.map] at hf
        exact ⟨trivial, hf, ⟨e, hT, hNw⟩, HV, HO, HA, B9⟩
    clear hf e hT hNw HV HO HA B9
    obtain ⟨hf, ⟨e, hT, hNw⟩, HV, HO, HA, B9⟩ := hJ
    try simp only [Exit.then]
    repeat refine seq ?_
    refine regn 6 hf (by decide +kernel) ?_
    refine st (mv rfl) ?_
    refine st (ldW T37 rfl B9 rfl) ?_
    refine st (call2 En67 rfl rfl (fun v u w he h h' => by cases h; cases h'; exact bou_spec t x.2 _ w (hT.ext he) (Dv.ex HV he) (by omega) hF)) ?_
    refine st (mv rfl) ?_
    refine st (ext_ rfl rfl) ?_
    refine st (ext_ rfl rfl) ?_
    refine en fun a w e' hf => ?_
    replace hT := hT.ext e'
    replace HV := Dv.ex HV e'
    replace HO := Dv.ex HO e'
    replace HA := Dv.ex HA e'
    replace hNw := Nat.le_trans hNw e'.size
    replace e := Ext.tr e e'
    replace B9 := B9.ext e'
    clear e'
    refine tl_alloc I37 hf (by decide) fun a b11 w e' hb11 hs11 B11 hf => ?_
    have hle11 := Nat.le_trans e.size (Nat.le_of_eq hb11.symm)
    have lo11_hNw := Nat.le_trans hNw (Nat.le_of_eq hb11.symm)
    have lt11_B9 := B9.lt
    replace hT := hT.ext e'
    replace HV := Dv.ex HV e'
    replace HO := Dv.ex HO e'
    replace HA := Dv.ex HA e'
    replace hNw := Nat.le_trans hNw e'.size
    replace e := Ext.tr e e'
    replace B9 := B9.ext e'
    clear e'
    rw [pe] at hf
    have n119 : b11 ≠ b9 := by have := B9.lt; omega
    have hN11 : N0 ≤ b11 := by omega
    replace hf := hf.keep [0, 3, 4, 8, 9, 11, 132, 133]
    dsimp only [keep, List.filterMap, look, Nat.beq, Option.map] at hf
    haveI hinr : ∀ G0, InR (GB W G0) (some b11) := fun G0 => InR.gb (by omega)
    refine tl_stW T37 hf rfl rfl (wordsC_one _) B11 rfl (rfl) fun w hg hsz B11 hf => ?_
    replace hT := hT.gr hg (by omega)
    replace HV := Dv.gr HV hg (by omega)
    replace HO := Dv.gr HO hg (by omega)
    replace HA := Dv.gr HA hg (by omega)
    replace hNw := Nat.le_trans hNw (Nat.le_of_eq hsz.symm)
    replace e := e.gr hg (by omega)
    replace B9 := B9.gr hg (by omega)
    clear hg
    refine tl_as hf rfl (by decide) fun a hf => ?_
    refine tl_nil ?_
    replace B11 : Blk w b11 (setC (bouR t x.2)) 37 := B11
    replace hf := hf.keep [0, 3, 4, 8, 11, 12]
    dsimp only [keep, List.filterMap, look, Nat.beq, Option.map] at hf
    repeat refine seq ?_
    refine regn 7 hf (by decide +kernel) ?_
    refine st (mv rfl) ?_
    refine st ((neq rfl rfl).eq (congrArg Value.bool (show ((0 : Int) != 0) = false from rfl))) ?_
    refine st (mv rfl) ?_
    first | refine sn rfl rfl rfl ?_ | refine su rfl rfl ?_ | refine sy rfl rfl (ldW T37 rfl B11 rfl) ?_
    first | refine sn rfl rfl rfl ?_ | refine su rfl rfl ?_ | refine sy rfl rfl (call1 En76 rfl (fun v w he h => by cases h; exact len_spec _ w)) ?_
    first | refine sn rfl rfl rfl ?_ | refine su rfl rfl ?_ | refine sy rfl rfl ((gtr rfl rfl).eq (congrArg Value.bool (decide_eq_false (by omega)))) ?_
    first | refine st (pkT rfl rfl) ?_ | refine st (pkF rfl rfl) ?_ | refine st (pk rfl rfl rfl) ?_
    refine en fun a w e' hf => ?_
    replace hT := hT.ext e'
    replace HV := Dv.ex HV e'
    replace HO := Dv.ex HO e'
    replace HA := Dv.ex HA e'
    replace hNw := Nat.le_trans hNw e'.size
    replace e := Ext.tr e e'
    replace B9 := B9.ext e'
    replace B11 := B11.ext e'
    clear e'
    refine tl_nil ?_
    repeat refine seq ?_
    refine ifc hf rfl (fun h => by cases h) (fun _ => ?_)
    refine wskip ?_
    try simp only [Exit.then, Exit.inBlock, ↓reduceIte]
    replace hf := hf.keep [0, 3, 4, 8]
    dsimp only [keep, List.filterMap, look, Nat.beq, Option.map] at hf
    repeat refine seq ?_
    refine regn 2 hf (by decide +kernel) ?_
    refine st (mv rfl) ?_
    refine st ((add rfl rfl (by omega)).eq (congrArg (Value.int .i64) (show (i : Int) + 1 = ((i + 1 : Nat) : Int) from rfl))) ?_
    refine en fun a w e' hf => ?_
    replace hT := hT.ext e'
    replace HV := Dv.ex HV e'
    replace HO := Dv.ex HO e'
    replace HA := Dv.ex HA e'
    replace hNw := Nat.le_trans hNw e'.size
    replace e := Ext.tr e e'
    replace B9 := B9.ext e'
    replace B11 := B11.ext e'
    clear e'
    refine tl_as hf rfl (by decide) fun a hf => ?_
    refine tl_nil ?_
    replace hf := hf.keep [0, 3, 4, 8]
    dsimp only [keep, List.filterMap, look, Nat.beq, Option.map] at hf
    exact ⟨t.length - (i + 1), by omega, i + 1, rfl, by omega, hf, ⟨e, hT, hNw⟩, HV, HO, HA⟩
  · clear hc
    simp only [Exit.then, Exit.inBlock, ↓reduceIte]
    replace hf := hf.keep [0]
    dsimp only [keep, List.filterMap, look, Nat.beq, Option.map] at hf
    repeat refine seq ?_
    refine regn 1 hf (by decide +kernel) ?_
    refine st (call0 En58 (fun w he => known_spec w (hT.ext he))) ?_
    refine en fun a w e' hf => ?_
    replace hT := hT.ext e'
    replace e := Ext.tr e e'
    clear e'
    refine tl_as hf rfl (by decide) fun a hf => ?_
    refine tl_nil ?_
    refine wret ?_
    try simp only [Exit.then, Exit.inBlock]
    refine ret1 rfl hf rfl ?_
    rintro _ rfl
    exact ⟨_, rfl, e, rfl⟩
end Go.Mono
