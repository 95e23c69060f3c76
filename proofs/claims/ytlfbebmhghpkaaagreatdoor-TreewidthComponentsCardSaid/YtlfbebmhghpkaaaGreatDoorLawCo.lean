/-
  XLawCo.
  No condition.
-/
import Derived.Test.YtlfbebmhghpkaaaGreatDoorVE
import Derived.Test.YtlfbebmhghpkaaaGreatDoorVF
set_option linter.unusedVariables false
set_option linter.unusedSimpArgs false
namespace Go.Mono
open Go Go.Proofs Go.RowKit Go.Gr
theorem of_elL (C : BS) : (elL C).foldl ins 0 = C := set_ext' fun i => by
  have h := natL_bit (elems C) (fun v hv => (mem_elems.1 hv).1) i
  exact h.trans ⟨fun h => (mem_elems.1 h).2, fun h => mem_elems.2 ⟨bit_lt h, h⟩⟩
theorem maxL_app (l : List Int) (x : Int) : maxL (l ++ [x]) = max (maxL l) x := by rw [maxL, List.foldl_append]; rfl
/-- Width at a small valid graph -/
def WidA (g : GT) : VA := Tup [E (I (twG g)), Dv (slE intE) Go.Mono.G0 (natL (widO g)), E (I 0)]
theorem wid_spec {G : Nat → Prop} {N : Nat} (g : GT) (ok : Gr.Ok g) (hl1 : g.1.length ≤ 12) (hl2 : g.2.length ≤ 100000) (hN : N ≤ 1000000) (v : Value) (W : World) (hT : Tab W) (h : (Dv (ptE (grE N)) G (some g)).p v W) : Calls Tryz.prog 7 #[v] W (Post (WidA g) W) :=
  widthG_spec g v W hT h ok.sv ok.se hl1 hl2 hN (sml_ok ok hl1 (all := vset g.1) fun i h => h) (Nat.le_trans (card_vset g) hl1) (K := Go.Mono.G0) fun b hb => hb.elim
theorem indu_spec {G : Nat → Prop} {N : Nat} (g : GT) (C : BS) (v : Value) (W : World) (h : (Dv (ptE (grE N)) G (some g)).p v W) (hl1 : g.1.length ≤ 1000) (hl2 : g.2.length ≤ 1000) (hN : N ≤ 1000000) :
    Calls Tryz.prog 9 #[v, setV C] W (Post (Dv (ptE (grE 2000)) Go.Mono.G0 (some (indG g C))) W) :=
  (induced_spec g C v W h (by omega) (by omega) hN).mono fun en w' ⟨bg, bv, be, k1, k2, k3, k4, k5, k6⟩ => ⟨_, k1, k2, k6.dv (by omega) (fun h => h) (fun h => h) (fun h => h)⟩
theorem ofEl_spec {G : Nat → Prop} (C : BS) (v : Value) (W : World) (h : (Dv (slE intE) G (elL C)).p v W) : Calls Tryz.prog 10 #[v] W (Post (E (setV C)) W) := by
  have := of_spec (elL C) v W h (Nat.le_trans (elL_len C) (by decide))
  rwa [of_elL] at this
theorem lawCo_spec {G : Nat → Prop} (g : GT) (l : List Int) (v uf : Value) (W : World) (hT : Tab W) (h : (Dv gtE G g).p v W) (hV : ∀ x ∈ g.1, 0 ≤ x.2.1 ∧ x.2.1 < 256) (hE : ∀ x ∈ g.2, 0 ≤ x.2.1 ∧ x.2.1 < 256) (h' : (Dv (slE intE) G l).p uf W) :
    Calls Tryz.prog 3 #[v, uf] W (Post (E (B true)) W) := by
  have hT0 := hT.lt
  obtain ⟨u1, u2, rfl, h1, h2⟩ := Dv.gt.1 (Dv.weak (G' := Go.Mono.G0) h fun b _ hb => hb.elim)
  have hg0 : (Dv gtE Go.Mono.G0 g).p (.agg #[u1, u2]) W := Dv.gt.2 ⟨_, _, rfl, h1, h2⟩
  have hl0 : (Dv (slE intE) Go.Mono.G0 l).p uf W := Dv.weak h' fun b _ hb => hb.elim
  clear h'
  refine enter (args := [.agg #[u1, u2], uf]) (As := [E (.agg #[u1, u2]), E uf]) Tryz.func3 rfl Tryz.ntmps3 (Nat.le_of_ble_eq_true rfl) ?_ (fun a hf => ?_) (Nat.le_of_ble_eq_true rfl)
  rotate_left
  dsimp only [params, Nat.reduceAdd] at hf
  rotate_right
  · exact arg2 rfl rfl
  have e := Ext.rfl' W
  repeat refine seq ?_
  refine regn0 ?_
  refine tl_box hf rfl (by decide) fun a b2 w v2 hv2 e' hb2 hs2 B2 hf => ?_
  have hle2 := Nat.le_trans e.size (Nat.le_of_eq hb2.symm)
  replace hT := hT.ext e'
  replace e := Ext.tr e e'
  clear e'
  refine tl_as hf rfl (by decide) fun a hf => ?_
  refine tl_nil ?_
  cases hv2
  have e1 := e
  repeat refine seq ?_
  refine regn 5 hf (by decide +kernel) ?_
  refine st ((ldW T25 rfl B2 rfl).eq ((rfl : _ = Value.agg #[u1, u2]))) ?_
  refine st (call2 (A := Tup [FrA g 9, Dv gtE Go.Mono.G0 (frW g 9).1]) En5 rfl rfl (fun v u w he k1 k2 => by cases k1; cases k2; exact from23_spec g 9 _ w (VA.st _ _ _ _ (Ext.tr e1 he) hg0) (by omega) hV hE)) ?_
  refine st (mv rfl) ?_
  refine st (ext_ rfl rfl) ?_
  refine st (ext_ rfl rfl) ?_
  refine en fun a w e' hf => ?_
  replace hT := hT.ext e'
  replace e := Ext.tr e e'
  replace B2 := B2.ext e'
  clear e'
  obtain ⟨z, hz, hf⟩ := hf.opn 23 rfl
  obtain ⟨z1, z2, rfl, hz1, hz2⟩ := Dv.gt.1 hz
  have hzo : (#[z1, z2] : Array Value).all (·.oneCell') = true := one2 (slOne hz1) (slOne hz2)
  obtain ⟨gv, hgv, hf⟩ := hf.opn 22 rfl
  obtain ⟨W1, hW1⟩ : ∃ W1, W1 = w := ⟨_, rfl⟩
  have e2 : Ext W1 w := by rw [hW1]; exact Ext.rfl' _
  replace hgv : (FrA g 9).p gv W1 := by rw [hW1]; exact hgv
  have hzz : (Dv gtE Go.Mono.G0 (frW g 9).1).p (.agg #[z1, z2]) W1 := by rw [hW1]; exact hz
  have hWW : W1.heap.size ≤ w.heap.size := e2.size
  have hW0 : W.heap.size ≤ W1.heap.size := by rw [hW1]; exact e.size
  clear hW1 hz hz1 hz2 B2 e1
  replace hf := hf.keep [1, 22, 23]
  dsimp only [keep, List.filterMap, look, Nat.beq, Option.map] at hf
  refine tl_alloc I25 hf (by decide) fun a b6 w e' hb6 hs6 B6 hf => ?_
  have hle6 := Nat.le_trans e.size (Nat.le_of_eq hb6.symm)
  replace hT := hT.ext e'
  replace e2 := Ext.tr e2 e'
  replace e := Ext.tr e e'
  clear e'
  have n6 : W1.heap.size ≤ b6 := by omega
  refine tl_as hf rfl (by decide) fun a hf => ?_
  refine tl_stW T25 hf rfl rfl hzo B6 rfl rfl fun w hg hsz B6 hf => ?_
  replace e := e.gr hg (by omega); replace hT := hT.gr hg (by omega); replace e2 := e2.gr hg n6; clear hg
  refine tl_nil ?_
  replace hf := hf.keep [1, 5, 6]
  dsimp only [keep, List.filterMap, look, Nat.beq, Option.map] at hf
  cases hfr' : (frW g 9).2 with
  | false =>
    obtain rfl := hgv.2 hfr'
    repeat refine seq ?_
    refine regn 7 hf (by decide +kernel) ?_
    refine st (mv rfl) ?_
    refine st (eqlPP Tryz.underlying27 rfl rfl (.inl rfl)) ?_
    refine st (mv rfl) ?_
    refine sn rfl rfl rfl ?_
    refine sn rfl rfl rfl ?_
    refine sn rfl rfl rfl ?_
    refine st (pkT rfl rfl) ?_
    refine en fun a w e' hf => ?_
    replace hT := hT.ext e'
    replace e2 := Ext.tr e2 e'
    replace e := Ext.tr e e'
    replace B6 := B6.ext e'
    clear e'
    refine tl_nil ?_
    repeat refine seq ?_
    refine ifc hf rfl (fun _ => ?_) (fun h => by cases h)
    repeat refine seq ?_
    refine regn 1 hf (by decide +kernel) ?_
    refine st (call0 (A := E (B true)) En6 (fun w he => known23_spec w (hT.ext he))) ?_
    refine en fun a w e' hf => ?_
    replace hT := hT.ext e'
    replace e2 := Ext.tr e2 e'
    replace e := Ext.tr e e'
    replace B6 := B6.ext e'
    clear e'
    refine tl_as hf rfl (by decide) fun a hf => ?_
    refine tl_nil ?_
    refine wret ?_
    try simp only [Exit.then, Exit.inBlock]
    refine ret1 rfl hf rfl ?_
    rintro _ rfl
    exact ⟨_, rfl, e, rfl⟩
  | true =>
    obtain ⟨ok, l1, l2⟩ := twOk hfr' hV hE (by omega)
    have hgd := hgv.1 hfr'
    have gs1 := ok.sv
    have gs2 := ok.se
    have hl1 : (frW g 9).1.1.length ≤ 12 := by omega
    have hcv := Nat.le_trans (card_vset (frW g 9).1) hl1
    generalize (frW g 9).1 = gg at ok l1 l2 hgd gs1 gs2 hl1 hcv
    by_cases hl5 : (20 : Int) < ((l.length : Nat) : Int)
    · repeat refine seq ?_
      refine regn 7 hf (by decide +kernel) ?_
      refine st (mv rfl) ?_
      refine st (eqlP Tryz.underlying27 (isE rfl (VA.st _ _ _ _ e2 hgd))) ?_
      refine st (mv rfl) ?_
      refine sy rfl rfl (mv rfl) ?_
      refine sy rfl rfl (lenD Tryz.underlying26 (isE rfl (VA.st _ _ _ _ e hl0))) ?_
      refine sy rfl rfl ((gtr rfl rfl).eq (congrArg Value.bool (decide_eq_true hl5))) ?_
      refine st (pkF rfl rfl) ?_
      refine en fun a w e' hf => ?_
      replace hT := hT.ext e'
      replace e2 := Ext.tr e2 e'
      replace e := Ext.tr e e'
      replace B6 := B6.ext e'
      clear e'
      refine tl_nil ?_
      repeat refine seq ?_
      refine ifc hf rfl (fun _ => ?_) (fun h => by cases h)
      repeat refine seq ?_
      refine regn 1 hf (by decide +kernel) ?_
      refine st (call0 (A := E (B true)) En6 (fun w he => known23_spec w (hT.ext he))) ?_
      refine en fun a w e' hf => ?_
      replace hT := hT.ext e'
      replace e2 := Ext.tr e2 e'
      replace e := Ext.tr e e'
      replace B6 := B6.ext e'
      clear e'
      refine tl_as hf rfl (by decide) fun a hf => ?_
      refine tl_nil ?_
      refine wret ?_
      try simp only [Exit.then, Exit.inBlock]
      refine ret1 rfl hf rfl ?_
      rintro _ rfl
      exact ⟨_, rfl, e, rfl⟩
    · repeat refine seq ?_
      refine regn 7 hf (by decide +kernel) ?_
      refine st (mv rfl) ?_
      refine st (eqlP Tryz.underlying27 (isE rfl (VA.st _ _ _ _ e2 hgd))) ?_
      refine st (mv rfl) ?_
      refine sy rfl rfl (mv rfl) ?_
      refine sy rfl rfl (lenD Tryz.underlying26 (isE rfl (VA.st _ _ _ _ e hl0))) ?_
      refine sy rfl rfl ((gtr rfl rfl).eq (congrArg Value.bool (decide_eq_false hl5))) ?_
      refine st (pkF rfl rfl) ?_
      refine en fun a w e' hf => ?_
      replace hT := hT.ext e'
      replace e2 := Ext.tr e2 e'
      replace e := Ext.tr e e'
      replace B6 := B6.ext e'
      clear e'
      refine tl_nil ?_
      repeat refine seq ?_
      refine ifc hf rfl (fun h => by cases h) (fun _ => ?_)
      refine wskip ?_
      try simp only [Exit.then, Exit.inBlock, ↓reduceIte]
      obtain ⟨ps, hps⟩ : ∃ ps, ps = prF (nbA gg) (card (vset gg.1)) (vset gg.1) := ⟨_, rfl⟩
      have hmx : twG gg = maxL (ps.map fun C => twG (indG gg C)) := by rw [hps]; exact tw_comps ok hl1 (Nat.le_refl _)
      have hpl : ps.length ≤ 1024 := by rw [hps]; exact Nat.le_trans (prF_len _ _ _) (card_le_1024 _)
      obtain ⟨n, hn⟩ : ∃ n, n = twG gg := ⟨_, rfl⟩
      have hi1 : ∀ C, (indG gg C).1.length ≤ 12 := fun C => Nat.le_trans (List.length_filter_le _ _) hl1
      have hi2 : ∀ C, (indG gg C).2.length ≤ 100000 := fun C => Nat.le_trans (List.length_filter_le _ _) (by omega)
      have hok : ∀ C, Gr.Ok (indG gg C) := fun C => indG_ok ok C
      have hle : ∀ C, twG (indG gg C) ≤ n := fun C => by rw [hn]; exact (indG_part ok C).le ok hl1
      rw [← hn] at hmx
      replace hf := hf.keep [1, 5]
      dsimp only [keep, List.filterMap, look, Nat.beq, Option.map] at hf
      have e4 := e2
      repeat refine seq ?_
      refine regn 6 hf (by decide +kernel) ?_
      refine st (mv rfl) ?_
      refine st (call1 (A := WidA gg) En7 rfl (fun v w he k => by cases k; exact wid_spec gg ok hl1 (by omega) (by omega) gv w (hT.ext he) (VA.st _ _ _ _ (Ext.tr e4 he) hgd))) ?_
      refine st (mv rfl) ?_
      refine st (ext_ rfl rfl) ?_
      refine st (ext_ rfl rfl) ?_
      refine st (ext_ rfl rfl) ?_
      refine en fun a w e' hf => ?_
      replace hT := hT.ext e'
      replace e2 := Ext.tr e2 e'
      replace e := Ext.tr e e'
      clear e'
      refine tl_as hf rfl (by decide) fun a hf => ?_
      refine tl_as hf rfl (by decide) fun a hf => ?_
      refine tl_as hf rfl (by decide) fun a hf => ?_
      refine tl_nil ?_
      replace hf := hf.upd 7 rfl (B := E (I n)) (fun v h => by rw [hn]; exact h)
      replace hf := hf.keep [1, 5, 7, 9]
      dsimp only [keep, List.filterMap, look, Nat.beq, Option.map] at hf
      have e5 := e2
      repeat refine seq ?_
      refine regn 2 hf (by decide +kernel) ?_
      refine st (mv rfl) ?_
      refine st (call1 (A := Dv (slE (slE intE)) Go.Mono.G0 (ps.map elL)) En8 rfl (fun v w he k => by cases k; rw [hps]; exact comps_spec gg gv w (hT.ext he) (VA.st _ _ _ _ (Ext.tr e5 he) hgd) gs1 gs2 (by omega) (by omega) (by omega))) ?_
      refine en fun a w e' hf => ?_
      replace hT := hT.ext e'
      replace e2 := Ext.tr e2 e'
      replace e := Ext.tr e e'
      clear e'
      refine tl_as hf rfl (by decide) fun a hf => ?_
      refine tl_nil ?_
      replace hf := hf.keep [1, 5, 7, 9, 10]
      dsimp only [keep, List.filterMap, look, Nat.beq, Option.map] at hf
      repeat refine seq ?_
      refine regn0 ?_
      refine tl_as hf rfl (by decide) fun a hf => ?_
      refine tl_nil ?_
      repeat refine seq ?_
      refine regn0 ?_
      refine tl_as hf rfl (by decide) fun a hf => ?_
      refine tl_nil ?_
      clear hps e4 e5 hn
      obtain ⟨Ls, hLs⟩ : ∃ Ls, Ls = ps.map elL := ⟨_, rfl⟩
      have hLl : Ls.length = ps.length := by rw [hLs, List.length_map]
      rw [← hLs] at hf
      obtain ⟨T, hTd⟩ : ∃ T, T = fun C => twG (indG gg C) := ⟨_, rfl⟩
      have hTC : ∀ C, twG (indG gg C) = T C := fun C => by rw [hTd]
      rw [← hTd] at hmx
      have hT1 : ∀ C, -1 ≤ T C := fun C => by rw [← hTC]; exact tw_lo _
      have hT2 : ∀ C, T C ≤ n := fun C => by rw [← hTC]; exact hle C
      replace hf := hf.keep [1, 5, 7, 9, 10, 11, 12]
      dsimp only [keep, List.filterMap, look, Nat.beq, Option.map] at hf
      repeat refine seq ?_
      refine blk (loopN (fun r0 a w => ∃ (j : Nat) , r0 = Ls.length - j ∧ j ≤ Ls.length ∧ Fr 91 a w [(1, E uf), (5, E gv), (7, E (I n)), (9, E (I 0)), (10, Dv (slE (slE intE)) Go.Mono.G0 Ls), (11, E (I (maxL ((ps.take j).map T)))), (12, E (I j))] ∧ Ext W w ∧ Tab w ∧ Ext W1 w) Ls.length ⟨0, rfl, by omega, hf, e, ⟨hT, e2⟩⟩ ?_)
      clear hf e; try clear hT; try clear e2
      rintro r0 a w ⟨j, rfl, hj, hf, e, hT, e2⟩
      repeat refine seq ?_
      refine regn 4 hf (by decide +kernel) ?_
      refine st (mv rfl) ?_
      refine st (mv rfl) ?_
      refine st (lenD Tryz.underlying34 (isR rfl)) ?_
      refine st (lss rfl rfl) ?_
      refine en fun a w e' hf => ?_
      replace hT := hT.ext e'
      replace e2 := Ext.tr e2 e'
      replace e := Ext.tr e e'
      clear e'
      refine tl_nil ?_
      repeat refine seq ?_
      refine ifc hf rfl (fun hc => wskip ?_) (fun hc => wexit ?_)
      rotate_left
      rotate_left
      · have hltj : j < Ls.length := by have := of_decide_eq_true hc; (try dsimp only at this); omega
        clear hc
        replace hf := hf.keep [1, 5, 7, 9, 10, 11, 12]
        dsimp only [keep, List.filterMap, look, Nat.beq, Option.map] at hf
        repeat refine seq ?_
        refine blk ?_
        have hjp : j < ps.length := by omega
        have hy := List.getElem?_eq_getElem hjp
        generalize ps[j] = C at hy
        have hy' : Ls[j]? = some (elL C) := by rw [hLs, List.getElem?_map, hy]; rfl
        have hsc : maxL ((ps.take (j + 1)).map T) = max (maxL ((ps.take j).map T)) (T C) := by rw [take_succ_get hy, List.map_append]; exact maxL_app _ _
        have e10 := e2
        repeat refine seq ?_
        refine regn 15 hf (by decide +kernel) ?_
        refine st (mv rfl) ?_
        refine st (mv rfl) ?_
        refine st (mv rfl) ?_
        refine st (idxD Tryz.underlying34 S26 (isR rfl) rfl (by omega) (hy')) ?_
        refine st (ldD T26 (isR rfl)) ?_
        refine st (call1 (A := E (setV C)) En10 rfl (fun v w he h => ofEl_spec C v w h)) ?_
        refine st (call2 (A := Dv (ptE (grE 2000)) Go.Mono.G0 (some (indG gg C))) (B := E gv) (C := E (setV C)) En9 rfl rfl (fun v u w he k1 k2 => by cases k1; cases k2; exact indu_spec gg C gv w (VA.st _ _ _ _ (Ext.tr e10 he) hgd) (by omega) l2 (by omega))) ?_
        refine st (call1 (A := WidA (indG gg C)) (B := Dv (ptE (grE 2000)) Go.Mono.G0 (some (indG gg C))) En7 rfl (fun v w he h => wid_spec _ (hok C) (hi1 C) (hi2 C) (by omega) v w (hT.ext he) h)) ?_
        refine st (mv rfl) ?_
        refine st (ext_ rfl rfl) ?_
        refine st (ext_ rfl rfl) ?_
        refine st (ext_ rfl rfl) ?_
        refine st (asg rfl) ?_
        refine st (asg rfl) ?_
        refine st (asg rfl) ?_
        refine en fun a w e' hf => ?_
        replace hT := hT.ext e'
        replace e2 := Ext.tr e2 e'
        replace e := Ext.tr e e'
        clear e'
        refine tl_nil ?_
        replace hf := hf.upd 13 rfl (B := E (I (T C))) (fun v h => by rw [← hTC]; exact h)
        replace hf := hf.keep [1, 5, 7, 9, 10, 11, 12, 13, 15]
        dsimp only [keep, List.filterMap, look, Nat.beq, Option.map] at hf
        repeat refine seq ?_
        refine regn 2 hf (by decide +kernel) ?_
        refine st (mv rfl) ?_
        refine st ((neq rfl rfl).eq (congrArg Value.bool (show ((0 : Int) != 0) = false from rfl))) ?_
        refine en fun a w e' hf => ?_
        replace hT := hT.ext e'
        replace e2 := Ext.tr e2 e'
        replace e := Ext.tr e e'
        clear e'
        refine tl_nil ?_
        repeat refine seq ?_
        refine ifc hf rfl (fun h => by cases h) (fun _ => ?_)
        refine wskip ?_
        try simp only [Exit.then, Exit.inBlock, ↓reduceIte]
        repeat refine seq ?_
        refine regn 3 hf (by decide +kernel) ?_
        refine st (mv rfl) ?_
        refine st (mv rfl) ?_
        refine st (max2 rfl rfl) ?_
        refine en fun a w e' hf => ?_
        replace hT := hT.ext e'
        replace e2 := Ext.tr e2 e'
        replace e := Ext.tr e e'
        clear e'
        refine tl_as hf rfl (by decide) fun a hf => ?_
        refine tl_nil ?_
        rw [← hsc] at hf
        try simp only [Exit.then, Exit.inBlock, ↓reduceIte]
        repeat refine seq ?_
        refine regn 2 hf (by decide +kernel) ?_
        refine st (mv rfl) ?_
        refine st ((add rfl rfl (by omega)).eq (congrArg (Value.int .i64) (show (j : Int) + 1 = ((j + 1 : Nat) : Int) from rfl))) ?_
        refine en fun a w e' hf => ?_
        replace hT := hT.ext e'
        replace e2 := Ext.tr e2 e'
        replace e := Ext.tr e e'
        clear e'
        refine tl_as hf rfl (by decide) fun a hf => ?_
        refine tl_nil ?_
        replace hf := hf.keep [1, 5, 7, 9, 10, 11, 12]
        dsimp only [keep, List.filterMap, look, Nat.beq, Option.map] at hf
        refine ⟨_, ?_, j + 1, rfl, by omega, hf, e, ?_⟩
        · omega
        exact ⟨hT, e2⟩
      · obtain rfl : j = Ls.length := by have := of_decide_eq_false hc; (try dsimp only at this); omega
        clear hc
        simp only [Exit.then, Exit.inBlock, ↓reduceIte]
        rw [hLl, List.take_length, ← hmx] at hf
        have hr4 : l.length ≤ 4096 := by omega
        obtain ⟨r, hr⟩ : ∃ r, r = l.foldl ins 0 := ⟨_, rfl⟩
        replace hf := hf.keep [1, 5, 7, 9, 11]
        dsimp only [keep, List.filterMap, look, Nat.beq, Option.map] at hf
        have e14 := e2
        have e15 := e
        repeat refine seq ?_
        refine regn 12 hf (by decide +kernel) ?_
        refine st (mv rfl) ?_
        refine st (mv rfl) ?_
        refine st (call1 (A := E (setV r)) En10 rfl (fun v w he k => by cases k; rw [hr]; exact of_spec l _ w (VA.st _ _ _ _ (Ext.tr e15 he) hl0) hr4)) ?_
        refine st (call2 (A := Dv (ptE (grE 2000)) Go.Mono.G0 (some (indG gg r))) (B := E gv) (C := E (setV r)) En9 rfl rfl (fun v u w he k1 k2 => by cases k1; cases k2; exact indu_spec gg r gv w (VA.st _ _ _ _ (Ext.tr e14 he) hgd) (by omega) l2 (by omega))) ?_
        refine st (call1 (A := WidA (indG gg r)) (B := Dv (ptE (grE 2000)) Go.Mono.G0 (some (indG gg r))) En7 rfl (fun v w he h => wid_spec _ (hok r) (hi1 r) (hi2 r) (by omega) v w (hT.ext he) h)) ?_
        refine st (mv rfl) ?_
        refine st (ext_ rfl rfl) ?_
        refine st (ext_ rfl rfl) ?_
        refine st (ext_ rfl rfl) ?_
        refine st (asg rfl) ?_
        refine st (asg rfl) ?_
        refine st (asg rfl) ?_
        refine en fun a w e' hf => ?_
        replace hT := hT.ext e'
        replace e2 := Ext.tr e2 e'
        replace e := Ext.tr e e'
        clear e'
        refine tl_nil ?_
        replace hf := hf.upd 16 rfl (B := E (I (T r))) (fun v h => by rw [← hTC]; exact h)
        replace hf := hf.keep [7, 9, 11, 16, 18]
        dsimp only [keep, List.filterMap, look, Nat.beq, Option.map] at hf
        repeat refine seq ?_
        refine regn 19 hf (by decide +kernel) ?_
        refine st (mv rfl) ?_
        refine st ((eql rfl rfl).eq (congrArg Value.bool (show ((0 : Int) == 0) = true from rfl))) ?_
        refine st (mv rfl) ?_
        refine sy rfl rfl (mv rfl) ?_
        refine sy rfl rfl (mv rfl) ?_
        refine sy rfl rfl ((eql rfl rfl).eq (congrArg Value.bool ((beq_self_eq_true n : (n == n) = true)))) ?_
        refine st (pkT rfl rfl) ?_
        refine st (mv rfl) ?_
        refine sy rfl rfl (mv rfl) ?_
        refine sy rfl rfl ((eql rfl rfl).eq (congrArg Value.bool (show ((0 : Int) == 0) = true from rfl))) ?_
        refine st (pkT rfl rfl) ?_
        refine st (mv rfl) ?_
        refine sy rfl rfl (mv rfl) ?_
        refine sy rfl rfl (mv rfl) ?_
        refine sy rfl rfl ((leq rfl rfl).eq (congrArg Value.bool (decide_eq_true (hT2 r)))) ?_
        refine st (pkT rfl rfl) ?_
        refine st (mv rfl) ?_
        refine sy rfl rfl (call0 (A := E (B true)) En6 (fun w he => known23_spec w (hT.ext he))) ?_
        refine st (pkT rfl rfl) ?_
        refine en fun a w e' hf => ?_
        replace hT := hT.ext e'
        replace e2 := Ext.tr e2 e'
        replace e := Ext.tr e e'
        clear e'
        refine tl_as hf rfl (by decide) fun a hf => ?_
        refine tl_nil ?_
        refine wret ?_
        try simp only [Exit.then, Exit.inBlock]
        refine ret1 rfl hf rfl ?_
        rintro _ rfl
        exact ⟨_, rfl, e, rfl⟩
end Go.Mono
