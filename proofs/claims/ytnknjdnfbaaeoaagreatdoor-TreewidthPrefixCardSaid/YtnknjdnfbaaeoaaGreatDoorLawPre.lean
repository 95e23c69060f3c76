/-
  XLawPre.
  No condition.
-/
import Derived.Test.YtnknjdnfbaaeoaaGreatDoorDF
set_option linter.unusedVariables false
set_option linter.unusedSimpArgs false
namespace Go.Mono
open Go Go.Proofs Go.RowKit Go.Gr
theorem lawPre_spec {G : Nat → Prop} (g : GT) (l : List Int) (v uf : Value) (W : World) (hT : Tab W) (h : (Dv gtE G g).p v W) (hV : ∀ x ∈ g.1, 0 ≤ x.2.1 ∧ x.2.1 < 256) (hE : ∀ x ∈ g.2, 0 ≤ x.2.1 ∧ x.2.1 < 256) (h' : (Dv (slE intE) G l).p uf W) :
    Calls Tryz.prog 8 #[v, uf] W (Post (E (B true)) W) := by
  have hT0 := hT.lt
  obtain ⟨u1, u2, rfl, h1, h2⟩ := Dv.gt.1 (Dv.weak (G' := Go.Mono.G0) h fun b _ hb => hb.elim)
  have hg0 : (Dv gtE Go.Mono.G0 g).p (.agg #[u1, u2]) W := Dv.gt.2 ⟨_, _, rfl, h1, h2⟩
  have hl0 : (Dv (slE intE) Go.Mono.G0 l).p uf W := Dv.weak h' fun b _ hb => hb.elim
  clear h'
  refine enter (args := [.agg #[u1, u2], uf]) (As := [E (.agg #[u1, u2]), E uf]) Tryz.func8 rfl Tryz.ntmps8 (Nat.le_of_ble_eq_true rfl) ?_ (fun a hf => ?_) (Nat.le_of_ble_eq_true rfl)
  rotate_left
  dsimp only [params, Nat.reduceAdd] at hf
  rotate_right
  · exact arg2 rfl rfl
  have e := Ext.rfl' W
  repeat refine seq ?_
  refine regn0 ?_
  refine tl_box hf rfl (by decide) fun a b2 w v2 hv2 e' hb2 hs2 B2 hf => ?_
  have hle2 := Nat.le_trans e.size (Nat.le_of_eq hb2.symm)
  replace hT := hT.ext e'
  replace e := Ext.tr e e'
  clear e'
  refine tl_as hf rfl (by decide) fun a hf => ?_
  refine tl_nil ?_
  cases hv2
  have e1 := e
  repeat refine seq ?_
  refine regn 5 hf (by decide +kernel) ?_
  refine st ((ldW T25 rfl B2 rfl).eq ((rfl : _ = Value.agg #[u1, u2]))) ?_
  refine st (call2 (A := Tup [FrA g 9, Dv gtE Go.Mono.G0 (frW g 9).1]) En9 rfl rfl (fun v u w he k1 k2 => by cases k1; cases k2; exact from23_spec g 9 _ w (VA.st _ _ _ _ (Ext.tr e1 he) hg0) (by omega) hV hE)) ?_
  refine st (mv rfl) ?_
  refine st (ext_ rfl rfl) ?_
  refine st (ext_ rfl rfl) ?_
  refine en fun a w e' hf => ?_
  replace hT := hT.ext e'
  replace e := Ext.tr e e'
  replace B2 := B2.ext e'
  clear e'
  obtain ⟨z, hz, hf⟩ := hf.opn 16 rfl
  obtain ⟨z1, z2, rfl, hz1, hz2⟩ := Dv.gt.1 hz
  have hzo : (#[z1, z2] : Array Value).all (·.oneCell') = true := one2 (slOne hz1) (slOne hz2)
  obtain ⟨gv, hgv, hf⟩ := hf.opn 15 rfl
  obtain ⟨W1, hW1⟩ : ∃ W1, W1 = w := ⟨_, rfl⟩
  have e2 : Ext W1 w := by rw [hW1]; exact Ext.rfl' _
  replace hgv : (FrA g 9).p gv W1 := by rw [hW1]; exact hgv
  have hzz : (Dv gtE Go.Mono.G0 (frW g 9).1).p (.agg #[z1, z2]) W1 := by rw [hW1]; exact hz
  have hWW : W1.heap.size ≤ w.heap.size := e2.size
  have hW0 : W.heap.size ≤ W1.heap.size := by rw [hW1]; exact e.size
  clear hW1 hz hz1 hz2 B2 e1
  replace hf := hf.keep [1, 15, 16]
  dsimp only [keep, List.filterMap, look, Nat.beq, Option.map] at hf
  refine tl_alloc I25 hf (by decide) fun a b6 w e' hb6 hs6 B6 hf => ?_
  have hle6 := Nat.le_trans e.size (Nat.le_of_eq hb6.symm)
  replace hT := hT.ext e'
  replace e2 := Ext.tr e2 e'
  replace e := Ext.tr e e'
  clear e'
  have n6 : W1.heap.size ≤ b6 := by omega
  refine tl_as hf rfl (by decide) fun a hf => ?_
  refine tl_stW T25 hf rfl rfl hzo B6 rfl rfl fun w hg hsz B6 hf => ?_
  replace e := e.gr hg (by omega); replace hT := hT.gr hg (by omega); replace e2 := e2.gr hg n6; clear hg
  refine tl_nil ?_
  replace hf := hf.keep [1, 5, 6]
  dsimp only [keep, List.filterMap, look, Nat.beq, Option.map] at hf
  cases hfr' : (frW g 9).2 with
  | false =>
    obtain rfl := hgv.2 hfr'
    repeat refine seq ?_
    refine regn 7 hf (by decide +kernel) ?_
    refine st (mv rfl) ?_
    refine st (eqlPP Tryz.underlying26 rfl rfl (.inl rfl)) ?_
    refine st (mv rfl) ?_
    refine sn rfl rfl rfl ?_
    refine sn rfl rfl rfl ?_
    refine sn rfl rfl rfl ?_
    refine st (pkT rfl rfl) ?_
    refine en fun a w e' hf => ?_
    replace hT := hT.ext e'
    replace e2 := Ext.tr e2 e'
    replace e := Ext.tr e e'
    replace B6 := B6.ext e'
    clear e'
    refine tl_nil ?_
    repeat refine seq ?_
    refine ifc hf rfl (fun _ => ?_) (fun h => by cases h)
    repeat refine seq ?_
    refine regn 1 hf (by decide +kernel) ?_
    refine st (call0 (A := E (B true)) En10 (fun w he => known23_spec w (hT.ext he))) ?_
    refine en fun a w e' hf => ?_
    replace hT := hT.ext e'
    replace e2 := Ext.tr e2 e'
    replace e := Ext.tr e e'
    replace B6 := B6.ext e'
    clear e'
    refine tl_as hf rfl (by decide) fun a hf => ?_
    refine tl_nil ?_
    refine wret ?_
    try simp only [Exit.then, Exit.inBlock]
    refine ret1 rfl hf rfl ?_
    rintro _ rfl
    exact ⟨_, rfl, e, rfl⟩
  | true =>
    obtain ⟨ok, l1, l2⟩ := twOk hfr' hV hE (by omega)
    have hgd := hgv.1 hfr'
    have gs1 := ok.sv
    have gs2 := ok.se
    have hl1 : (frW g 9).1.1.length ≤ 12 := by omega
    have hcv := Nat.le_trans (card_vset (frW g 9).1) hl1
    generalize (frW g 9).1 = gg at ok l1 l2 hgd gs1 gs2 hl1 hcv hzz
    by_cases hl5 : (5 : Int) < ((l.length : Nat) : Int)
    · repeat refine seq ?_
      refine regn 7 hf (by decide +kernel) ?_
      refine st (mv rfl) ?_
      refine st (eqlP Tryz.underlying26 (isE rfl (VA.st _ _ _ _ e2 hgd))) ?_
      refine st (mv rfl) ?_
      refine sy rfl rfl (mv rfl) ?_
      refine sy rfl rfl (lenD Tryz.underlying30 (isE rfl (VA.st _ _ _ _ e hl0))) ?_
      refine sy rfl rfl ((gtr rfl rfl).eq (congrArg Value.bool (decide_eq_true hl5))) ?_
      refine st (pkF rfl rfl) ?_
      refine en fun a w e' hf => ?_
      replace hT := hT.ext e'
      replace e2 := Ext.tr e2 e'
      replace e := Ext.tr e e'
      replace B6 := B6.ext e'
      clear e'
      refine tl_nil ?_
      repeat refine seq ?_
      refine ifc hf rfl (fun _ => ?_) (fun h => by cases h)
      repeat refine seq ?_
      refine regn 1 hf (by decide +kernel) ?_
      refine st (call0 (A := E (B true)) En10 (fun w he => known23_spec w (hT.ext he))) ?_
      refine en fun a w e' hf => ?_
      replace hT := hT.ext e'
      replace e2 := Ext.tr e2 e'
      replace e := Ext.tr e e'
      replace B6 := B6.ext e'
      clear e'
      refine tl_as hf rfl (by decide) fun a hf => ?_
      refine tl_nil ?_
      refine wret ?_
      try simp only [Exit.then, Exit.inBlock]
      refine ret1 rfl hf rfl ?_
      rintro _ rfl
      exact ⟨_, rfl, e, rfl⟩
    · repeat refine seq ?_
      refine regn 7 hf (by decide +kernel) ?_
      refine st (mv rfl) ?_
      refine st (eqlP Tryz.underlying26 (isE rfl (VA.st _ _ _ _ e2 hgd))) ?_
      refine st (mv rfl) ?_
      refine sy rfl rfl (mv rfl) ?_
      refine sy rfl rfl (lenD Tryz.underlying30 (isE rfl (VA.st _ _ _ _ e hl0))) ?_
      refine sy rfl rfl ((gtr rfl rfl).eq (congrArg Value.bool (decide_eq_false hl5))) ?_
      refine st (pkF rfl rfl) ?_
      refine en fun a w e' hf => ?_
      replace hT := hT.ext e'
      replace e2 := Ext.tr e2 e'
      replace e := Ext.tr e e'
      replace B6 := B6.ext e'
      clear e'
      refine tl_nil ?_
      repeat refine seq ?_
      refine ifc hf rfl (fun h => by cases h) (fun _ => ?_)
      refine wskip ?_
      try simp only [Exit.then, Exit.inBlock, ↓reduceIte]
      obtain ⟨r, hr⟩ : ∃ r, r = l.foldl ins 0 := ⟨_, rfl⟩
      have hcr : card r ≤ 5 := by
        have := card_foldl l 0
        rw [card_zero, ← hr] at this
        omega
      have e4 := e
      repeat refine seq ?_
      refine regn 2 hf (by decide +kernel) ?_
      refine st (mv rfl) ?_
      refine st (call1 (A := E (setV r)) En22 rfl (fun v w he k => by cases k; rw [hr]; exact of_spec l _ w (VA.st _ _ _ _ (Ext.tr e4 he) hl0) (by omega))) ?_
      refine en fun a w e' hf => ?_
      replace hT := hT.ext e'
      replace e2 := Ext.tr e2 e'
      replace e := Ext.tr e e'
      replace B6 := B6.ext e'
      clear e'
      replace hf := hf.keep [5, 6, 26]
      dsimp only [keep, List.filterMap, look, Nat.beq, Option.map] at hf
      have l6 := B6.lt
      have hW2 := e2.size
      refine tl_alloc I41 hf (by decide) fun a b7 w e' hb7 hs7 B7 hf => ?_
      have hle7 := Nat.le_trans e.size (Nat.le_of_eq hb7.symm)
      have lt7_B6 := B6.lt
      replace hT := hT.ext e'
      replace e2 := Ext.tr e2 e'
      replace e := Ext.tr e e'
      replace B6 := B6.ext e'
      clear e'
      simp only [Value.cells, zeroC] at B7
      have n7 : W1.heap.size ≤ b7 ∧ b6 ≠ b7 := by omega
      refine tl_stW T41 hf rfl rfl (wordsC_one _) B7 rfl (setC_size _) fun w hg hsz B7 hf => ?_
      replace e := e.gr hg (by omega); replace hT := hT.gr hg (by omega); replace e2 := e2.gr hg (by omega); replace B6 := B6.gr hg (by omega); clear hg e4 l6 hW2
      refine tl_nil ?_
      replace hf := hf.keep [5, 6, 7]
      dsimp only [keep, List.filterMap, look, Nat.beq, Option.map] at hf
      have e5 := e2
      by_cases hsub : r &&& ~~~(vset gg.1) = 0
      · have hrV : ∀ i, r.getLsbD i = true → (vset gg.1).getLsbD i = true := fun i hi => Classical.byContradiction fun hn => by
          have h5 : (r &&& ~~~(vset gg.1)).getLsbD i = true := (bit_diff _ _ _).2 ⟨hi, hn⟩
          rw [hsub] at h5; exact bit_zero _ h5
        have hls := least_is ok hl1 hrV
        obtain ⟨c, hcw⟩ : ∃ c, c = rsR (nbA gg) r 0 := ⟨_, rfl⟩
        rw [← hcw] at hls
        have hln : (natL (elems r)).length ≤ 9 := by rw [natL, List.length_map, card_elems]; omega
        have hnin := natL_in ok (l := elems r) fun i hi => hrV i (mem_elems.1 hi).2
        obtain ⟨lr, hlr⟩ : ∃ lr, lr = natL (elems r) := ⟨_, rfl⟩
        obtain ⟨od, hod⟩ : ∃ od, od = natL (grF (nbA gg) r c (card r) 0) := ⟨_, rfl⟩
        rw [← hlr, ← hod] at hls
        rw [← hlr] at hln hnin
        clear hod
        repeat refine seq ?_
        refine regn 6 hf (by decide +kernel) ?_
        refine st (mv rfl) ?_
        refine st ((ldW T41 rfl B7 rfl).eq ((rfl : _ = setV r))) ?_
        refine st (call2 (A := Tup [E (I c), E (I 0)]) En20 rfl rfl (fun v u w he k1 k2 => by cases k1; cases k2; have := prefix_spec gg r gv w (hT.ext he) (VA.st _ _ _ _ (Ext.tr e5 he) hgd) gs1 gs2 hl1 (by omega) (by omega) hcv; rwa [if_pos hsub, if_pos hsub, ← hcw] at this)) ?_
        refine st (mv rfl) ?_
        refine st (ext_ rfl rfl) ?_
        refine st (ext_ rfl rfl) ?_
        refine en fun a w e' hf => ?_
        replace hT := hT.ext e'
        replace e2 := Ext.tr e2 e'
        replace e := Ext.tr e e'
        replace B6 := B6.ext e'
        replace B7 := B7.ext e'
        clear e'
        refine tl_as hf rfl (by decide) fun a hf => ?_
        refine tl_as hf rfl (by decide) fun a hf => ?_
        refine tl_nil ?_
        replace hf := hf.keep [5, 6, 7, 8, 9]
        dsimp only [keep, List.filterMap, look, Nat.beq, Option.map] at hf
        have e6 := e2
        repeat refine seq ?_
        refine reg 5 Mix.mix hf (by decide +kernel) ?_
        refine st ((ldW T41 rfl B7 rfl).eq ((rfl : _ = setV r))) ?_
        refine st (mv rfl) ?_
        refine st (call1 (A := E (setV (vset gg.1))) En16 rfl (fun v w he k => by cases k; exact vertexSet_spec gg _ w (VA.st _ _ _ _ (Ext.tr e6 he) hgd) gs1 (by omega) (by omega))) ?_
        refine st (call2 (A := E (B true)) En30 rfl rfl (fun v u w he h h' => by cases h; cases h'; have := subset_spec r (vset gg.1) w; rwa [show (r &&& ~~~(vset gg.1) == 0) = true from beq_iff_eq.2 hsub] at this)) ?_
        refine st (notp rfl) ?_
        refine en fun a w e' hf => ?_
        replace hT := hT.ext e'
        replace e2 := Ext.tr e2 e'
        replace e := Ext.tr e e'
        replace B6 := B6.ext e'
        replace B7 := B7.ext e'
        clear e'
        refine tl_nil ?_
        repeat refine seq ?_
        refine ifc hf rfl (fun h => by cases h) (fun _ => ?_)
        refine wskip ?_
        try simp only [Exit.then, Exit.inBlock, ↓reduceIte]
        replace hf := hf.keep [6, 7, 8, 9]
        dsimp only [keep, List.filterMap, look, Nat.beq, Option.map] at hf
        have e7 := e2
        repeat refine seq ?_
        refine reg 9 Mix.mix hf (by decide +kernel) ?_
        refine st ((ldW T25 rfl B6 rfl).eq ((rfl : _ = Value.agg #[z1, z2]))) ?_
        refine st ((ldW T41 rfl B7 rfl).eq ((rfl : _ = setV r))) ?_
        refine st (call1 (A := Dv (slE intE) Go.Mono.G0 lr) En26 rfl (fun v w he k => by cases k; rw [hlr]; exact elements_spec r w (hT.ext he))) ?_
        refine st (call2 (A := Tup [E (I c), Dv (slE intE) Go.Mono.G0 od]) En12 rfl rfl (fun v u w he k1 k2 => by cases k1; have := least_spec gg lr _ u w (VA.st _ _ _ _ (Ext.tr e7 he) hzz) k2 (by omega) (by omega) hln hnin; rwa [hls] at this)) ?_
        refine st (mv rfl) ?_
        refine st (ext_ rfl rfl) ?_
        refine st (ext_ rfl rfl) ?_
        refine st (asg rfl) ?_
        refine st (asg rfl) ?_
        refine en fun a w e' hf => ?_
        replace hT := hT.ext e'
        replace e2 := Ext.tr e2 e'
        replace e := Ext.tr e e'
        replace B6 := B6.ext e'
        replace B7 := B7.ext e'
        clear e'
        refine tl_nil ?_
        replace hf := hf.keep [8, 9, 10]
        dsimp only [keep, List.filterMap, look, Nat.beq, Option.map] at hf
        repeat refine seq ?_
        refine regn 10 hf (by decide +kernel) ?_
        refine st (mv rfl) ?_
        refine st (mv rfl) ?_
        refine st ((eql rfl rfl).eq (congrArg Value.bool ((beq_self_eq_true _ : (c == c) = true)))) ?_
        refine st (mv rfl) ?_
        refine sy rfl rfl (mv rfl) ?_
        refine sy rfl rfl ((eql rfl rfl).eq (congrArg Value.bool (show ((0 : Int) == 0) = true from rfl))) ?_
        refine st (pkT rfl rfl) ?_
        refine st (mv rfl) ?_
        refine sy rfl rfl (call0 (A := E (B true)) En10 (fun w he => known23_spec w (hT.ext he))) ?_
        refine st (pkT rfl rfl) ?_
        refine en fun a w e' hf => ?_
        replace hT := hT.ext e'
        replace e2 := Ext.tr e2 e'
        replace e := Ext.tr e e'
        replace B6 := B6.ext e'
        replace B7 := B7.ext e'
        clear e'
        refine tl_as hf rfl (by decide) fun a hf => ?_
        refine tl_nil ?_
        refine wret ?_
        try simp only [Exit.then, Exit.inBlock]
        refine ret1 rfl hf rfl ?_
        rintro _ rfl
        exact ⟨_, rfl, e, rfl⟩
      · repeat refine seq ?_
        refine regn 6 hf (by decide +kernel) ?_
        refine st (mv rfl) ?_
        refine st ((ldW T41 rfl B7 rfl).eq ((rfl : _ = setV r))) ?_
        refine st (call2 (A := Tup [E (I 0), E (I 9)]) En20 rfl rfl (fun v u w he k1 k2 => by cases k1; cases k2; have := prefix_spec gg r gv w (hT.ext he) (VA.st _ _ _ _ (Ext.tr e5 he) hgd) gs1 gs2 hl1 (by omega) (by omega) hcv; rwa [if_neg hsub, if_neg hsub] at this)) ?_
        refine st (mv rfl) ?_
        refine st (ext_ rfl rfl) ?_
        refine st (ext_ rfl rfl) ?_
        refine en fun a w e' hf => ?_
        replace hT := hT.ext e'
        replace e2 := Ext.tr e2 e'
        replace e := Ext.tr e e'
        replace B6 := B6.ext e'
        replace B7 := B7.ext e'
        clear e'
        refine tl_as hf rfl (by decide) fun a hf => ?_
        refine tl_as hf rfl (by decide) fun a hf => ?_
        refine tl_nil ?_
        replace hf := hf.keep [5, 6, 7, 8, 9]
        dsimp only [keep, List.filterMap, look, Nat.beq, Option.map] at hf
        have e6 := e2
        repeat refine seq ?_
        refine reg 5 Mix.mix hf (by decide +kernel) ?_
        refine st ((ldW T41 rfl B7 rfl).eq ((rfl : _ = setV r))) ?_
        refine st (mv rfl) ?_
        refine st (call1 (A := E (setV (vset gg.1))) En16 rfl (fun v w he k => by cases k; exact vertexSet_spec gg _ w (VA.st _ _ _ _ (Ext.tr e6 he) hgd) gs1 (by omega) (by omega))) ?_
        refine st (call2 (A := E (B false)) En30 rfl rfl (fun v u w he h h' => by cases h; cases h'; have := subset_spec r (vset gg.1) w; rwa [show (r &&& ~~~(vset gg.1) == 0) = false from beq_eq_false_iff_ne.2 hsub] at this)) ?_
        refine st (notp rfl) ?_
        refine en fun a w e' hf => ?_
        replace hT := hT.ext e'
        replace e2 := Ext.tr e2 e'
        replace e := Ext.tr e e'
        replace B6 := B6.ext e'
        replace B7 := B7.ext e'
        clear e'
        refine tl_nil ?_
        repeat refine seq ?_
        refine ifc hf rfl (fun _ => ?_) (fun h => by cases h)
        replace hf := hf.keep [8, 9]
        dsimp only [keep, List.filterMap, look, Nat.beq, Option.map] at hf
        repeat refine seq ?_
        refine regn 9 hf (by decide +kernel) ?_
        refine st (mv rfl) ?_
        refine st ((eql rfl rfl).eq (congrArg Value.bool (show ((0 : Int) == 0) = true from rfl))) ?_
        refine st (mv rfl) ?_
        refine sy rfl rfl (mv rfl) ?_
        refine sy rfl rfl ((eql rfl rfl).eq (congrArg Value.bool (show ((9 : Int) == 9) = true from rfl))) ?_
        refine st (pkT rfl rfl) ?_
        refine st (mv rfl) ?_
        refine sy rfl rfl (call0 (A := E (B true)) En10 (fun w he => known23_spec w (hT.ext he))) ?_
        refine st (pkT rfl rfl) ?_
        refine en fun a w e' hf => ?_
        replace hT := hT.ext e'
        replace e2 := Ext.tr e2 e'
        replace e := Ext.tr e e'
        replace B6 := B6.ext e'
        replace B7 := B7.ext e'
        clear e'
        refine tl_as hf rfl (by decide) fun a hf => ?_
        refine tl_nil ?_
        refine wret ?_
        try simp only [Exit.then, Exit.inBlock]
        refine ret1 rfl hf rfl ?_
        rintro _ rfl
        exact ⟨_, rfl, e, rfl⟩
end Go.Mono
