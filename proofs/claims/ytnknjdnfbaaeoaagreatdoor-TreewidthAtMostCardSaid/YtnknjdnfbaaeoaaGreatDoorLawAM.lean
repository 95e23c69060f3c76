/-
  XLawAM.
  No condition.
-/
import Derived.Test.YtnknjdnfbaaeoaaGreatDoorAE
set_option linter.unusedVariables false
set_option linter.unusedSimpArgs false
namespace Go.Mono
open Go Go.Proofs Go.RowKit Go.Gr
theorem lawAM_spec {G : Nat → Prop} (g : GT) (k : Int) (v : Value) (W : World) (hT : Tab W) (h : (Dv gtE G g).p v W) (hV : ∀ x ∈ g.1, 0 ≤ x.2.1 ∧ x.2.1 < 256) (hE : ∀ x ∈ g.2, 0 ≤ x.2.1 ∧ x.2.1 < 256) :
    Calls Tryz.prog 5 #[v, I k] W (Post (E (B true)) W) := by
  have hT0 := hT.lt
  obtain ⟨u1, u2, rfl, h1, h2⟩ := Dv.gt.1 (Dv.weak (G' := Go.Mono.G0) h fun b _ hb => hb.elim)
  have hg0 : (Dv gtE Go.Mono.G0 g).p (.agg #[u1, u2]) W := Dv.gt.2 ⟨_, _, rfl, h1, h2⟩
  refine enter (args := [.agg #[u1, u2], I k]) (As := [E (.agg #[u1, u2]), E (I k)]) Tryz.func5 rfl Tryz.ntmps5 (Nat.le_of_ble_eq_true rfl) ?_ (fun a hf => ?_) (Nat.le_of_ble_eq_true rfl)
  rotate_left
  dsimp only [params, Nat.reduceAdd] at hf
  rotate_right
  · exact arg2 rfl rfl
  have e := Ext.rfl' W
  repeat refine seq ?_
  refine regn0 ?_
  refine tl_box hf rfl (by decide) fun a b2 w v2 hv2 e' hb2 hs2 B2 hf => ?_
  have hle2 := Nat.le_trans e.size (Nat.le_of_eq hb2.symm)
  replace hT := hT.ext e'
  replace e := Ext.tr e e'
  clear e'
  refine tl_as hf rfl (by decide) fun a hf => ?_
  refine tl_nil ?_
  cases hv2
  have e1 := e
  repeat refine seq ?_
  refine regn 5 hf (by decide +kernel) ?_
  refine st ((ldW T25 rfl B2 rfl).eq ((rfl : _ = Value.agg #[u1, u2]))) ?_
  refine st (call2 (A := Tup [FrA g 9, Dv gtE Go.Mono.G0 (frW g 9).1]) En9 rfl rfl (fun v u w he k1 k2 => by cases k1; cases k2; exact from23_spec g 9 _ w (VA.st _ _ _ _ (Ext.tr e1 he) hg0) (by omega) hV hE)) ?_
  refine st (mv rfl) ?_
  refine st (ext_ rfl rfl) ?_
  refine st (ext_ rfl rfl) ?_
  refine en fun a w e' hf => ?_
  replace hT := hT.ext e'
  replace e := Ext.tr e e'
  replace B2 := B2.ext e'
  clear e'
  obtain ⟨z, hz, hf⟩ := hf.opn 16 rfl
  obtain ⟨z1, z2, rfl, hz1, hz2⟩ := Dv.gt.1 hz
  have hzo : (#[z1, z2] : Array Value).all (·.oneCell') = true := one2 (slOne hz1) (slOne hz2)
  obtain ⟨gv, hgv, hf⟩ := hf.opn 15 rfl
  obtain ⟨W1, hW1⟩ : ∃ W1, W1 = w := ⟨_, rfl⟩
  have e2 : Ext W1 w := by rw [hW1]; exact Ext.rfl' _
  replace hgv : (FrA g 9).p gv W1 := by rw [hW1]; exact hgv
  have hWW : W1.heap.size ≤ w.heap.size := e2.size
  clear hW1 hz hz1 hz2 B2
  replace hf := hf.keep [1, 15, 16]
  dsimp only [keep, List.filterMap, look, Nat.beq, Option.map] at hf
  refine tl_alloc I25 hf (by decide) fun a b6 w e' hb6 hs6 B6 hf => ?_
  have hle6 := Nat.le_trans e.size (Nat.le_of_eq hb6.symm)
  replace hT := hT.ext e'
  replace e2 := Ext.tr e2 e'
  replace e := Ext.tr e e'
  clear e'
  have n6 : W1.heap.size ≤ b6 := by omega
  refine tl_as hf rfl (by decide) fun a hf => ?_
  refine tl_stW T25 hf rfl rfl hzo B6 rfl rfl fun w hg hsz B6 hf => ?_
  replace e := e.gr hg (by omega); replace hT := hT.gr hg (by omega); replace e2 := e2.gr hg n6; clear hg B6
  refine tl_nil ?_
  replace hf := hf.keep [1, 5]
  dsimp only [keep, List.filterMap, look, Nat.beq, Option.map] at hf
  cases hfr : (frW g 9).2 with
  | false =>
    obtain rfl := hgv.2 hfr
    repeat refine seq ?_
    refine regn 2 hf (by decide +kernel) ?_
    refine st (mv rfl) ?_
    refine st (eqlPP Tryz.underlying26 rfl rfl (.inl rfl)) ?_
    refine en fun a w e' hf => ?_
    replace hT := hT.ext e'
    replace e2 := Ext.tr e2 e'
    replace e := Ext.tr e e'
    clear e'
    refine tl_nil ?_
    repeat refine seq ?_
    refine ifc hf rfl (fun _ => ?_) (fun h => by cases h)
    repeat refine seq ?_
    refine regn 1 hf (by decide +kernel) ?_
    refine st (call0 (A := E (B true)) En10 (fun w he => known23_spec w (hT.ext he))) ?_
    refine en fun a w e' hf => ?_
    replace hT := hT.ext e'
    replace e2 := Ext.tr e2 e'
    replace e := Ext.tr e e'
    clear e'
    refine tl_as hf rfl (by decide) fun a hf => ?_
    refine tl_nil ?_
    refine wret ?_
    try simp only [Exit.then, Exit.inBlock]
    refine ret1 rfl hf rfl ?_
    rintro _ rfl
    exact ⟨_, rfl, e, rfl⟩
  | true =>
    obtain ⟨ok, l1, l2⟩ := twOk hfr hV hE (by omega)
    have hgd := hgv.1 hfr
    have gs1 := ok.sv
    have gs2 := ok.se
    have hl1 : (frW g 9).1.1.length ≤ 12 := by omega
    have hsm := sml_ok ok hl1 (all := vset (frW g 9).1.1) fun i h => h
    have hcv := Nat.le_trans (card_vset (frW g 9).1) hl1
    generalize (frW g 9).1 = gg at ok l1 l2 hgd gs1 gs2 hl1 hsm hcv
    repeat refine seq ?_
    refine regn 2 hf (by decide +kernel) ?_
    refine st (mv rfl) ?_
    refine st (eqlP Tryz.underlying26 (isE rfl (VA.st _ _ _ _ e2 hgd))) ?_
    refine en fun a w e' hf => ?_
    replace hT := hT.ext e'
    replace e2 := Ext.tr e2 e'
    replace e := Ext.tr e e'
    clear e'
    refine tl_nil ?_
    repeat refine seq ?_
    refine ifc hf rfl (fun h => by cases h) (fun _ => ?_)
    refine wskip ?_
    try simp only [Exit.then, Exit.inBlock, ↓reduceIte]
    obtain ⟨wd, hwd⟩ : ∃ wd, wd = rsR (nbA gg) (vset gg.1) 0 := ⟨_, rfl⟩
    repeat refine seq ?_
    refine regn 6 hf (by decide +kernel) ?_
    refine st (mv rfl) ?_
    refine st (call1 (A := Tup [E (I wd), Dv (slE intE) Go.Mono.G0 (natL (widO gg)), E (I 0)]) En11 rfl (fun v w he k => by cases k; rw [hwd]; exact widthG_spec gg gv w (hT.ext he) (VA.st _ _ _ _ (Ext.tr e2 he) hgd) gs1 gs2 hl1 (by omega) (by omega) hsm hcv (K := Go.Mono.G0) fun b hb => hb.elim)) ?_
    refine st (mv rfl) ?_
    refine st (ext_ rfl rfl) ?_
    refine st (ext_ rfl rfl) ?_
    refine st (ext_ rfl rfl) ?_
    refine en fun a w e' hf => ?_
    replace hT := hT.ext e'
    replace e2 := Ext.tr e2 e'
    replace e := Ext.tr e e'
    clear e'
    refine tl_as hf rfl (by decide) fun a hf => ?_
    refine tl_as hf rfl (by decide) fun a hf => ?_
    refine tl_as hf rfl (by decide) fun a hf => ?_
    refine tl_nil ?_
    replace hf := hf.keep [1, 5, 7, 9]
    dsimp only [keep, List.filterMap, look, Nat.beq, Option.map] at hf
    repeat refine seq ?_
    refine regn 6 hf (by decide +kernel) ?_
    refine st (mv rfl) ?_
    refine st (mv rfl) ?_
    refine st (call2 (A := Tup [E (B (decide (wd ≤ k))), E (I 0)]) En18 rfl rfl (fun v u w he k k' => by cases k; cases k'; rw [hwd]; exact atMost_spec gg _ gv w (hT.ext he) (VA.st _ _ _ _ (Ext.tr e2 he) hgd) gs1 gs2 hl1 (by omega) (by omega) hsm hcv)) ?_
    refine st (mv rfl) ?_
    refine st (ext_ rfl rfl) ?_
    refine st (ext_ rfl rfl) ?_
    refine en fun a w e' hf => ?_
    replace hT := hT.ext e'
    replace e2 := Ext.tr e2 e'
    replace e := Ext.tr e e'
    clear e'
    refine tl_as hf rfl (by decide) fun a hf => ?_
    refine tl_as hf rfl (by decide) fun a hf => ?_
    refine tl_nil ?_
    replace hf := hf.keep [1, 7, 9, 10, 11]
    dsimp only [keep, List.filterMap, look, Nat.beq, Option.map] at hf
    repeat refine seq ?_
    refine regn 16 hf (by decide +kernel) ?_
    refine st (mv rfl) ?_
    refine st ((eql rfl rfl).eq (congrArg Value.bool (show ((0 : Int) == 0) = true from rfl))) ?_
    refine st (mv rfl) ?_
    refine sy rfl rfl (mv rfl) ?_
    refine sy rfl rfl ((eql rfl rfl).eq (congrArg Value.bool (show ((0 : Int) == 0) = true from rfl))) ?_
    refine st (pkT rfl rfl) ?_
    refine st (mv rfl) ?_
    refine sy rfl rfl (mv rfl) ?_
    refine sy rfl rfl (mv rfl) ?_
    refine sy rfl rfl (mv rfl) ?_
    refine sy rfl rfl (leq rfl rfl) ?_
    refine sy rfl rfl ((eqlB Tryz.underlying4 rfl rfl).eq (congrArg Value.bool (show (decide (wd ≤ k) == decide (wd ≤ k)) = true from beq_self_eq_true _))) ?_
    refine st (pkT rfl rfl) ?_
    refine st (mv rfl) ?_
    refine sy rfl rfl (call0 (A := E (B true)) En10 (fun w he => known23_spec w (hT.ext he))) ?_
    refine st (pkT rfl rfl) ?_
    refine en fun a w e' hf => ?_
    replace hT := hT.ext e'
    replace e2 := Ext.tr e2 e'
    replace e := Ext.tr e e'
    clear e'
    refine tl_as hf rfl (by decide) fun a hf => ?_
    refine tl_nil ?_
    refine wret ?_
    try simp only [Exit.then, Exit.inBlock]
    refine ret1 rfl hf rfl ?_
    rintro _ rfl
    exact ⟨_, rfl, e, rfl⟩
end Go.Mono
