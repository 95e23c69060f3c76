/-
  XLawMin.
  No condition.
-/
import Derived.Test.YtnknjdnfbaaeoaaGreatDoorCF
set_option linter.unusedVariables false
set_option linter.unusedSimpArgs false
namespace Go.Mono
open Go Go.Proofs Go.RowKit Go.Gr
theorem ids_elems {g : GT} (G : Gr.Ok g) : idsG g = natL (elems (vset g.1)) := by
  have s1 : (idsG g).Pairwise fun x y => lt1 y x = false := List.pairwise_map.2 (G.sv.imp fun h => (lt1_asy h).1)
  have n1 : (idsG g).Nodup := List.pairwise_map.2 (G.sv.imp fun h => (lt1_asy h).2)
  have s2 : (natL (elems (vset g.1))).Pairwise fun x y => lt1 x y = true := List.pairwise_map.2 ((List.pairwise_lt_range.sublist List.filter_sublist).imp fun h => by
    simp only [lt1, decide_eq_true_eq]; omega)
  have n2 : (natL (elems (vset g.1))).Nodup := s2.imp fun h => (lt1_asy h).2
  refine Gr.perm_sorted (lt := lt1) ((List.perm_ext_iff_of_nodup n1 n2).2 fun x => ?_) s2 s1
  rw [natL, List.mem_map, idsG, List.mem_map]
  constructor
  · rintro ⟨y, hy, rfl⟩
    have := idOk_r (G.rv y hy).1
    have hi : (y.1.toNat : Int) = y.1 := by omega
    exact ⟨y.1.toNat, mem_elems.2 ⟨by omega, (mem_vset G).2 ⟨y, hy, hi.symm⟩⟩, hi⟩
  · rintro ⟨i, hi, rfl⟩
    obtain ⟨y, hy, he⟩ := (mem_vset G).1 (mem_elems.1 hi).2
    exact ⟨y, hy, he⟩
theorem lawMin_spec {G : Nat → Prop} (g : GT) (v : Value) (W : World) (hT : Tab W) (h : (Dv gtE G g).p v W) (hV : ∀ x ∈ g.1, 0 ≤ x.2.1 ∧ x.2.1 < 256) (hE : ∀ x ∈ g.2, 0 ≤ x.2.1 ∧ x.2.1 < 256) :
    Calls Tryz.prog 3 #[v] W (Post (E (B true)) W) := by
  have hT0 := hT.lt
  obtain ⟨u1, u2, rfl, h1, h2⟩ := Dv.gt.1 (Dv.weak (G' := Go.Mono.G0) h fun b _ hb => hb.elim)
  have hg0 : (Dv gtE Go.Mono.G0 g).p (.agg #[u1, u2]) W := Dv.gt.2 ⟨_, _, rfl, h1, h2⟩
  refine enter (args := [.agg #[u1, u2]]) (As := [E (.agg #[u1, u2])]) Tryz.func3 rfl Tryz.ntmps3 (Nat.le_of_ble_eq_true rfl) ?_ (fun a hf => ?_) (Nat.le_of_ble_eq_true rfl)
  rotate_left
  dsimp only [params, Nat.reduceAdd] at hf
  rotate_right
  · exact arg1 rfl
  have e := Ext.rfl' W
  repeat refine seq ?_
  refine regn0 ?_
  refine tl_box hf rfl (by decide) fun a b1 w v1 hv1 e' hb1 hs1 B1 hf => ?_
  have hle1 := Nat.le_trans e.size (Nat.le_of_eq hb1.symm)
  replace hT := hT.ext e'
  replace e := Ext.tr e e'
  clear e'
  refine tl_as hf rfl (by decide) fun a hf => ?_
  refine tl_nil ?_
  cases hv1
  have e1 := e
  repeat refine seq ?_
  refine regn 5 hf (by decide +kernel) ?_
  refine st ((ldW T25 rfl B1 rfl).eq ((rfl : _ = Value.agg #[u1, u2]))) ?_
  refine st (call2 (A := Tup [FrA g 6, Dv gtE Go.Mono.G0 (frW g 6).1]) En9 rfl rfl (fun v u w he k1 k2 => by cases k1; cases k2; exact from23_spec g 6 _ w (VA.st _ _ _ _ (Ext.tr e1 he) hg0) (by omega) hV hE)) ?_
  refine st (mv rfl) ?_
  refine st (ext_ rfl rfl) ?_
  refine st (ext_ rfl rfl) ?_
  refine en fun a w e' hf => ?_
  replace hT := hT.ext e'
  replace e := Ext.tr e e'
  replace B1 := B1.ext e'
  clear e'
  obtain ⟨z, hz, hf⟩ := hf.opn 14 rfl
  obtain ⟨z1, z2, rfl, hz1, hz2⟩ := Dv.gt.1 hz
  have hzo : (#[z1, z2] : Array Value).all (·.oneCell') = true := one2 (slOne hz1) (slOne hz2)
  obtain ⟨gv, hgv, hf⟩ := hf.opn 13 rfl
  obtain ⟨W1, hW1⟩ : ∃ W1, W1 = w := ⟨_, rfl⟩
  have e2 : Ext W1 w := by rw [hW1]; exact Ext.rfl' _
  replace hgv : (FrA g 6).p gv W1 := by rw [hW1]; exact hgv
  have hzz : (Dv gtE Go.Mono.G0 (frW g 6).1).p (.agg #[z1, z2]) W1 := by rw [hW1]; exact hz
  have hWW : W1.heap.size ≤ w.heap.size := e2.size
  have hW0 : W.heap.size ≤ W1.heap.size := by rw [hW1]; exact e.size
  clear hW1 hz hz1 hz2 B1 e1
  replace hf := hf.keep [13, 14]
  dsimp only [keep, List.filterMap, look, Nat.beq, Option.map] at hf
  refine tl_alloc I25 hf (by decide) fun a b4 w e' hb4 hs4 B4 hf => ?_
  have hle4 := Nat.le_trans e.size (Nat.le_of_eq hb4.symm)
  replace hT := hT.ext e'
  replace e2 := Ext.tr e2 e'
  replace e := Ext.tr e e'
  clear e'
  have n4 : W1.heap.size ≤ b4 := by omega
  refine tl_as hf rfl (by decide) fun a hf => ?_
  refine tl_stW T25 hf rfl rfl hzo B4 rfl rfl fun w hg hsz B4 hf => ?_
  replace e := e.gr hg (by omega); replace hT := hT.gr hg (by omega); replace e2 := e2.gr hg n4; clear hg
  refine tl_nil ?_
  replace hf := hf.keep [3, 4]
  dsimp only [keep, List.filterMap, look, Nat.beq, Option.map] at hf
  cases hfr' : (frW g 6).2 with
  | false =>
    obtain rfl := hgv.2 hfr'
    repeat refine seq ?_
    refine regn 2 hf (by decide +kernel) ?_
    refine st (mv rfl) ?_
    refine st (eqlPP Tryz.underlying26 rfl rfl (.inl rfl)) ?_
    refine en fun a w e' hf => ?_
    replace hT := hT.ext e'
    replace e2 := Ext.tr e2 e'
    replace e := Ext.tr e e'
    replace B4 := B4.ext e'
    clear e'
    refine tl_nil ?_
    repeat refine seq ?_
    refine ifc hf rfl (fun _ => ?_) (fun h => by cases h)
    repeat refine seq ?_
    refine regn 1 hf (by decide +kernel) ?_
    refine st (call0 (A := E (B true)) En10 (fun w he => known23_spec w (hT.ext he))) ?_
    refine en fun a w e' hf => ?_
    replace hT := hT.ext e'
    replace e2 := Ext.tr e2 e'
    replace e := Ext.tr e e'
    replace B4 := B4.ext e'
    clear e'
    refine tl_as hf rfl (by decide) fun a hf => ?_
    refine tl_nil ?_
    refine wret ?_
    try simp only [Exit.then, Exit.inBlock]
    refine ret1 rfl hf rfl ?_
    rintro _ rfl
    exact ⟨_, rfl, e, rfl⟩
  | true =>
    obtain ⟨ok, l1, l2⟩ := twOk hfr' hV hE (by omega)
    have hgd := hgv.1 hfr'
    have gs1 := ok.sv
    have gs2 := ok.se
    have hl1 : (frW g 6).1.1.length ≤ 12 := by omega
    have hsm := sml_ok ok hl1 (all := vset (frW g 6).1.1) fun i h => h
    have hcv := Nat.le_trans (card_vset (frW g 6).1) hl1
    generalize (frW g 6).1 = gg at ok l1 l2 hgd gs1 gs2 hl1 hsm hcv hzz
    have hids : idsG gg = natL (elems (vset gg.1)) := ids_elems ok
    have hls := least_is ok hl1 (all := vset gg.1) fun i h => h
    rw [← hids] at hls
    have hiL : (idsG gg).length = gg.1.length := by simp [idsG]
    have hol := widO_len ok hl1
    have hoL : (natL (widO gg)).length = gg.1.length := by rw [natL, List.length_map, hol]
    have hnin := natL_in ok (l := elems (vset gg.1)) fun i hi => (mem_elems.1 hi).2
    rw [← hids] at hnin
    obtain ⟨wd, hwd⟩ : ∃ wd, wd = rsR (nbA gg) (vset gg.1) 0 := ⟨_, rfl⟩
    obtain ⟨od, hod⟩ : ∃ od, od = natL (widO gg) := ⟨_, rfl⟩
    have hls' : lsG (costG gg) (ordF (idsG gg).length (idsG gg)) = (wd, od) := by rw [hls, hwd, hod]; rfl
    rw [← hod] at hoL
    repeat refine seq ?_
    refine regn 2 hf (by decide +kernel) ?_
    refine st (mv rfl) ?_
    refine st (eqlP Tryz.underlying26 (isE rfl (VA.st _ _ _ _ e2 hgd))) ?_
    refine en fun a w e' hf => ?_
    replace hT := hT.ext e'
    replace e2 := Ext.tr e2 e'
    replace e := Ext.tr e e'
    replace B4 := B4.ext e'
    clear e'
    refine tl_nil ?_
    repeat refine seq ?_
    refine ifc hf rfl (fun h => by cases h) (fun _ => ?_)
    refine wskip ?_
    try simp only [Exit.then, Exit.inBlock, ↓reduceIte]
    repeat refine seq ?_
    refine regn 6 hf (by decide +kernel) ?_
    refine st (mv rfl) ?_
    refine st (call1 (A := Tup [E (I wd), Dv (slE intE) Go.Mono.G0 od, E (I 0)]) En11 rfl (fun v w he k => by cases k; rw [hwd, hod]; exact widthG_spec gg gv w (hT.ext he) (VA.st _ _ _ _ (Ext.tr e2 he) hgd) gs1 gs2 hl1 (by omega) (by omega) hsm hcv (K := Go.Mono.G0) fun b hb => hb.elim)) ?_
    refine st (mv rfl) ?_
    refine st (ext_ rfl rfl) ?_
    refine st (ext_ rfl rfl) ?_
    refine st (ext_ rfl rfl) ?_
    refine en fun a w e' hf => ?_
    replace hT := hT.ext e'
    replace e2 := Ext.tr e2 e'
    replace e := Ext.tr e e'
    replace B4 := B4.ext e'
    clear e'
    refine tl_as hf rfl (by decide) fun a hf => ?_
    refine tl_as hf rfl (by decide) fun a hf => ?_
    refine tl_as hf rfl (by decide) fun a hf => ?_
    refine tl_nil ?_
    replace hf := hf.keep [4, 5, 6, 7]
    dsimp only [keep, List.filterMap, look, Nat.beq, Option.map] at hf
    have e4 := e2
    repeat refine seq ?_
    refine reg 9 Mix.mix hf (by decide +kernel) ?_
    refine st ((ldW T25 rfl B4 rfl).eq ((rfl : _ = Value.agg #[z1, z2]))) ?_
    refine st ((ldW T25 rfl B4 rfl).eq ((rfl : _ = Value.agg #[z1, z2]))) ?_
    refine st (call1 (A := Dv (slE intE) Go.Mono.G0 (idsG gg)) En13 rfl (fun v w he k => by cases k; exact (ids_spec gg _ w (VA.st _ _ _ _ (Ext.tr e4 he) hzz) (by omega)).mono fun en w' ⟨u, k1, k2, k3⟩ => ⟨u, k1, k2, k3.sl⟩)) ?_
    refine st (call2 (A := Tup [E (I wd), Dv (slE intE) Go.Mono.G0 od]) En12 rfl rfl (fun v u w he k1 k2 => by cases k1; have := least_spec gg (idsG gg) _ u w (VA.st _ _ _ _ (Ext.tr e4 he) hzz) k2 (by omega) (by omega) (by omega) hnin; rwa [hls'] at this)) ?_
    refine st (mv rfl) ?_
    refine st (ext_ rfl rfl) ?_
    refine st (ext_ rfl rfl) ?_
    refine st (asg rfl) ?_
    refine st (asg rfl) ?_
    refine en fun a w e' hf => ?_
    replace hT := hT.ext e'
    replace e := Ext.tr e e'
    replace B4 := B4.ext e'
    clear e'
    refine tl_nil ?_
    replace hf := hf.keep [5, 6, 7, 8, 9]
    dsimp only [keep, List.filterMap, look, Nat.beq, Option.map] at hf
    have dd : decide (od = od) = true := decide_eq_true rfl
    repeat refine seq ?_
    refine regn 15 hf (by decide +kernel) ?_
    refine st (mv rfl) ?_
    refine st ((eql rfl rfl).eq (congrArg Value.bool (show ((0 : Int) == 0) = true from rfl))) ?_
    refine st (mv rfl) ?_
    refine sy rfl rfl (mv rfl) ?_
    refine sy rfl rfl (mv rfl) ?_
    refine sy rfl rfl ((eql rfl rfl).eq (congrArg Value.bool ((beq_self_eq_true _ : (wd == wd) = true)))) ?_
    refine st (pkT rfl rfl) ?_
    refine st (mv rfl) ?_
    refine sy rfl rfl (mv rfl) ?_
    refine sy rfl rfl (mv rfl) ?_
    refine sy rfl rfl (call2 (A := E (B true)) En14 rfl rfl (fun v u w he k k' => by have := same23_spec od od v u w k k' (by omega) (by omega); rwa [dd] at this)) ?_
    refine st (pkT rfl rfl) ?_
    refine st (mv rfl) ?_
    refine sy rfl rfl (call0 (A := E (B true)) En10 (fun w he => known23_spec w (hT.ext he))) ?_
    refine st (pkT rfl rfl) ?_
    refine en fun a w e' hf => ?_
    replace hT := hT.ext e'
    replace e := Ext.tr e e'
    replace B4 := B4.ext e'
    clear e'
    refine tl_as hf rfl (by decide) fun a hf => ?_
    refine tl_nil ?_
    refine wret ?_
    try simp only [Exit.then, Exit.inBlock]
    refine ret1 rfl hf rfl ?_
    rintro _ rfl
    exact ⟨_, rfl, e, rfl⟩
end Go.Mono
