/-
  XLawOr.
  No condition.
-/
import Derived.Test.YtnknjdnfbaaeoaaGreatDoorBF
import Derived.Test.YtnknjdnfbaaeoaaGreatDoorBE
set_option linter.unusedVariables false
set_option linter.unusedSimpArgs false
namespace Go.Mono
open Go Go.Proofs Go.RowKit Go.Gr
theorem lawOr_spec {G : Nat → Prop} (g : GT) (fr to' : Int) (v : Value) (W : World) (hT : Tab W) (h : (Dv gtE G g).p v W) (hV : ∀ x ∈ g.1, 0 ≤ x.2.1 ∧ x.2.1 < 256) (hE : ∀ x ∈ g.2, 0 ≤ x.2.1 ∧ x.2.1 < 256) (hfr : (Lit.int .u8 fr).wf = true) (hto : (Lit.int .u8 to').wf = true) :
    Calls Tryz.prog 4 #[v, .int .u8 fr, .int .u8 to'] W (Post (E (B true)) W) := by
  have hT0 := hT.lt
  obtain ⟨u1, u2, rfl, h1, h2⟩ := Dv.gt.1 (Dv.weak (G' := Go.Mono.G0) h fun b _ hb => hb.elim)
  have hg0 : (Dv gtE Go.Mono.G0 g).p (.agg #[u1, u2]) W := Dv.gt.2 ⟨_, _, rfl, h1, h2⟩
  refine enter (args := [.agg #[u1, u2], .int .u8 fr, .int .u8 to']) (As := [E (.agg #[u1, u2]), E (.int .u8 fr), E (.int .u8 to')]) Tryz.func4 rfl Tryz.ntmps4 (Nat.le_of_ble_eq_true rfl) ?_ (fun a hf => ?_) (Nat.le_of_ble_eq_true rfl)
  rotate_left
  dsimp only [params, Nat.reduceAdd] at hf
  rotate_right
  · exact arg3 rfl rfl rfl
  have e := Ext.rfl' W
  repeat refine seq ?_
  refine regn0 ?_
  refine tl_box hf rfl (by decide) fun a b3 w v3 hv3 e' hb3 hs3 B3 hf => ?_
  have hle3 := Nat.le_trans e.size (Nat.le_of_eq hb3.symm)
  replace hT := hT.ext e'
  replace e := Ext.tr e e'
  clear e'
  refine tl_as hf rfl (by decide) fun a hf => ?_
  refine tl_nil ?_
  cases hv3
  have e1 := e
  repeat refine seq ?_
  refine regn 5 hf (by decide +kernel) ?_
  refine st ((ldW T25 rfl B3 rfl).eq ((rfl : _ = Value.agg #[u1, u2]))) ?_
  refine st (call2 (A := Tup [FrA g 9, Dv gtE Go.Mono.G0 (frW g 9).1]) En9 rfl rfl (fun v u w he k1 k2 => by cases k1; cases k2; exact from23_spec g 9 _ w (VA.st _ _ _ _ (Ext.tr e1 he) hg0) (by omega) hV hE)) ?_
  refine st (mv rfl) ?_
  refine st (ext_ rfl rfl) ?_
  refine st (ext_ rfl rfl) ?_
  refine en fun a w e' hf => ?_
  replace hT := hT.ext e'
  replace e := Ext.tr e e'
  replace B3 := B3.ext e'
  clear e'
  obtain ⟨z, hz, hf⟩ := hf.opn 22 rfl
  obtain ⟨z1, z2, rfl, hz1, hz2⟩ := Dv.gt.1 hz
  have hzo : (#[z1, z2] : Array Value).all (·.oneCell') = true := one2 (slOne hz1) (slOne hz2)
  obtain ⟨gv, hgv, hf⟩ := hf.opn 21 rfl
  obtain ⟨W1, hW1⟩ : ∃ W1, W1 = w := ⟨_, rfl⟩
  have e2 : Ext W1 w := by rw [hW1]; exact Ext.rfl' _
  replace hgv : (FrA g 9).p gv W1 := by rw [hW1]; exact hgv
  have hzz : (Dv gtE Go.Mono.G0 (frW g 9).1).p (.agg #[z1, z2]) W1 := by rw [hW1]; exact hz
  have hWW : W1.heap.size ≤ w.heap.size := e2.size
  have hW0 : W.heap.size ≤ W1.heap.size := by rw [hW1]; exact e.size
  clear hW1 hz hz1 hz2 B3 e1
  replace hf := hf.keep [1, 2, 21, 22]
  dsimp only [keep, List.filterMap, look, Nat.beq, Option.map] at hf
  refine tl_alloc I25 hf (by decide) fun a b8 w e' hb8 hs8 B8 hf => ?_
  have hle8 := Nat.le_trans e.size (Nat.le_of_eq hb8.symm)
  replace hT := hT.ext e'
  replace e2 := Ext.tr e2 e'
  replace e := Ext.tr e e'
  clear e'
  have n8 : W1.heap.size ≤ b8 := by omega
  refine tl_as hf rfl (by decide) fun a hf => ?_
  refine tl_stW T25 hf rfl rfl hzo B8 rfl rfl fun w hg hsz B8 hf => ?_
  replace e := e.gr hg (by omega); replace hT := hT.gr hg (by omega); replace e2 := e2.gr hg n8; clear hg
  refine tl_nil ?_
  replace hf := hf.keep [1, 2, 7, 8]
  dsimp only [keep, List.filterMap, look, Nat.beq, Option.map] at hf
  cases hfr' : (frW g 9).2 with
  | false =>
    obtain rfl := hgv.2 hfr'
    repeat refine seq ?_
    refine regn 2 hf (by decide +kernel) ?_
    refine st (mv rfl) ?_
    refine st (eqlPP Tryz.underlying26 rfl rfl (.inl rfl)) ?_
    refine en fun a w e' hf => ?_
    replace hT := hT.ext e'
    replace e2 := Ext.tr e2 e'
    replace e := Ext.tr e e'
    replace B8 := B8.ext e'
    clear e'
    refine tl_nil ?_
    repeat refine seq ?_
    refine ifc hf rfl (fun _ => ?_) (fun h => by cases h)
    repeat refine seq ?_
    refine regn 1 hf (by decide +kernel) ?_
    refine st (call0 (A := E (B true)) En10 (fun w he => known23_spec w (hT.ext he))) ?_
    refine en fun a w e' hf => ?_
    replace hT := hT.ext e'
    replace e2 := Ext.tr e2 e'
    replace e := Ext.tr e e'
    replace B8 := B8.ext e'
    clear e'
    refine tl_as hf rfl (by decide) fun a hf => ?_
    refine tl_nil ?_
    refine wret ?_
    try simp only [Exit.then, Exit.inBlock]
    refine ret1 rfl hf rfl ?_
    rintro _ rfl
    exact ⟨_, rfl, e, rfl⟩
  | true =>
    obtain ⟨ok, l1, l2⟩ := twOk hfr' hV hE (by omega)
    have hgd := hgv.1 hfr'
    have gs1 := ok.sv
    have gs2 := ok.se
    have hl1 : (frW g 9).1.1.length ≤ 12 := by omega
    have hsm := sml_ok ok hl1 (all := vset (frW g 9).1.1) fun i h => h
    have hcv := Nat.le_trans (card_vset (frW g 9).1) hl1
    generalize (frW g 9).1 = gg at ok l1 l2 hgd gs1 gs2 hl1 hsm hcv hzz
    obtain ⟨wo1, wo2, wo3⟩ := widO_ok ok hl1
    have wol := widO_len ok hl1
    have wos := widO_set ok hl1
    have hcost := cost_widL ok wo1 fun v hv => (wo2 v).1 hv
    rw [wo3] at hcost
    have hnin := natL_in ok (l := widO gg) fun i hi => (wo2 i).1 hi
    have hbd := rsR_bd (nb := nbA gg) (all := vset gg.1) 0
    obtain ⟨wd, hwd⟩ : ∃ wd, wd = rsR (nbA gg) (vset gg.1) 0 := ⟨_, rfl⟩
    have hwr : ∀ m : List Nat, m.Perm (widO gg) → wd ≤ costG gg (natL m) := fun m hm => by
      rw [hwd]; exact cost_ge ok (hm.nodup_iff.2 wo1) fun i => by rw [hm.mem_iff, wo2]
    have hem : widO gg = [] → wd = -1 := fun h => by
      rw [hwd, ← wo3, h]; rfl
    rw [← hwd] at hcost hbd
    obtain ⟨od, hod⟩ : ∃ od, od = widO gg := ⟨_, rfl⟩
    have hoL : (natL od).length = gg.1.length := by rw [hod, natL, List.length_map, wol]
    have hiL : (idsG gg).length = gg.1.length := by simp [idsG]
    repeat refine seq ?_
    refine regn 2 hf (by decide +kernel) ?_
    refine st (mv rfl) ?_
    refine st (eqlP Tryz.underlying26 (isE rfl (VA.st _ _ _ _ e2 hgd))) ?_
    refine en fun a w e' hf => ?_
    replace hT := hT.ext e'
    replace e2 := Ext.tr e2 e'
    replace e := Ext.tr e e'
    replace B8 := B8.ext e'
    clear e'
    refine tl_nil ?_
    repeat refine seq ?_
    refine ifc hf rfl (fun h => by cases h) (fun _ => ?_)
    refine wskip ?_
    try simp only [Exit.then, Exit.inBlock, ↓reduceIte]
    repeat refine seq ?_
    refine regn 6 hf (by decide +kernel) ?_
    refine st (mv rfl) ?_
    refine st (call1 (A := Tup [E (I wd), Dv (slE intE) Go.Mono.G0 (natL od), E (I 0)]) En11 rfl (fun v w he k => by cases k; rw [hwd, hod]; exact widthG_spec gg gv w (hT.ext he) (VA.st _ _ _ _ (Ext.tr e2 he) hgd) gs1 gs2 hl1 (by omega) (by omega) hsm hcv (K := Go.Mono.G0) fun b hb => hb.elim)) ?_
    refine st (mv rfl) ?_
    refine st (ext_ rfl rfl) ?_
    refine st (ext_ rfl rfl) ?_
    refine st (ext_ rfl rfl) ?_
    refine en fun a w e' hf => ?_
    replace hT := hT.ext e'
    replace e2 := Ext.tr e2 e'
    replace e := Ext.tr e e'
    replace B8 := B8.ext e'
    clear e'
    refine tl_as hf rfl (by decide) fun a hf => ?_
    refine tl_as hf rfl (by decide) fun a hf => ?_
    refine tl_as hf rfl (by decide) fun a hf => ?_
    refine tl_nil ?_
    obtain ⟨ov, hov, hf⟩ := hf.opn 10 rfl
    obtain ⟨W2, hW2⟩ : ∃ W2, W2 = w := ⟨_, rfl⟩
    have e3 : Ext W2 w := by rw [hW2]; exact Ext.rfl' _
    replace hov : (Dv (slE intE) (GB W2 Go.Mono.G0) (natL od)).p ov W2 := by rw [hW2]; exact Dv.toB hov
    have hW12 : W1.heap.size ≤ W2.heap.size := by rw [hW2]; exact e2.size
    clear hW2
    have hzG := VA.st _ _ _ _ e2 hzz
    replace hf := hf.keep [1, 2, 7, 8, 9, 10, 11]
    dsimp only [keep, List.filterMap, look, Nat.beq, Option.map] at hf
    have e4 := e2
    repeat refine seq ?_
    refine regn 2 hf (by decide +kernel) ?_
    refine st ((ldW T25 rfl B8 rfl).eq ((rfl : _ = Value.agg #[z1, z2]))) ?_
    refine st (call1 (A := Dv (slE intE) Go.Mono.G0 (idsG gg)) En13 rfl (fun v w he k => by cases k; exact (ids_spec gg _ w (VA.st _ _ _ _ (Ext.tr e4 he) hzz) (by omega)).mono fun en w' ⟨u, k1, k2, k3⟩ => ⟨u, k1, k2, k3.sl⟩)) ?_
    refine en fun a w e' hf => ?_
    replace hT := hT.ext e'
    replace e2 := Ext.tr e2 e'
    replace e3 := Ext.tr e3 e'
    replace e := Ext.tr e e'
    replace B8 := B8.ext e'
    clear e'
    refine tl_as hf rfl (by decide) fun a hf => ?_
    refine tl_nil ?_
    replace hf := hf.keep [1, 2, 7, 8, 9, 10, 11, 12]
    dsimp only [keep, List.filterMap, look, Nat.beq, Option.map] at hf
    repeat refine seq ?_
    refine regn 9 hf (by decide +kernel) ?_
    refine st (mv rfl) ?_
    refine st ((neq rfl rfl).eq (congrArg Value.bool (show ((0 : Int) != 0) = false from rfl))) ?_
    refine st (mv rfl) ?_
    refine sy rfl rfl (mv rfl) ?_
    refine sy rfl rfl (lenD Tryz.underlying30 (isE rfl (VA.st _ _ _ _ e3 hov))) ?_
    refine sy rfl rfl (mv rfl) ?_
    refine sy rfl rfl (lenD Tryz.underlying30 (isR rfl)) ?_
    refine sy rfl rfl ((neq rfl rfl).eq (congrArg Value.bool ((by rw [hoL, hiL]; exact bne_self_eq_false _ : ((((natL od).length : Nat) : Int) != (((idsG gg).length : Nat) : Int)) = false)))) ?_
    refine st (pkF rfl rfl) ?_
    refine en fun a w e' hf => ?_
    replace hT := hT.ext e'
    replace e2 := Ext.tr e2 e'
    replace e3 := Ext.tr e3 e'
    replace e := Ext.tr e e'
    replace B8 := B8.ext e'
    clear e'
    refine tl_nil ?_
    repeat refine seq ?_
    refine ifc hf rfl (fun h => by cases h) (fun _ => ?_)
    refine wskip ?_
    try simp only [Exit.then, Exit.inBlock, ↓reduceIte]
    replace hf := hf.keep [1, 2, 7, 8, 9, 10]
    dsimp only [keep, List.filterMap, look, Nat.beq, Option.map] at hf
    have hW2s : W2.heap.size ≤ w.heap.size := e3.size
    have l8 : b8 < w.heap.size := B8.lt
    repeat refine seq ?_
    refine regn0 ?_
    refine tl_alloc I41 hf (by decide) fun a b13 w e' hb13 hs13 B13 hf => ?_
    have hle13 := Nat.le_trans e.size (Nat.le_of_eq hb13.symm)
    have lt13_B8 := B8.lt
    replace hT := hT.ext e'
    replace e2 := Ext.tr e2 e'
    replace e3 := Ext.tr e3 e'
    replace e := Ext.tr e e'
    replace B8 := B8.ext e'
    clear e'
    refine tl_nil ?_
    simp only [Value.cells, zeroC] at B13
    have n13 : W2.heap.size ≤ b13 ∧ b8 ≠ b13 := by omega
    replace hf := hf.keep [1, 2, 7, 8, 9, 10, 13]
    dsimp only [keep, List.filterMap, look, Nat.beq, Option.map] at hf
    repeat refine seq ?_
    refine regn0 ?_
    refine tl_as hf rfl (by decide) fun a hf => ?_
    refine tl_nil ?_
    replace hf := hf.keep [1, 2, 7, 8, 9, 10, 13, 14]
    dsimp only [keep, List.filterMap, look, Nat.beq, Option.map] at hf
    repeat refine seq ?_
    refine blk (loopN (fun r0 a w => ∃ (k : Nat) , r0 = (natL od).length - k ∧ k ≤ (natL od).length ∧ Fr 109 a w [(1, E (.int .u8 fr)), (2, E (.int .u8 to')), (7, E gv), (8, E (ptr b8)), (9, E (I wd)), (10, E ov), (13, E (ptr b13)), (14, E (I k))] ∧ Ext W w ∧ Blk w b8 #[z1, z2] 25 ∧ Blk w b13 (setC (((natL od).take k).foldl ins 0)) 41 ∧ Tab w ∧ Ext W1 w ∧ Ext W2 w) (natL od).length ⟨0, rfl, by omega, hf, e, ⟨B8, B13, hT, e2, e3⟩⟩ ?_)
    clear hf e; try clear B8; try clear B13; try clear hT; try clear e2; try clear e3
    rintro r0 a w ⟨k, rfl, hk, hf, e, B8, B13, hT, e2, e3⟩
    repeat refine seq ?_
    refine regn 4 hf (by decide +kernel) ?_
    refine st (mv rfl) ?_
    refine st (mv rfl) ?_
    refine st (lenD Tryz.underlying30 (isE rfl (VA.st _ _ _ _ e3 hov))) ?_
    refine st (lss rfl rfl) ?_
    refine en fun a w e' hf => ?_
    replace hT := hT.ext e'
    replace e2 := Ext.tr e2 e'
    replace e3 := Ext.tr e3 e'
    replace e := Ext.tr e e'
    replace B8 := B8.ext e'
    replace B13 := B13.ext e'
    clear e'
    refine tl_nil ?_
    repeat refine seq ?_
    refine ifc hf rfl (fun hc => wskip ?_) (fun hc => wexit ?_)
    rotate_left
    rotate_left
    · have hlt : k < (natL od).length := by have := of_decide_eq_true hc; (try dsimp only at this); omega
      clear hc
      replace hf := hf.keep [1, 2, 7, 8, 9, 10, 13, 14]
      dsimp only [keep, List.filterMap, look, Nat.beq, Option.map] at hf
      repeat refine seq ?_
      refine blk ?_
      have hx : (natL od)[k]? = some (gi (natL od) k) := gi_get hlt
      have hS : ((natL od).take (k + 1)).foldl ins 0 = ins (((natL od).take k).foldl ins 0) (gi (natL od) k) := by rw [take_succ_get hx, List.foldl_append]; rfl
      obtain ⟨Sk, hSk⟩ : ∃ Sk, Sk = ((natL od).take k).foldl ins 0 := ⟨_, rfl⟩
      rw [← hSk] at B13 hS
      repeat refine seq ?_
      refine reg 6 Mix.mix hf (by decide +kernel) ?_
      refine st ((ldW T41 rfl B13 rfl).eq ((rfl : _ = setV Sk))) ?_
      refine st (mv rfl) ?_
      refine st (mv rfl) ?_
      refine st (idxD Tryz.underlying30 S3 (isE rfl (VA.st _ _ _ _ e3 hov)) rfl (by omega) (hx)) ?_
      refine st (ldI T3 (isR rfl)) ?_
      refine st (call2 (A := E (setV (ins Sk (gi (natL od) k)))) En15 rfl rfl (fun v u w he h h' => by cases h; cases h'; exact with_spec Sk _ w)) ?_
      refine en fun a w e' hf => ?_
      replace hT := hT.ext e'
      replace e2 := Ext.tr e2 e'
      replace e3 := Ext.tr e3 e'
      replace e := Ext.tr e e'
      replace B8 := B8.ext e'
      replace B13 := B13.ext e'
      clear e'
      replace hf := hf.keep [1, 2, 7, 8, 9, 10, 13, 14, 54]
      dsimp only [keep, List.filterMap, look, Nat.beq, Option.map] at hf
      refine tl_stW T41 hf rfl rfl (wordsC_one _) B13 rfl (setC_size _) fun w hg hsz B13 hf => ?_
      replace e := e.gr hg (by omega); replace hT := hT.gr hg (by omega); replace e2 := e2.gr hg (by omega); replace e3 := e3.gr hg (by omega); replace B8 := B8.gr hg (by omega); clear hg
      refine tl_nil ?_
      try simp only [Exit.then, Exit.inBlock, ↓reduceIte]
      repeat refine seq ?_
      refine regn 2 hf (by decide +kernel) ?_
      refine st (mv rfl) ?_
      refine st ((add rfl rfl (by omega)).eq (congrArg (Value.int .i64) (show (k : Int) + 1 = ((k + 1 : Nat) : Int) from rfl))) ?_
      refine en fun a w e' hf => ?_
      replace hT := hT.ext e'
      replace e2 := Ext.tr e2 e'
      replace e3 := Ext.tr e3 e'
      replace e := Ext.tr e e'
      replace B8 := B8.ext e'
      replace B13 := B13.ext e'
      clear e'
      refine tl_as hf rfl (by decide) fun a hf => ?_
      refine tl_nil ?_
      replace hf := hf.keep [1, 2, 7, 8, 9, 10, 13, 14]
      dsimp only [keep, List.filterMap, look, Nat.beq, Option.map] at hf
      refine ⟨_, ?_, k + 1, rfl, by omega, hf, e, ?_⟩
      · omega
      rw [hS]
      exact ⟨B8, B13, hT, e2, e3⟩
    · obtain rfl : (natL od).length = k := by have := of_decide_eq_false hc; (try dsimp only at this); omega
      clear hc
      simp only [Exit.then, Exit.inBlock, ↓reduceIte]
      rw [List.take_length, hod, wos] at B13
      rw [← hod] at hcost hnin hwr hem
      have e5 := e2
      have e6 := e3
      repeat refine seq ?_
      refine reg 11 Mix.mix hf (by decide +kernel) ?_
      refine st ((ldW T41 rfl B13 rfl).eq ((rfl : _ = setV (vset gg.1)))) ?_
      refine st (mv rfl) ?_
      refine st (call1 (A := E (setV (vset gg.1))) En16 rfl (fun v w he k => by cases k; exact vertexSet_spec gg _ w (VA.st _ _ _ _ (Ext.tr e5 he) hgd) gs1 (by omega) (by omega))) ?_
      refine st ((neqS Tryz.underlying41 Tryz.underlying39 T39 (by kernel_rfl) rfl rfl).eq (congrArg Value.bool ((bne_self_eq_false _ : (vset gg.1 != vset gg.1) = false)))) ?_
      refine st (mv rfl) ?_
      refine sy rfl rfl ((ldW T25 rfl B8 rfl).eq ((rfl : _ = Value.agg #[z1, z2]))) ?_
      refine sy rfl rfl (mv rfl) ?_
      refine sy rfl rfl (call2 (A := E (I wd)) En17 rfl rfl (fun v u w he k1 k2 => by cases k1; cases k2; rw [← hcost]; exact cost_spec gg (natL od) _ _ w (VA.st _ _ _ _ (Ext.tr e5 he) hzz) (VA.st _ _ _ _ (Ext.tr e6 he) hov) (by omega) (by omega) (by omega) hnin)) ?_
      refine sy rfl rfl (mv rfl) ?_
      refine sy rfl rfl ((neq rfl rfl).eq (congrArg Value.bool ((bne_self_eq_false _ : (wd != wd) = false)))) ?_
      refine st (pkF rfl rfl) ?_
      refine en fun a w e' hf => ?_
      replace hT := hT.ext e'
      replace e2 := Ext.tr e2 e'
      replace e3 := Ext.tr e3 e'
      replace e := Ext.tr e e'
      replace B8 := B8.ext e'
      replace B13 := B13.ext e'
      clear e'
      refine tl_nil ?_
      repeat refine seq ?_
      refine ifc hf rfl (fun h => by cases h) (fun _ => ?_)
      refine wskip ?_
      try simp only [Exit.then, Exit.inBlock, ↓reduceIte]
      clear B13
      replace hf := hf.keep [1, 2, 7, 8, 9, 10]
      dsimp only [keep, List.filterMap, look, Nat.beq, Option.map] at hf
      repeat refine seq ?_
      refine regn 3 hf (by decide +kernel) ?_
      refine st (mv rfl) ?_
      refine st (lenD Tryz.underlying30 (isE rfl (VA.st _ _ _ _ e3 hov))) ?_
      refine st (eql rfl rfl) ?_
      refine en fun a w e' hf => ?_
      replace hT := hT.ext e'
      replace e2 := Ext.tr e2 e'
      replace e3 := Ext.tr e3 e'
      replace e := Ext.tr e e'
      replace B8 := B8.ext e'
      clear e'
      refine tl_nil ?_
      repeat refine seq ?_
      refine ifc hf rfl (fun hb => ?_) (fun hb => ?_)
      · have ho0 : od = [] := by
          have h1 : (natL od).length = 0 := by have := of_decide_eq_true hb; omega
          exact List.eq_nil_of_length_eq_zero (by rw [natL, List.length_map] at h1; exact h1)
        have hw1 := hem ho0
        rw [hw1] at hf
        repeat refine seq ?_
        refine regn 5 hf (by decide +kernel) ?_
        refine st (mv rfl) ?_
        refine st ((eql rfl rfl).eq (congrArg Value.bool (show ((-1 : Int) == -1) = true from rfl))) ?_
        refine st (mv rfl) ?_
        refine sy rfl rfl (call0 (A := E (B true)) En10 (fun w he => known23_spec w (hT.ext he))) ?_
        refine st (pkT rfl rfl) ?_
        refine en fun a w e' hf => ?_
        replace hT := hT.ext e'
        replace e2 := Ext.tr e2 e'
        replace e3 := Ext.tr e3 e'
        replace e := Ext.tr e e'
        replace B8 := B8.ext e'
        clear e'
        refine tl_as hf rfl (by decide) fun a hf => ?_
        refine tl_nil ?_
        refine wret ?_
        try simp only [Exit.then, Exit.inBlock]
        refine ret1 rfl hf rfl ?_
        rintro _ rfl
        exact ⟨_, rfl, e, rfl⟩
      · have hol : 0 < (natL od).length := by
          have := of_decide_eq_false hb; omega
        clear hb
        refine wskip ?_
        try simp only [Exit.then, Exit.inBlock, ↓reduceIte]
        have w1 := u8_of' hfr
        have w2 := u8_of' hto
        obtain ⟨L0, hL0⟩ : ∃ L0, L0 = (natL od).length := ⟨_, rfl⟩
        rw [← hL0] at hol
        have hL9 : L0 ≤ 9 := by omega
        obtain ⟨pa, hpa, hpl⟩ : ∃ p : Nat, fr % ((L0 : Nat) : Int) = (p : Int) ∧ p < L0 := by
          have h1 := Int.emod_nonneg fr (show ((L0 : Nat) : Int) ≠ 0 by omega)
          have h2 := Int.emod_lt_of_pos fr (show (0 : Int) < ((L0 : Nat) : Int) by omega)
          exact ⟨(fr % ((L0 : Nat) : Int)).toNat, by omega, by omega⟩
        obtain ⟨pb, hpb, hpm⟩ : ∃ p : Nat, to' % ((L0 : Nat) : Int) = (p : Int) ∧ p < L0 := by
          have h1 := Int.emod_nonneg to' (show ((L0 : Nat) : Int) ≠ 0 by omega)
          have h2 := Int.emod_lt_of_pos to' (show (0 : Int) < ((L0 : Nat) : Int) by omega)
          exact ⟨(to' % ((L0 : Nat) : Int)).toNat, by omega, by omega⟩
        have hw : ∀ n : Int, 0 ≤ n ∧ n < 256 → IntKind.i64.wrap n = n := fun n hn => by
          rw [IntKind.wrap_i64]
          omega
        have hLi : (((natL od).length : Nat) : Int) = ((L0 : Nat) : Int) := by rw [hL0]
        repeat refine seq ?_
        refine reg 12 Mix.mix hf (by decide +kernel) ?_
        refine st (mv rfl) ?_
        refine st ((convI Tryz.underlying5 Tryz.underlying3 rfl).eq (congrArg I (hw fr w1))) ?_
        refine st (mv rfl) ?_
        refine st ((lenD Tryz.underlying30 (isE rfl (VA.st _ _ _ _ e3 hov))).eq (congrArg I hLi)) ?_
        refine st ((rem rfl rfl (by omega)).eq (congrArg I hpa)) ?_
        refine st (mv rfl) ?_
        refine st ((convI Tryz.underlying5 Tryz.underlying3 rfl).eq (congrArg I (hw to' w2))) ?_
        refine st (mv rfl) ?_
        refine st ((lenD Tryz.underlying30 (isE rfl (VA.st _ _ _ _ e3 hov))).eq (congrArg I hLi)) ?_
        refine st ((rem rfl rfl (by omega)).eq (congrArg I hpb)) ?_
        refine st (asg rfl) ?_
        refine st (asg rfl) ?_
        refine en fun a w e' hf => ?_
        replace hT := hT.ext e'
        replace e2 := Ext.tr e2 e'
        replace e3 := Ext.tr e3 e'
        replace e := Ext.tr e e'
        replace B8 := B8.ext e'
        clear e'
        refine tl_nil ?_
        replace hf := hf.keep [7, 8, 9, 10, 15, 16]
        dsimp only [keep, List.filterMap, look, Nat.beq, Option.map] at hf
        have hW23 : W2.heap.size ≤ w.heap.size := e3.size
        repeat refine seq ?_
        refine regn0 ?_
        refine tl_bsl0 W2.heap.size Go.Mono.G0 intE Tryz.underlying30 S3 hf (by decide) hW23 (fun b hb => hb.elim) fun a pv w e' hpv Ho hf => ?_
        replace e := Ext.tr e e'; replace e2 := Ext.tr e2 e'; replace e3 := Ext.tr e3 e'; replace hT := hT.ext e'; replace B8 := B8.ext e'
        clear e'
        refine tl_op hf (by decide) (mv rfl) fun a w e' hf => ?_
        replace hT := hT.ext e'
        replace e2 := Ext.tr e2 e'
        replace e3 := Ext.tr e3 e'
        replace Ho := Ho.ext e'
        replace e := Ext.tr e e'
        replace B8 := B8.ext e'
        clear e'
        replace hf := hf.keep [7, 8, 9, 10, 15, 16, 84, 85]
        dsimp only [keep, List.filterMap, look, Nat.beq, Option.map] at hf
        have hsl : Is _ w (.tmp 85) (Dv (slE intE) (GO Go.Mono.G0 pv) (natL od)) := isE (L := [(7, E gv), (8, E (ptr b8)), (9, E (I wd)), (10, E ov), (15, E (I (pa : Nat))), (16, E (I (pb : Nat))), (84, E pv), (85, E ov)]) (v := ov) rfl (Dv.weak (VA.st _ _ _ _ e3 hov) fun b _ hb => hb.elim (fun h => h.elim) fun h => .inr (Ho.lt h).1)
        refine tl_app Tryz.underlying30 I3 rfl rfl hf (by decide) rfl Ho hsl (by rw [List.length_nil]; omega) (by rw [List.length_nil]; simp only [maxLen]; omega) fun a pv' w hg hat Hn hf => ?_
        clear hsl
        have hrow : ∀ b, pv.ownBlock = some b → W2.heap.size ≤ b := fun b hb => (Ho.lt hb).1
        replace B8 := B8.gro hg (fun h => by have := Ho.neB B8 (by decide); exact this h)
        replace e := e.gro hg (fun b hb => by have := hrow b hb; omega)
        replace e2 := e2.gro hg (fun b hb => by have := hrow b hb; omega)
        replace e3 := e3.gro hg hrow
        replace hT := hT.gro hg (fun b hb => by have := hrow b hb; omega)
        clear hrow hat hg Ho hpv
        rw [List.nil_append] at Hn
        replace hf := hf.keep [7, 8, 9, 15, 16, 86]
        dsimp only [keep, List.filterMap, look, Nat.beq, Option.map] at hf
        refine tl_as hf rfl (by decide) fun a hf => ?_
        refine tl_nil ?_
        have hq := Hn.queue (fun h => by rw [h] at hL0; simp at hL0; omega)
        obtain ⟨gb, off, cap, cur, rfl, hB, hb, hcp, ho', hcell⟩ := hq.own
        have n8b : b8 ≠ gb := fun h => by have := Hn.neB B8 (by decide); exact this (by rw [h]; rfl)
        clear hq Hn
        have hxa : (natL od)[pa]? = some (gi (natL od) pa) := gi_get (by omega)
        have hxb : (natL od)[pb]? = some (gi (natL od) pb) := gi_get (by omega)
        obtain ⟨za, hza⟩ : ∃ za, za = gi (natL od) pa := ⟨_, rfl⟩
        obtain ⟨zb, hzb⟩ : ∃ zb, zb = gi (natL od) pb := ⟨_, rfl⟩
        rw [← hza] at hxa
        rw [← hzb] at hxb
        have ea : off + ((pa : Nat) : Int).toNat * 1 = off + pa := by omega
        have eb : off + ((pb : Nat) : Int).toNat * 1 = off + pb := by omega
        rw [← hL0] at hf hcp
        replace hf := hf.keep [7, 8, 9, 15, 16, 17]
        dsimp only [keep, List.filterMap, look, Nat.beq, Option.map] at hf
        repeat refine seq ?_
        refine regJ 15 [2, 2, 1, 1, 2, 2, 2, 2, 2, 2, 2, 2, 2] (Chg fun c => c = gb) (RelJ.one _) (fun w => Blk w gb (cur.setIfInBounds (off + ((pa : Nat) : Int).toNat * 1) (I zb)) 3) (fun w w1 k h => h.ext k) Mix.mix hf (by decide +kernel) (by decide +kernel) ?_
        refine jk (mv rfl) ?_
        refine jk (mv rfl) ?_
        refine jf (fun w1 h1 => mv rfl) ?_
        refine jf (fun w1 h1 => mv rfl) ?_
        refine jk (mv rfl) ?_
        refine jk (mv rfl) ?_
        refine jk (idxS Tryz.underlying30 S3 rfl rfl (by omega)) ?_
        refine jk (ld1 (v := I zb) T3 rfl hb (by rw [eb]; exact hcell pb zb hxb)) ?_
        refine jk (mv rfl) ?_
        refine jk (mv rfl) ?_
        refine jk (idxS Tryz.underlying30 S3 rfl rfl (by omega)) ?_
        refine jk (ld1 (v := I za) T3 rfl hb (by rw [ea]; exact hcell pa za hxa)) ?_
        refine jk (idxS Tryz.underlying30 S3 rfl rfl (by omega)) ?_
        refine jx (xst1J T3 rfl rfl rfl hb (by rw [ea]; omega)) ?_
        refine jp (fun w1 h1 HF1 => idxS Tryz.underlying30 S3 rfl rfl (by omega)) ?_
        refine je ?_
        refine fun a w hc HF hf => ?_
        try dsimp only [push] at hf
        rw [ea] at HF
        replace e := e.ch hc (fun b hb => by omega)
        replace e2 := e2.ch hc (fun b hb => by omega)
        replace e3 := e3.ch hc (fun b hb => by omega)
        replace hT := hT.ch hc (by omega)
        replace B8 := B8.ch hc n8b
        clear hc hb
        replace hf := hf.keep [7, 8, 9, 17, 98, 100]
        dsimp only [keep, List.filterMap, look, Nat.beq, Option.map] at hf
        refine tl_st1 T3 hf rfl rfl rfl HF (by rw [eb, Array.size_setIfInBounds]; omega) fun w hg hsz HB hf => ?_
        rw [eb] at HB
        replace e := e.gr hg (by omega); replace e2 := e2.gr hg (by omega); replace e3 := e3.gr hg (by omega); replace hT := hT.gr hg (by omega); replace B8 := B8.gr hg n8b
        clear hg HF
        refine tl_nil ?_
        obtain ⟨m, hm1, hm2⟩ := swL_nat (l := od) (a := pa) (b := pb) (by rw [natL, List.length_map] at hL0; omega) (by rw [natL, List.length_map] at hL0; omega)
        have hq : QR 3 W2.heap.size w (natL m) (.slice (some ⟨gb, off, none⟩) L0 cap) := by
          have hlm : (natL m).length = L0 := by rw [natL, List.length_map, hm2.length_eq, hL0, natL, List.length_map]
          refine ⟨gb, off, cap, _, by rw [hlm], hB, HB, by rw [hlm]; exact hcp, by simp only [Array.size_setIfInBounds]; exact ho', fun i z hz => ?_⟩
          rw [← hm1, swL, ← hza, ← hzb] at hz
          by_cases hib : i = pb
          · subst hib
            rw [List.getElem?_set_self (by rw [List.length_set]; omega)] at hz
            cases hz
            rw [Array.getElem?_setIfInBounds_self_of_lt (by rw [Array.size_setIfInBounds]; omega)]
          · rw [List.getElem?_set_ne (Ne.symm hib)] at hz
            rw [Array.getElem?_setIfInBounds_ne (by omega)]
            by_cases hia : i = pa
            · subst hia
              rw [List.getElem?_set_self (by omega)] at hz
              cases hz
              rw [Array.getElem?_setIfInBounds_self_of_lt (by omega)]
            · rw [List.getElem?_set_ne (Ne.symm hia)] at hz
              rw [Array.getElem?_setIfInBounds_ne (by omega)]
              exact hcell i z hz
        have hqd := hq.dv (G := Go.Mono.G0) fun b _ h => h
        have hmn := natL_in ok (l := m) fun i hi => (wo2 i).1 (by rw [← hod]; exact hm2.mem_iff.1 hi)
        have hwm := hwr m hm2
        have hml : (natL m).length ≤ 1000 := by rw [natL, List.length_map, hm2.length_eq]; rw [natL, List.length_map] at hL0; omega
        clear hq HB hcell
        replace hf := hf.keep [8, 9, 17]
        dsimp only [keep, List.filterMap, look, Nat.beq, Option.map] at hf
        have e5 := e2
        obtain ⟨W3, hW3⟩ : ∃ W3, W3 = w := ⟨_, rfl⟩
        have e7 : Ext W3 w := by rw [hW3]; exact Ext.rfl' _
        rw [← hW3] at hqd
        clear hW3
        repeat refine seq ?_
        refine regn 8 hf (by decide +kernel) ?_
        refine st ((ldW T25 rfl B8 rfl).eq ((rfl : _ = Value.agg #[z1, z2]))) ?_
        refine st (mv rfl) ?_
        refine st (call2 (A := E (I (costG gg (natL m)))) En17 rfl rfl (fun v u w he k1 k2 => by cases k1; cases k2; exact cost_spec gg (natL m) _ _ w (VA.st _ _ _ _ (Ext.tr e5 he) hzz) (VA.st _ _ _ _ (Ext.tr e7 he) hqd) (by omega) (by omega) hml hmn)) ?_
        refine st (mv rfl) ?_
        refine st ((geq rfl rfl).eq (congrArg Value.bool (decide_eq_true hwm))) ?_
        refine st (mv rfl) ?_
        refine sy rfl rfl (call0 (A := E (B true)) En10 (fun w he => known23_spec w (hT.ext he))) ?_
        refine st (pkT rfl rfl) ?_
        refine en fun a w e' hf => ?_
        replace hT := hT.ext e'
        replace e := Ext.tr e e'
        replace B8 := B8.ext e'
        clear e'
        refine tl_as hf rfl (by decide) fun a hf => ?_
        refine tl_nil ?_
        refine wret ?_
        try simp only [Exit.then, Exit.inBlock]
        refine ret1 rfl hf rfl ?_
        rintro _ rfl
        exact ⟨_, rfl, e, rfl⟩
end Go.Mono
