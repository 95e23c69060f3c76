/-
  XLawRe.
  No condition.
-/
import Derived.Test.YtnknjdnfbaaeoaaGreatDoorFF
set_option linter.unusedVariables false
set_option linter.unusedSimpArgs false
namespace Go.Mono
open Go Go.Proofs Go.RowKit Go.Gr
theorem ordR_succ {g : GT} {TH : BS} {v x : Int} {k : Nat} (h : (idsG g)[k]? = some x) : ordR g TH v (k + 1) = ordR g TH v k ++ if (has TH x && decide (x ≠ v)) = true then [x] else [] := by
  rw [ordR, take_succ_get h, List.filter_append, ordR, List.filter_cons, List.filter_nil]
theorem ordR_len (g : GT) (TH : BS) (v : Int) (k : Nat) : (ordR g TH v k).length ≤ k := Nat.le_trans (List.length_filter_le _ _) (List.length_take_le _ _)
theorem lawRe_spec {G : Nat → Prop} (g : GT) (l : List Int) (v0 : Int) (v uf : Value) (W : World) (hT : Tab W) (h : (Dv gtE G g).p v W) (hV : ∀ x ∈ g.1, 0 ≤ x.2.1 ∧ x.2.1 < 256) (hE : ∀ x ∈ g.2, 0 ≤ x.2.1 ∧ x.2.1 < 256) (h' : (Dv (slE intE) G l).p uf W) :
    Calls Tryz.prog 7 #[v, uf, I v0] W (Post (E (B true)) W) := by
  have hT0 := hT.lt
  obtain ⟨u1, u2, rfl, h1, h2⟩ := Dv.gt.1 (Dv.weak (G' := Go.Mono.G0) h fun b _ hb => hb.elim)
  have hg0 : (Dv gtE Go.Mono.G0 g).p (.agg #[u1, u2]) W := Dv.gt.2 ⟨_, _, rfl, h1, h2⟩
  have hl0 : (Dv (slE intE) Go.Mono.G0 l).p uf W := Dv.weak h' fun b _ hb => hb.elim
  have dd : ∀ xs : List Int, decide (xs = xs) = true := fun xs => decide_eq_true rfl
  clear h'
  refine enter (args := [.agg #[u1, u2], uf, I v0]) (As := [E (.agg #[u1, u2]), E uf, E (I v0)]) Tryz.func7 rfl Tryz.ntmps7 (Nat.le_of_ble_eq_true rfl) ?_ (fun a hf => ?_) (Nat.le_of_ble_eq_true rfl)
  rotate_left
  dsimp only [params, Nat.reduceAdd] at hf
  rotate_right
  · exact arg3 rfl rfl rfl
  have e := Ext.rfl' W
  repeat refine seq ?_
  refine regn0 ?_
  refine tl_box hf rfl (by decide) fun a b3 w v3 hv3 e' hb3 hs3 B3 hf => ?_
  have hle3 := Nat.le_trans e.size (Nat.le_of_eq hb3.symm)
  replace hT := hT.ext e'
  replace e := Ext.tr e e'
  clear e'
  refine tl_as hf rfl (by decide) fun a hf => ?_
  refine tl_nil ?_
  cases hv3
  have e1 := e
  repeat refine seq ?_
  refine regn 5 hf (by decide +kernel) ?_
  refine st ((ldW T25 rfl B3 rfl).eq ((rfl : _ = Value.agg #[u1, u2]))) ?_
  refine st (call2 (A := Tup [FrA g 9, Dv gtE Go.Mono.G0 (frW g 9).1]) En9 rfl rfl (fun v u w he k1 k2 => by cases k1; cases k2; exact from23_spec g 9 _ w (VA.st _ _ _ _ (Ext.tr e1 he) hg0) (by omega) hV hE)) ?_
  refine st (mv rfl) ?_
  refine st (ext_ rfl rfl) ?_
  refine st (ext_ rfl rfl) ?_
  refine en fun a w e' hf => ?_
  replace hT := hT.ext e'
  replace e := Ext.tr e e'
  replace B3 := B3.ext e'
  clear e'
  obtain ⟨z, hz, hf⟩ := hf.opn 19 rfl
  obtain ⟨z1, z2, rfl, hz1, hz2⟩ := Dv.gt.1 hz
  have hzo : (#[z1, z2] : Array Value).all (·.oneCell') = true := one2 (slOne hz1) (slOne hz2)
  obtain ⟨gv, hgv, hf⟩ := hf.opn 18 rfl
  obtain ⟨W1, hW1⟩ : ∃ W1, W1 = w := ⟨_, rfl⟩
  have e2 : Ext W1 w := by rw [hW1]; exact Ext.rfl' _
  replace hgv : (FrA g 9).p gv W1 := by rw [hW1]; exact hgv
  have hzz : (Dv gtE Go.Mono.G0 (frW g 9).1).p (.agg #[z1, z2]) W1 := by rw [hW1]; exact hz
  have hWW : W1.heap.size ≤ w.heap.size := e2.size
  have hW0 : W.heap.size ≤ W1.heap.size := by rw [hW1]; exact e.size
  clear hW1 hz hz1 hz2 B3 e1
  replace hf := hf.keep [1, 2, 18, 19]
  dsimp only [keep, List.filterMap, look, Nat.beq, Option.map] at hf
  refine tl_alloc I25 hf (by decide) fun a b8 w e' hb8 hs8 B8 hf => ?_
  have hle8 := Nat.le_trans e.size (Nat.le_of_eq hb8.symm)
  replace hT := hT.ext e'
  replace e2 := Ext.tr e2 e'
  replace e := Ext.tr e e'
  clear e'
  have n8 : W1.heap.size ≤ b8 := by omega
  refine tl_as hf rfl (by decide) fun a hf => ?_
  refine tl_stW T25 hf rfl rfl hzo B8 rfl rfl fun w hg hsz B8 hf => ?_
  replace e := e.gr hg (by omega); replace hT := hT.gr hg (by omega); replace e2 := e2.gr hg n8; clear hg
  refine tl_nil ?_
  replace hf := hf.keep [1, 2, 7, 8]
  dsimp only [keep, List.filterMap, look, Nat.beq, Option.map] at hf
  cases hfr' : (frW g 9).2 with
  | false =>
    obtain rfl := hgv.2 hfr'
    repeat refine seq ?_
    refine regn 7 hf (by decide +kernel) ?_
    refine st (mv rfl) ?_
    refine st (eqlPP Tryz.underlying26 rfl rfl (.inl rfl)) ?_
    refine st (mv rfl) ?_
    refine sn rfl rfl rfl ?_
    refine sn rfl rfl rfl ?_
    refine sn rfl rfl rfl ?_
    refine st (pkT rfl rfl) ?_
    refine en fun a w e' hf => ?_
    replace hT := hT.ext e'
    replace e2 := Ext.tr e2 e'
    replace e := Ext.tr e e'
    replace B8 := B8.ext e'
    clear e'
    refine tl_nil ?_
    repeat refine seq ?_
    refine ifc hf rfl (fun _ => ?_) (fun h => by cases h)
    repeat refine seq ?_
    refine regn 1 hf (by decide +kernel) ?_
    refine st (call0 (A := E (B true)) En10 (fun w he => known23_spec w (hT.ext he))) ?_
    refine en fun a w e' hf => ?_
    replace hT := hT.ext e'
    replace e2 := Ext.tr e2 e'
    replace e := Ext.tr e e'
    replace B8 := B8.ext e'
    clear e'
    refine tl_as hf rfl (by decide) fun a hf => ?_
    refine tl_nil ?_
    refine wret ?_
    try simp only [Exit.then, Exit.inBlock]
    refine ret1 rfl hf rfl ?_
    rintro _ rfl
    exact ⟨_, rfl, e, rfl⟩
  | true =>
    obtain ⟨ok, l1, l2⟩ := twOk hfr' hV hE (by omega)
    have hgd := hgv.1 hfr'
    have gs1 := ok.sv
    have gs2 := ok.se
    have hl1 : (frW g 9).1.1.length ≤ 12 := by omega
    generalize (frW g 9).1 = gg at ok l1 l2 hgd gs1 gs2 hl1 hzz
    by_cases hl5 : (20 : Int) < ((l.length : Nat) : Int)
    · repeat refine seq ?_
      refine regn 7 hf (by decide +kernel) ?_
      refine st (mv rfl) ?_
      refine st (eqlP Tryz.underlying26 (isE rfl (VA.st _ _ _ _ e2 hgd))) ?_
      refine st (mv rfl) ?_
      refine sy rfl rfl (mv rfl) ?_
      refine sy rfl rfl (lenD Tryz.underlying30 (isE rfl (VA.st _ _ _ _ e hl0))) ?_
      refine sy rfl rfl ((gtr rfl rfl).eq (congrArg Value.bool (decide_eq_true hl5))) ?_
      refine st (pkF rfl rfl) ?_
      refine en fun a w e' hf => ?_
      replace hT := hT.ext e'
      replace e2 := Ext.tr e2 e'
      replace e := Ext.tr e e'
      replace B8 := B8.ext e'
      clear e'
      refine tl_nil ?_
      repeat refine seq ?_
      refine ifc hf rfl (fun _ => ?_) (fun h => by cases h)
      repeat refine seq ?_
      refine regn 1 hf (by decide +kernel) ?_
      refine st (call0 (A := E (B true)) En10 (fun w he => known23_spec w (hT.ext he))) ?_
      refine en fun a w e' hf => ?_
      replace hT := hT.ext e'
      replace e2 := Ext.tr e2 e'
      replace e := Ext.tr e e'
      replace B8 := B8.ext e'
      clear e'
      refine tl_as hf rfl (by decide) fun a hf => ?_
      refine tl_nil ?_
      refine wret ?_
      try simp only [Exit.then, Exit.inBlock]
      refine ret1 rfl hf rfl ?_
      rintro _ rfl
      exact ⟨_, rfl, e, rfl⟩
    · repeat refine seq ?_
      refine regn 7 hf (by decide +kernel) ?_
      refine st (mv rfl) ?_
      refine st (eqlP Tryz.underlying26 (isE rfl (VA.st _ _ _ _ e2 hgd))) ?_
      refine st (mv rfl) ?_
      refine sy rfl rfl (mv rfl) ?_
      refine sy rfl rfl (lenD Tryz.underlying30 (isE rfl (VA.st _ _ _ _ e hl0))) ?_
      refine sy rfl rfl ((gtr rfl rfl).eq (congrArg Value.bool (decide_eq_false hl5))) ?_
      refine st (pkF rfl rfl) ?_
      refine en fun a w e' hf => ?_
      replace hT := hT.ext e'
      replace e2 := Ext.tr e2 e'
      replace e := Ext.tr e e'
      replace B8 := B8.ext e'
      clear e'
      refine tl_nil ?_
      repeat refine seq ?_
      refine ifc hf rfl (fun h => by cases h) (fun _ => ?_)
      refine wskip ?_
      try simp only [Exit.then, Exit.inBlock, ↓reduceIte]
      have hll : l.length ≤ 20 := by omega
      obtain ⟨TH, hTH⟩ : ∃ TH, TH = l.foldl ins 0 := ⟨_, rfl⟩
      obtain ⟨rg, hrg⟩ : ∃ rg, rg = rchG gg TH v0 := ⟨_, rfl⟩
      have href : refG gg l v0 = natE (elems rg) := by rw [hrg, hTH]; exact ref_is ok v0
      have hel : (natE (elems rg)).length ≤ 100000 := by
        rw [natE, List.length_map, elems]
        have := List.length_filter_le (fun i => rg.getLsbD i) (List.range 1024)
        rw [List.length_range] at this
        exact Nat.le_trans this (by omega)
      have e4 := e
      have e5 := e2
      have hT4 := hT
      repeat refine seq ?_
      refine regn 5 hf (by decide +kernel) ?_
      refine st (mv rfl) ?_
      refine st (mv rfl) ?_
      refine st (call1 (A := E (setV TH)) En22 rfl (fun v w he k => by cases k; rw [hTH]; exact of_spec l _ w (VA.st _ _ _ _ (Ext.tr e4 he) hl0) (by omega))) ?_
      refine st (mv rfl) ?_
      refine st (call3 (A := E (setV rg)) En23 rfl rfl rfl (fun v u s w he k1 k2 k3 => by cases k1; cases k2; cases k3; rw [hrg]; exact reachable_spec gg TH v0 _ w (hT4.ext he) (VA.st _ _ _ _ (Ext.tr e5 he) hgd) gs1 gs2 (by omega) (by omega) (by omega))) ?_
      refine en fun a w e' hf => ?_
      replace hT := hT.ext e'
      replace e2 := Ext.tr e2 e'
      replace e := Ext.tr e e'
      replace B8 := B8.ext e'
      clear e'
      clear hT4 e4 e5
      replace hf := hf.keep [1, 2, 8, 32]
      dsimp only [keep, List.filterMap, look, Nat.beq, Option.map] at hf
      have l8 := B8.lt
      have hW2 := e2.size
      refine tl_alloc I41 hf (by decide) fun a b9 w e' hb9 hs9 B9 hf => ?_
      have hle9 := Nat.le_trans e.size (Nat.le_of_eq hb9.symm)
      have lt9_B8 := B8.lt
      replace hT := hT.ext e'
      replace e2 := Ext.tr e2 e'
      replace e := Ext.tr e e'
      replace B8 := B8.ext e'
      clear e'
      simp only [Value.cells, zeroC] at B9
      have n9 : W1.heap.size ≤ b9 ∧ b8 ≠ b9 := by omega
      refine tl_stW T41 hf rfl rfl (wordsC_one _) B9 rfl (setC_size _) fun w hg hsz B9 hf => ?_
      replace e := e.gr hg (by omega); replace hT := hT.gr hg (by omega); replace e2 := e2.gr hg (by omega); replace B8 := B8.gr hg (by omega); clear hg l8 hW2
      refine tl_nil ?_
      replace hf := hf.keep [1, 2, 8, 9]
      dsimp only [keep, List.filterMap, look, Nat.beq, Option.map] at hf
      have e4 := e
      have e5 := e2
      repeat refine seq ?_
      refine regn 4 hf (by decide +kernel) ?_
      refine st ((ldW T25 rfl B8 rfl).eq ((rfl : _ = Value.agg #[z1, z2]))) ?_
      refine st (mv rfl) ?_
      refine st (mv rfl) ?_
      refine st (call3 (A := Dv (slE intE) Go.Mono.G0 (natE (elems rg))) En25 rfl rfl rfl (fun v u s w he k1 k2 k3 => by cases k1; cases k2; cases k3; rw [← href]; exact reach23_spec gg l v0 _ _ w (VA.st _ _ _ _ (Ext.tr e5 he) hzz) (VA.st _ _ _ _ (Ext.tr e4 he) hl0) (by omega) (by omega) (by omega))) ?_
      refine en fun a w e' hf => ?_
      replace hT := hT.ext e'
      replace e2 := Ext.tr e2 e'
      replace e := Ext.tr e e'
      replace B8 := B8.ext e'
      replace B9 := B9.ext e'
      clear e'
      refine tl_as hf rfl (by decide) fun a hf => ?_
      refine tl_nil ?_
      replace hf := hf.keep [1, 2, 8, 9, 10]
      dsimp only [keep, List.filterMap, look, Nat.beq, Option.map] at hf
      have hT4 := hT
      repeat refine seq ?_
      refine regn 5 hf (by decide +kernel) ?_
      refine st ((ldW T41 rfl B9 rfl).eq ((rfl : _ = setV rg))) ?_
      refine st (call1 (A := Dv (slE intE) Go.Mono.G0 (natE (elems rg))) En26 rfl (fun v w he k => by cases k; exact elements_spec rg w (hT4.ext he))) ?_
      refine st (mv rfl) ?_
      refine st (call2 (A := E (B true)) En14 rfl rfl (fun v u w he k k' => by have := same23_spec (natE (elems rg)) (natE (elems rg)) v u w k k' hel hel; rwa [dd] at this)) ?_
      refine st (notp rfl) ?_
      refine en fun a w e' hf => ?_
      replace hT := hT.ext e'
      replace e2 := Ext.tr e2 e'
      replace e := Ext.tr e e'
      replace B8 := B8.ext e'
      replace B9 := B9.ext e'
      clear e'
      refine tl_nil ?_
      repeat refine seq ?_
      refine ifc hf rfl (fun h => by cases h) (fun _ => ?_)
      refine wskip ?_
      try simp only [Exit.then, Exit.inBlock, ↓reduceIte]
      clear hT4 e4 e5 href hel
      replace hf := hf.keep [1, 2, 8, 9]
      dsimp only [keep, List.filterMap, look, Nat.beq, Option.map] at hf
      obtain ⟨N, hN⟩ : ∃ N, N = w.heap.size := ⟨_, rfl⟩
      have l8 : b8 < N := by rw [hN]; exact B8.lt
      have l9 : b9 < N := by rw [hN]; exact B9.lt
      have hWN : W.heap.size ≤ N := by rw [hN]; exact e.size
      have hW1N : W1.heap.size ≤ N := by rw [hN]; exact e2.size
      have hNs : N ≤ w.heap.size := Nat.le_of_eq hN
      clear hN
      obtain ⟨_, _, hzq, hz1, hz2⟩ := Dv.gt.1 hzz
      cases hzq
      have hz1b := Dv.toB hz1
      repeat refine seq ?_
      refine regn0 ?_
      refine tl_as hf rfl (by decide) fun a hf => ?_
      refine tl_nil ?_
      repeat refine seq ?_
      refine regn0 ?_
      refine tl_as hf rfl (by decide) fun a hf => ?_
      refine tl_nil ?_
      replace hf := hf.keep [1, 2, 8, 9, 11, 12]
      dsimp only [keep, List.filterMap, look, Nat.beq, Option.map] at hf
      repeat refine seq ?_
      refine blk (loopN (fun r0 a w => ∃ (k : Nat) (u : Value), r0 = gg.1.length - k ∧ k ≤ gg.1.length ∧ Fr 110 a w [(1, E uf), (2, E (I v0)), (8, E (ptr b8)), (9, E (ptr b9)), (11, E u), (12, E (I k))] ∧ Ext W w ∧ Blk w b8 #[z1, z2] 25 ∧ Blk w b9 (setC rg) 41 ∧ Tab w ∧ Ext W1 w ∧ OwR intE 3 N Go.Mono.G0 w (ordR gg TH v0 k) u) gg.1.length ⟨0, .slice none 0 0, rfl, by omega, hf, e, ⟨B8, B9, hT, e2, OwR.nil intE _ hNs fun b hb => hb.elim⟩⟩ ?_)
      clear hf e; try clear B8; try clear B9; try clear hT; try clear e2; try clear H
      rintro r0 a w ⟨k, u, rfl, hk, hf, e, B8, B9, hT, e2, H⟩
      repeat refine seq ?_
      refine regn 5 hf (by decide +kernel) ?_
      refine st (mv rfl) ?_
      refine st (fldA Tryz.underlying25 rfl T22 (by decide) rfl) ?_
      refine st (ld1 T22 rfl B8 rfl) ?_
      refine st (lenD Tryz.underlying22 (isE rfl (VA.st _ _ _ _ e2 hz1))) ?_
      refine st (lss rfl rfl) ?_
      refine en fun a w e' hf => ?_
      replace hT := hT.ext e'
      replace e2 := Ext.tr e2 e'
      replace H := H.ext e'
      replace e := Ext.tr e e'
      replace B8 := B8.ext e'
      replace B9 := B9.ext e'
      clear e'
      refine tl_nil ?_
      repeat refine seq ?_
      refine ifc hf rfl (fun hc => wskip ?_) (fun hc => wexit ?_)
      rotate_left
      rotate_left
      · have hlt : k < gg.1.length := by have := of_decide_eq_true hc; (try dsimp only at this); omega
        clear hc
        replace hf := hf.keep [1, 2, 8, 9, 11, 12]
        dsimp only [keep, List.filterMap, look, Nat.beq, Option.map] at hf
        repeat refine seq ?_
        refine blk ?_
        have hx := List.getElem?_eq_getElem hlt
        generalize gg.1[k] = y at hx
        have hxi : (idsG gg)[k]? = some y.1 := by rw [idsG, List.getElem?_map, hx]; rfl
        have hsc := ordR_succ (TH := TH) (v := v0) hxi
        have hlk := ordR_len gg TH v0 k
        have e12 := e
        repeat refine seq ?_
        refine reg 19 Mix.mix hf (by decide +kernel) ?_
        refine st (mv rfl) ?_
        refine st (call1 (A := E (setV TH)) En22 rfl (fun v w he k => by cases k; rw [hTH]; exact of_spec l _ w (VA.st _ _ _ _ (Ext.tr e12 he) hl0) (by omega))) ?_
        refine st (fldA Tryz.underlying25 rfl T22 (by decide) rfl) ?_
        refine st (ld1 T22 rfl B8 rfl) ?_
        refine st (mv rfl) ?_
        refine st (idxD Tryz.underlying22 S66 (isE rfl (VA.st _ _ _ _ e2 hz1b)) rfl (by omega) (hx)) ?_
        refine st (fldD Tryz.underlying66 rfl T3 (by decide) (Fld.fst Fld.refl) (isR rfl)) ?_
        refine st (ldI T3 (isR rfl)) ?_
        refine st (call2 (A := E (B (has TH y.1))) En27 rfl rfl (fun v u w he k k' => by cases k; cases k'; exact has_spec TH _ w)) ?_
        refine st (mv rfl) ?_
        refine sgE rfl rfl (.k 8 rfl .n) (fun hgd => fldA Tryz.underlying25 rfl T22 (by decide) rfl) ?_
        refine sgE rfl rfl (.c 59 rfl (fun h => h) .n) (fun hgd => ld1 T22 rfl B8 rfl) ?_
        refine sgE rfl rfl (.k 12 rfl .n) (fun hgd => mv rfl) ?_
        refine sgE rfl rfl (.c 60 rfl (fun h => h) (.c 61 rfl (fun h => h) .n)) (fun hgd => idxD Tryz.underlying22 S66 (isE rfl (VA.st _ _ _ _ e2 hz1b)) rfl rfl (hx)) ?_
        refine sgE rfl rfl (.c 62 rfl (fun h => h) .n) (fun hgd => fldD Tryz.underlying66 rfl T3 (by decide) (Fld.fst Fld.refl) (isR rfl)) ?_
        refine sgE rfl rfl (.c 63 rfl (fun h => h) .n) (fun hgd => ldI T3 (isR rfl)) ?_
        refine sgE rfl rfl (.k 2 rfl .n) (fun hgd => mv rfl) ?_
        refine sgE rfl rfl (.c 64 rfl (fun h => h) (.c 65 rfl (fun h => h) .n)) (fun hgd => neq rfl rfl) ?_
        refine st (pkAnd rfl rfl (fun h => by rw [h]; rfl)) ?_
        refine en fun a w e' hf => ?_
        replace hT := hT.ext e'
        replace e2 := Ext.tr e2 e'
        replace H := H.ext e'
        replace e := Ext.tr e e'
        replace B8 := B8.ext e'
        replace B9 := B9.ext e'
        clear e'
        refine tl_nil ?_
        clear e12
        repeat refine seq ?_
        refine ifc hf rfl (fun hb => ?_) (fun hb => ?_)
        · have hP : (has TH y.1 && decide (y.1 ≠ v0)) = true := by simpa using hb
          rw [if_pos hP] at hsc
          replace hf := hf.keep [1, 2, 8, 9, 11, 12]
          dsimp only [keep, List.filterMap, look, Nat.beq, Option.map] at hf
          haveI hin1 : ∀ G0, InR (GB W1 G0) u.ownBlock := OwR.inGB (W := W1) H hW1N
          have nx8 := H.neLt l8
          have nx9 := H.neLt l9
          repeat refine seq ?_
          refine regn 8 hf (by decide +kernel) ?_
          refine st (mv rfl) ?_
          refine st (fldA Tryz.underlying25 rfl T22 (by decide) rfl) ?_
          refine st (ld1 T22 rfl B8 rfl) ?_
          refine st (mv rfl) ?_
          refine st (idxD Tryz.underlying22 S66 (isE rfl (VA.st _ _ _ _ e2 hz1b)) rfl (by omega) (hx)) ?_
          refine st (fldD Tryz.underlying66 rfl T3 (by decide) (Fld.fst Fld.refl) (isR rfl)) ?_
          refine st (ldI T3 (isR rfl)) ?_
          refine st (bsl1 Tryz.underlying30 I3 rfl (by decide) rfl H.avs (isI rfl)) ?_
          refine en fun a w e' hf => ?_
          replace B8 := B8.ext e'
          replace B9 := B9.ext e'
          replace hT := hT.ext e'
          replace e2 := Ext.tr e2 e'
          replace H := H.ext e'
          replace e := Ext.tr e e'
          clear e'
          haveI hin : ∀ G0, InR (GB W G0) _ := OwR.inGB (W := W) H hWN
          refine tl_app Tryz.underlying30 I3 rfl rfl hf (by decide) rfl H (isR rfl) (by simp only [List.length_singleton]; omega) (by simp only [List.length_singleton, maxLen]; omega) fun a v w hg hat Hn hf => ?_
          replace e := e.gro hg (H.row (W := W) hWN)
          have hrow := H.row (W := W) hWN
          replace B8 := B8.gro hg nx8
          replace B9 := B9.gro hg nx9
          replace hT := hT.gro hg (fun b hb => by have := (H.lt hb).1; omega)
          replace e2 := e2.gro hg (fun b hb => by have := (H.lt hb).1; omega)
          replace H := Hn
          clear hrow
          replace H := Hn; clear Hn hg hat hin
          refine tl_as hf rfl (by decide) fun a hf => ?_
          refine tl_nil ?_
          clear hin1 nx8 nx9
          rw [← hsc] at H
          try simp only [Exit.then, Exit.inBlock, ↓reduceIte]
          repeat refine seq ?_
          refine regn 2 hf (by decide +kernel) ?_
          refine st (mv rfl) ?_
          refine st ((add rfl rfl (by omega)).eq (congrArg (Value.int .i64) (show (k : Int) + 1 = ((k + 1 : Nat) : Int) from rfl))) ?_
          refine en fun a w e' hf => ?_
          replace B8 := B8.ext e'
          replace B9 := B9.ext e'
          replace hT := hT.ext e'
          replace e2 := Ext.tr e2 e'
          replace H := H.ext e'
          replace e := Ext.tr e e'
          clear e'
          refine tl_as hf rfl (by decide) fun a hf => ?_
          refine tl_nil ?_
          replace hf := hf.keep [1, 2, 8, 9, 11, 12]
          dsimp only [keep, List.filterMap, look, Nat.beq, Option.map] at hf
          refine ⟨_, ?_, k + 1, _, rfl, by omega, hf, e, ?_⟩
          · omega
          exact ⟨B8, B9, hT, e2, H⟩
        · have hP : ¬(has TH y.1 && decide (y.1 ≠ v0)) = true := by simpa using hb
          rw [if_neg hP, List.append_nil] at hsc
          rw [← hsc] at H
          refine wskip ?_
          try simp only [Exit.then, Exit.inBlock, ↓reduceIte]
          try simp only [Exit.then, Exit.inBlock, ↓reduceIte]
          repeat refine seq ?_
          refine regn 2 hf (by decide +kernel) ?_
          refine st (mv rfl) ?_
          refine st ((add rfl rfl (by omega)).eq (congrArg (Value.int .i64) (show (k : Int) + 1 = ((k + 1 : Nat) : Int) from rfl))) ?_
          refine en fun a w e' hf => ?_
          replace B8 := B8.ext e'
          replace B9 := B9.ext e'
          replace hT := hT.ext e'
          replace e2 := Ext.tr e2 e'
          replace H := H.ext e'
          replace e := Ext.tr e e'
          clear e'
          refine tl_as hf rfl (by decide) fun a hf => ?_
          refine tl_nil ?_
          replace hf := hf.keep [1, 2, 8, 9, 11, 12]
          dsimp only [keep, List.filterMap, look, Nat.beq, Option.map] at hf
          refine ⟨_, ?_, k + 1, _, rfl, by omega, hf, e, ?_⟩
          · omega
          exact ⟨B8, B9, hT, e2, H⟩
      · obtain rfl : k = gg.1.length := by have := of_decide_eq_false hc; (try dsimp only at this); omega
        clear hc
        simp only [Exit.then, Exit.inBlock, ↓reduceIte]
        have hlI : (idsG gg).length = gg.1.length := by simp [idsG]
        obtain ⟨od, hod⟩ : ∃ od, od = ordR gg TH v0 gg.1.length := ⟨_, rfl⟩
        have hol : od.length ≤ 12 := by have := ordR_len gg TH v0 gg.1.length; rw [← hod] at this; omega
        have hin : ∀ x ∈ od, 0 ≤ fndF gg.1 x ∧ fndF gg.1 x < (gg.1.length : Nat) := by
          obtain ⟨ln, hln, _, hm⟩ := ordR_nat ok (TH := TH) (v := v0)
          rw [hod, ← hlI, hln]
          rw [hlI]
          exact natL_in ok fun i hi => ((hm i).1 hi).2.1
        rw [← hod] at H
        replace hf := hf.keep [1, 2, 8, 9, 11]
        dsimp only [keep, List.filterMap, look, Nat.beq, Option.map] at hf
        have e12 := e
        have e13 := e2
        repeat refine seq ?_
        refine regn 10 hf (by decide +kernel) ?_
        refine st ((ldW T25 rfl B8 rfl).eq ((rfl : _ = Value.agg #[z1, z2]))) ?_
        refine st (mv rfl) ?_
        refine st (call2 (A := E (I (fndF gg.1 v0))) En28 rfl rfl (fun v u w he k1 k2 => by cases k1; cases k2; exact find_spec gg _ _ w (VA.st _ _ _ _ (Ext.tr e13 he) hzz) (by omega))) ?_
        refine st (lss rfl rfl) ?_
        refine st (mv rfl) ?_
        refine sgE rfl rfl (.k 1 rfl .n) (fun hgd => mv rfl) ?_
        refine sgE rfl rfl (.c 82 rfl (fun h => h) .n) (fun hgd => call1 (A := E (setV TH)) (B := E uf) En22 rfl (fun v w he k => by cases k; rw [hTH]; exact of_spec l _ w (VA.st _ _ _ _ (Ext.tr e12 he) hl0) (by omega))) ?_
        refine sgE rfl rfl (.k 2 rfl .n) (fun hgd => mv rfl) ?_
        refine sgE rfl rfl (.c 83 rfl (fun h => h) (.c 84 rfl (fun h => h) .n)) (fun hgd => call2 (A := E (B (has TH v0))) (B := E (setV TH)) (C := E (I v0)) En27 rfl rfl (fun v u w he k k' => by cases k; cases k'; exact has_spec TH _ w)) ?_
        refine st (pkOr rfl rfl (fun h => by rw [h]; rfl)) ?_
        refine en fun a w e' hf => ?_
        replace hT := hT.ext e'
        replace e2 := Ext.tr e2 e'
        replace H := H.ext e'
        replace e := Ext.tr e e'
        replace B8 := B8.ext e'
        replace B9 := B9.ext e'
        clear e'
        refine tl_nil ?_
        clear e12 e13
        replace hf := hf.keep [1, 2, 8, 9, 11, 86]
        dsimp only [keep, List.filterMap, look, Nat.beq, Option.map] at hf
        repeat refine seq ?_
        refine ifc hf rfl (fun hb => ?_) (fun hb => ?_)
        · have hc : fndF gg.1 v0 < 0 ∨ has TH v0 = true := by simpa using hb
          have hr0 : rg = 0 := by
            rw [hrg, rchG]
            rcases hc with h | h
            · rw [if_pos ((fnd_has ok).1 h)]
            · rw [if_pos h]; split <;> rfl
          have hem : (rg == 0) = true := beq_iff_eq.2 hr0
          replace hf := hf.keep [9]
          dsimp only [keep, List.filterMap, look, Nat.beq, Option.map] at hf
          repeat refine seq ?_
          refine regn 5 hf (by decide +kernel) ?_
          refine st ((ldW T41 rfl B9 rfl).eq ((rfl : _ = setV rg))) ?_
          refine st (call1 (A := E (B true)) En24 rfl (fun v w he k => by cases k; have := isEmpty_spec rg w; rwa [hem] at this)) ?_
          refine st (mv rfl) ?_
          refine sy rfl rfl (call0 (A := E (B true)) En10 (fun w he => known23_spec w (hT.ext he))) ?_
          refine st (pkT rfl rfl) ?_
          refine en fun a w e' hf => ?_
          replace hT := hT.ext e'
          replace e := Ext.tr e e'
          replace B9 := B9.ext e'
          clear e'
          refine tl_as hf rfl (by decide) fun a hf => ?_
          refine tl_nil ?_
          refine wret ?_
          try simp only [Exit.then, Exit.inBlock]
          refine ret1 rfl hf rfl ?_
          rintro _ rfl
          exact ⟨_, rfl, e, rfl⟩
        have hc : ¬(fndF gg.1 v0 < 0 ∨ has TH v0 = true) := by simpa using hb
        clear hb
        refine wskip ?_
        try simp only [Exit.then, Exit.inBlock, ↓reduceIte]
        obtain ⟨va, rfl, ha⟩ := (mem_ids ok).1 (fnd_mem fun h => hc (.inl h))
        have hat : ¬TH.getLsbD va = true := fun h => hc (.inr ((has_bit _ va).2 h))
        have hr1 : rg = reB (nbA gg) TH (va : Int) := by
          rw [hrg, rchG, if_neg (fun h => hc (.inl ((fnd_has ok).2 h))), if_neg (fun h => hc (.inr h))]; rfl
        have hadd := cost_add ok ha hat
        rw [hlI, ← hod, ← hr1] at hadd
        have hin2 : ∀ x ∈ od ++ [(va : Int)], 0 ≤ fndF gg.1 x ∧ fndF gg.1 x < (gg.1.length : Nat) := fun x hx => by
          rcases List.mem_append.1 hx with h | h
          · exact hin x h
          · rw [List.mem_singleton.1 h]
            obtain ⟨p, hp, hpl, _⟩ := fnd_at ok ha
            omega
        obtain ⟨c1, hc1⟩ : ∃ c1, c1 = costG gg od := ⟨_, rfl⟩
        obtain ⟨c2, hc2⟩ : ∃ c2, c2 = costG gg (od ++ [(va : Int)]) := ⟨_, rfl⟩
        rw [← hc1, ← hc2] at hadd
        replace hf := hf.keep [1, 2, 8, 9, 11]
        dsimp only [keep, List.filterMap, look, Nat.beq, Option.map] at hf
        have e13 := e2
        have H13 := H
        repeat refine seq ?_
        refine regn 3 hf (by decide +kernel) ?_
        refine st ((ldW T25 rfl B8 rfl).eq ((rfl : _ = Value.agg #[z1, z2]))) ?_
        refine st (mv rfl) ?_
        refine st (call2 (A := E (I c1)) En17 rfl rfl (fun v u w he k1 k2 => by cases k1; cases k2; rw [hc1]; exact cost_spec gg od _ _ w (VA.st _ _ _ _ (Ext.tr e13 he) hzz) (VA.st _ _ _ _ he H13.sl) (by omega) (by omega) (by omega) hin)) ?_
        refine en fun a w e' hf => ?_
        replace hT := hT.ext e'
        replace e2 := Ext.tr e2 e'
        replace H := H.ext e'
        replace e := Ext.tr e e'
        replace B8 := B8.ext e'
        replace B9 := B9.ext e'
        clear e'
        refine tl_as hf rfl (by decide) fun a hf => ?_
        refine tl_nil ?_
        clear e13 H13
        replace hf := hf.keep [1, 2, 8, 9, 11, 13]
        dsimp only [keep, List.filterMap, look, Nat.beq, Option.map] at hf
        haveI r3 : InR (GO Go.Mono.G0 u) u.ownBlock := ⟨fun b hb => .inr hb⟩
        have nx8 := H.neLt l8
        have nx9 := H.neLt l9
        repeat refine seq ?_
        refine regX 5 4 u.ownBlock (by decide) Mix.mix hf (by decide +kernel) ?_
        refine xm (fun w1 h1 => (ldW T25 rfl (B8.gro h1 nx8) rfl).eq ((rfl : _ = Value.agg #[z1, z2]))) ?_
        refine xm (fun w1 h1 => mv rfl) ?_
        refine xm (fun w1 h1 => mv rfl) ?_
        refine xm (fun w1 h1 => bsl1 Tryz.underlying30 I3 rfl (by decide) rfl (fun b hb => Nat.lt_of_lt_of_le (H.avs b hb) h1.size) (isI rfl)) ?_
        refine xx (xapp Tryz.underlying30 I3 rfl rfl rfl H rfl (by simp only [List.length_singleton]; omega) (by simp only [List.length_singleton, maxLen]; omega)) ?_
        refine xe fun a w hg hf => ?_
        obtain ⟨v', ⟨Hn, hat'⟩, hf⟩ := hf.fix 99 rfl
        have hbase := fun (b : Nat) (hb : u.ownBlock = some b) => (H.lt hb).1
        replace e := e.gro hg (fun b hb => Nat.le_trans hWN (hbase b hb))
        replace e2 := e2.gro hg (fun b hb => Nat.le_trans hW1N (hbase b hb))
        replace hT := hT.gro hg (fun b hb => by have := hbase b hb; omega)
        replace B9 := B9.gro hg nx9
        clear hg nx8 nx9 hbase r3 H B8 hat'
        replace hf := hf.keep [1, 2, 9, 13, 95, 99]
        dsimp only [keep, List.filterMap, look, Nat.beq, Option.map] at hf
        have e13 := e2
        have H13 := Hn
        refine tl_op hf (by decide) (call2 (A := E (I c2)) En17 rfl rfl (fun v u w he k1 k2 => by cases k1; cases k2; rw [hc2]; exact cost_spec gg (od ++ [(va : Int)]) _ _ w (VA.st _ _ _ _ (Ext.tr e13 he) hzz) (VA.st _ _ _ _ he H13.sl) (by omega) (by omega) (by rw [List.length_append, List.length_singleton]; omega) hin2)) fun a w e' hf => ?_
        replace hT := hT.ext e'
        replace e2 := Ext.tr e2 e'
        replace e := Ext.tr e e'
        replace B9 := B9.ext e'
        clear e'
        refine tl_as hf rfl (by decide) fun a hf => ?_
        refine tl_nil ?_
        clear e13 H13 Hn
        replace hf := hf.keep [9, 13, 14]
        dsimp only [keep, List.filterMap, look, Nat.beq, Option.map] at hf
        repeat refine seq ?_
        refine regn 9 hf (by decide +kernel) ?_
        refine st (mv rfl) ?_
        refine st (mv rfl) ?_
        refine st ((ldW T41 rfl B9 rfl).eq ((rfl : _ = setV rg))) ?_
        refine st (call1 (A := E (I (card rg : Nat))) En29 rfl (fun v w he h => by cases h; exact len_spec _ w)) ?_
        refine st (max2 rfl rfl) ?_
        refine st ((eql rfl rfl).eq (congrArg Value.bool ((beq_iff_eq.2 hadd : (c2 == max c1 ((card rg : Nat) : Int)) = true)))) ?_
        refine st (mv rfl) ?_
        refine sy rfl rfl (call0 (A := E (B true)) En10 (fun w he => known23_spec w (hT.ext he))) ?_
        refine st (pkT rfl rfl) ?_
        refine en fun a w e' hf => ?_
        replace hT := hT.ext e'
        replace e := Ext.tr e e'
        replace B9 := B9.ext e'
        clear e'
        refine tl_as hf rfl (by decide) fun a hf => ?_
        refine tl_nil ?_
        refine wret ?_
        try simp only [Exit.then, Exit.inBlock]
        refine ret1 rfl hf rfl ?_
        rintro _ rfl
        exact ⟨_, rfl, e, rfl⟩
end Go.Mono
