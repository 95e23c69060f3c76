/-
  XLawFa.
  No condition.
-/
import Derived.Test.YtnknjdnfbaaeoaaGreatDoorEE
set_option linter.unusedVariables false
set_option linter.unusedSimpArgs false
namespace Go.Mono
open Go Go.Proofs Go.RowKit Go.Gr
theorem lawFa_spec {G : Nat → Prop} (n : Int) (l : List Int) (k0 : Int) (uf : Value) (W : World) (hT : Tab W) (hn : (Lit.int .u8 n).wf = true) (h' : (Dv (slE intE) G l).p uf W) :
    Calls Tryz.prog 6 #[.int .u8 n, uf, I k0] W (Post (E (B true)) W) := by
  have hT0 := hT.lt
  have hl0 : (Dv (slE intE) Go.Mono.G0 l).p uf W := Dv.weak h' fun b _ hb => hb.elim
  clear h'
  have w1 := u8_of' hn
  have hw : IntKind.i64.wrap n = n := by rw [IntKind.wrap_i64]; omega
  obtain ⟨m, hm⟩ : ∃ m : Nat, 3 + n % 12 = (m : Int) := ⟨(3 + n % 12).toNat, by omega⟩
  have hm3 : 3 ≤ m := by omega
  have hm14 : m ≤ 14 := by omega
  obtain ⟨wv, ov, ec, am, hcase, hWid, hAM⟩ : ∃ (wv : Int) (ov : List Int) (ec : Int) (am : Bool), ((m ≤ 12 ∧ wv = 2 ∧ ec = 0 ∧ am = decide (2 ≤ k0)) ∨ (12 < m ∧ wv = 0 ∧ ov = [] ∧ ec = 2 ∧ am = false)) ∧
      (∀ v w, Tab w → (Dv (ptE (grE 2000)) Go.Mono.G0 (some (ringG m))).p v w → Calls Tryz.prog 11 #[v] w (Post (Tup [E (I wv), Dv (slE intE) Go.Mono.G0 ov, E (I ec)]) w)) ∧
      (∀ v w, Tab w → (Dv (ptE (grE 2000)) Go.Mono.G0 (some (ringG m))).p v w → Calls Tryz.prog 18 #[v, I k0] w (Post (Tup [E (B am), E (I ec)]) w)) := by
    have ok := ring_gok hm3 hm14
    have hlm : (ringG m).1.length = m := by show (ringV m).length = m; rw [ringV, List.length_map, List.length_range]
    have hle : (ringG m).2.length ≤ 1000 := by show (ringS m).length ≤ 1000; simp [ringS]; omega
    by_cases h12 : m ≤ 12
    · have hl1 : (ringG m).1.length ≤ 12 := by omega
      have hsm := sml_ok ok hl1 (all := vset (ringG m).1) fun i h => h
      have hcv := Nat.le_trans (card_vset (ringG m)) hl1
      have h2 := ring_two hm3 h12
      refine ⟨2, natL (widO (ringG m)), 0, decide (2 ≤ k0), .inl ⟨h12, rfl, rfl, rfl⟩, fun v w hT hv => ?_, fun v w hT hv => ?_⟩
      · have := widthG_spec (ringG m) v w hT hv ok.sv ok.se hl1 (by omega) (by omega) hsm hcv (K := Go.Mono.G0) fun b hb => hb.elim
        rwa [h2] at this
      · have := atMost_spec (ringG m) k0 v w hT hv ok.sv ok.se hl1 (by omega) (by omega) hsm hcv
        rwa [h2] at this
    · have hck : ckW (ringG m) = 2 := by rw [ckW, if_pos (by omega)]
      have hch : ∀ v w, (Dv (ptE (grE 2000)) Go.Mono.G0 (some (ringG m))).p v w → ∀ w', Ext w w' → Calls Tryz.prog 32 #[v] w' (Post (E (I 2)) w') := fun v w hv w' e' => by rw [← hck]; exact tcheck_spec (ringG m) v w' (VA.st _ _ _ _ e' hv)
      exact ⟨0, [], 2, false, .inr ⟨by omega, rfl, rfl, rfl, rfl⟩, fun v w hT hv => widthE_spec v 2 (by decide) w (hch v w hv), fun v w hT hv => atMostE_spec v k0 2 (by decide) w (hch v w hv)⟩
  have hPre : 12 < m → ∀ v w, (Dv (ptE (grE 2000)) Go.Mono.G0 (some (ringG m))).p v w → Calls Tryz.prog 20 #[v, setV 0] w (Post (Tup [E (I 0), E (I 2)]) w) := fun hgt v w hv => by
    have hlm : (ringG m).1.length = m := by show (ringV m).length = m; rw [ringV, List.length_map, List.length_range]
    have hck : ckW (ringG m) = 2 := by rw [ckW, if_pos (by omega)]
    exact prefixE_spec v 0 2 (by decide) w fun w' e' => by rw [← hck]; exact tcheck_spec (ringG m) v w' (VA.st _ _ _ _ e' hv)
  have hRing : ∀ w, Calls Tryz.prog 19 #[I (m : Nat)] w (Post (Dv (ptE (grE 2000)) Go.Mono.G0 (some (ringG m))) w) := fun w => ring_spec m hm3 hm14 w fun b hb => hb.elim
  have gok := grid_gok
  have gl1 : gridG.1.length ≤ 12 := by decide
  have gl2 : gridG.2.length ≤ 1000 := by decide
  have gsm := sml_ok gok gl1 (all := vset gridG.1) fun i h => h
  have gcv := Nat.le_trans (card_vset gridG) gl1
  refine enter (args := [.int .u8 n, uf, I k0]) (As := [E (.int .u8 n), E uf, E (I k0)]) Tryz.func6 rfl Tryz.ntmps6 (Nat.le_of_ble_eq_true rfl) ?_ (fun a hf => ?_) (Nat.le_of_ble_eq_true rfl)
  rotate_left
  dsimp only [params, Nat.reduceAdd] at hf
  rotate_right
  · exact arg3 rfl rfl rfl
  have e := Ext.rfl' W
  repeat refine seq ?_
  refine regn0 ?_
  refine tl_as hf rfl (by decide) fun a hf => ?_
  refine tl_nil ?_
  repeat refine seq ?_
  refine regn 4 hf (by decide +kernel) ?_
  refine st (mv rfl) ?_
  refine st ((convI Tryz.underlying5 Tryz.underlying3 rfl).eq (congrArg I hw)) ?_
  refine st (rem rfl rfl (by omega)) ?_
  refine st ((add rfl rfl (by omega)).eq (congrArg I hm)) ?_
  refine en fun a w e' hf => ?_
  replace hT := hT.ext e'
  replace e := Ext.tr e e'
  clear e'
  refine tl_as hf rfl (by decide) fun a hf => ?_
  refine tl_nil ?_
  replace hf := hf.keep [1, 2, 6, 7]
  dsimp only [keep, List.filterMap, look, Nat.beq, Option.map] at hf
  by_cases hl20 : (20 : Int) < ((l.length : Nat) : Int)
  · repeat refine seq ?_
    refine regn 3 hf (by decide +kernel) ?_
    refine st (mv rfl) ?_
    refine st (lenD Tryz.underlying30 (isE rfl (VA.st _ _ _ _ e hl0))) ?_
    refine st ((gtr rfl rfl).eq (congrArg Value.bool (decide_eq_true hl20))) ?_
    refine en fun a w e' hf => ?_
    replace hT := hT.ext e'
    replace e := Ext.tr e e'
    clear e'
    refine tl_nil ?_
    repeat refine seq ?_
    refine ifc hf rfl (fun _ => ?_) (fun h => by cases h)
    repeat refine seq ?_
    refine regn 1 hf (by decide +kernel) ?_
    refine st (call0 (A := E (B true)) En10 (fun w he => known23_spec w (hT.ext he))) ?_
    refine en fun a w e' hf => ?_
    replace hT := hT.ext e'
    replace e := Ext.tr e e'
    clear e'
    refine tl_as hf rfl (by decide) fun a hf => ?_
    refine tl_nil ?_
    refine wret ?_
    try simp only [Exit.then, Exit.inBlock]
    refine ret1 rfl hf rfl ?_
    rintro _ rfl
    exact ⟨_, rfl, e, rfl⟩
  repeat refine seq ?_
  refine regn 3 hf (by decide +kernel) ?_
  refine st (mv rfl) ?_
  refine st (lenD Tryz.underlying30 (isE rfl (VA.st _ _ _ _ e hl0))) ?_
  refine st ((gtr rfl rfl).eq (congrArg Value.bool (decide_eq_false hl20))) ?_
  refine en fun a w e' hf => ?_
  replace hT := hT.ext e'
  replace e := Ext.tr e e'
  clear e'
  refine tl_nil ?_
  repeat refine seq ?_
  refine ifc hf rfl (fun h => by cases h) (fun _ => ?_)
  refine wskip ?_
  try simp only [Exit.then, Exit.inBlock, ↓reduceIte]
  replace hf := hf.keep [1, 2, 6, 7]
  dsimp only [keep, List.filterMap, look, Nat.beq, Option.map] at hf
  repeat refine seq ?_
  refine regn 7 hf (by decide +kernel) ?_
  refine st (mv rfl) ?_
  refine st (call1 (A := Dv (ptE (grE 2000)) Go.Mono.G0 (some (ringG m))) En19 rfl (fun v w he k => by cases k; exact hRing w)) ?_
  refine st (call1 (A := Tup [E (I wv), Dv (slE intE) Go.Mono.G0 ov, E (I ec)]) En11 rfl (fun v w he k => hWid v w (hT.ext he) k)) ?_
  refine st (mv rfl) ?_
  refine st (ext_ rfl rfl) ?_
  refine st (ext_ rfl rfl) ?_
  refine st (ext_ rfl rfl) ?_
  refine en fun a w e' hf => ?_
  replace hT := hT.ext e'
  replace e := Ext.tr e e'
  clear e'
  refine tl_as hf rfl (by decide) fun a hf => ?_
  refine tl_as hf rfl (by decide) fun a hf => ?_
  refine tl_as hf rfl (by decide) fun a hf => ?_
  refine tl_nil ?_
  replace hf := hf.keep [1, 2, 6, 7, 8, 9, 10]
  dsimp only [keep, List.filterMap, look, Nat.beq, Option.map] at hf
  repeat refine seq ?_
  refine regn 7 hf (by decide +kernel) ?_
  refine st (mv rfl) ?_
  refine st (call1 (A := Dv (ptE (grE 2000)) Go.Mono.G0 (some (ringG m))) En19 rfl (fun v w he k => by cases k; exact hRing w)) ?_
  refine st (mv rfl) ?_
  refine st (call2 (A := Tup [E (B am), E (I ec)]) En18 rfl rfl (fun v u w he k k' => by cases k'; exact hAM v w (hT.ext he) k)) ?_
  refine st (mv rfl) ?_
  refine st (ext_ rfl rfl) ?_
  refine st (ext_ rfl rfl) ?_
  refine en fun a w e' hf => ?_
  replace hT := hT.ext e'
  replace e := Ext.tr e e'
  clear e'
  refine tl_as hf rfl (by decide) fun a hf => ?_
  refine tl_as hf rfl (by decide) fun a hf => ?_
  refine tl_nil ?_
  replace hf := hf.keep [1, 2, 6, 7, 8, 9, 10, 11, 12]
  dsimp only [keep, List.filterMap, look, Nat.beq, Option.map] at hf
  repeat refine seq ?_
  refine regn 2 hf (by decide +kernel) ?_
  refine st (mv rfl) ?_
  refine st (gtr rfl rfl) ?_
  refine en fun a w e' hf => ?_
  replace hT := hT.ext e'
  replace e := Ext.tr e e'
  clear e'
  refine tl_nil ?_
  replace hf := hf.keep [1, 2, 6, 7, 8, 9, 10, 11, 12, 53]
  dsimp only [keep, List.filterMap, look, Nat.beq, Option.map] at hf
  repeat refine seq ?_
  refine cut (J := fun a w => Fr 200 a w [(1, E uf), (2, E (I k0)), (6, E (B false))] ∧ Ext W w ∧ Tab w) ?_ (fun a w hJ => ?_)
  · repeat refine seq ?_
    refine ifc hf rfl (fun hb => ?_) (fun hb => ?_)
    · have hgt : 12 < m := by have := of_decide_eq_true hb; omega
      rcases hcase with ⟨h1, _⟩ | ⟨_, rfl, rfl, rfl, rfl⟩
      · omega
      repeat refine seq ?_
      refine regn 7 hf (by decide +kernel) ?_
      refine st (mv rfl) ?_
      refine st (call1 (A := Dv (ptE (grE 2000)) Go.Mono.G0 (some (ringG m))) En19 rfl (fun v w he k => by cases k; exact hRing w)) ?_
      refine st (bldV [] rfl bS_0) ?_
      refine st (call2 (A := Tup [E (I 0), E (I 2)]) En20 rfl rfl (fun v u w he k k' => by cases k'; exact hPre hgt v w k)) ?_
      refine st (mv rfl) ?_
      refine st (ext_ rfl rfl) ?_
      refine st (ext_ rfl rfl) ?_
      refine en fun a w e' hf => ?_
      replace hT := hT.ext e'
      replace e := Ext.tr e e'
      clear e'
      refine tl_as hf rfl (by decide) fun a hf => ?_
      refine tl_as hf rfl (by decide) fun a hf => ?_
      refine tl_nil ?_
      replace hf := hf.keep [1, 2, 6, 8, 9, 10, 11, 12, 13, 14]
      dsimp only [keep, List.filterMap, look, Nat.beq, Option.map] at hf
      repeat refine seq ?_
      refine regn 26 hf (by decide +kernel) ?_
      refine st (mv rfl) ?_
      refine st ((neq rfl rfl).eq (congrArg Value.bool (show ((0 : Int) != 0) = false from rfl))) ?_
      refine st (mv rfl) ?_
      refine sy rfl rfl (mv rfl) ?_
      refine sy rfl rfl (lenD Tryz.underlying30 (isR rfl)) ?_
      refine sy rfl rfl ((neq rfl rfl).eq (congrArg Value.bool (show (((([] : List Int).length : Nat) : Int) != 0) = false from rfl))) ?_
      refine st (pkF rfl rfl) ?_
      refine st (mv rfl) ?_
      refine sy rfl rfl (mv rfl) ?_
      refine sy rfl rfl ((neq rfl rfl).eq (congrArg Value.bool (show ((2 : Int) != 2) = false from rfl))) ?_
      refine st (pkF rfl rfl) ?_
      refine st (mv rfl) ?_
      refine sy rfl rfl (mv rfl) ?_
      refine st (pkF rfl rfl) ?_
      refine st (mv rfl) ?_
      refine sy rfl rfl (mv rfl) ?_
      refine sy rfl rfl ((neq rfl rfl).eq (congrArg Value.bool (show ((2 : Int) != 2) = false from rfl))) ?_
      refine st (pkF rfl rfl) ?_
      refine st (mv rfl) ?_
      refine sy rfl rfl (mv rfl) ?_
      refine sy rfl rfl ((neq rfl rfl).eq (congrArg Value.bool (show ((0 : Int) != 0) = false from rfl))) ?_
      refine st (pkF rfl rfl) ?_
      refine st (mv rfl) ?_
      refine sy rfl rfl (mv rfl) ?_
      refine sy rfl rfl ((neq rfl rfl).eq (congrArg Value.bool (show ((2 : Int) != 2) = false from rfl))) ?_
      refine st (pkF rfl rfl) ?_
      refine en fun a w e' hf => ?_
      replace hT := hT.ext e'
      replace e := Ext.tr e e'
      clear e'
      refine tl_nil ?_
      repeat refine seq ?_
      refine ifc hf rfl (fun h => by cases h) (fun _ => ?_)
      refine wskip ?_
      replace hf := hf.keep [1, 2, 6]
      dsimp only [keep, List.filterMap, look, Nat.beq, Option.map] at hf
      exact ⟨rfl, hf, e, hT⟩
    · have hgt : ¬ 12 < m := by have := of_decide_eq_false hb; omega
      rcases hcase with ⟨_, rfl, rfl, rfl⟩ | ⟨h1, _⟩
      rotate_left
      · omega
      repeat refine seq ?_
      refine regn 16 hf (by decide +kernel) ?_
      refine st (mv rfl) ?_
      refine st ((neq rfl rfl).eq (congrArg Value.bool (show ((2 : Int) != 2) = false from rfl))) ?_
      refine st (mv rfl) ?_
      refine sy rfl rfl (mv rfl) ?_
      refine sy rfl rfl ((neq rfl rfl).eq (congrArg Value.bool (show ((0 : Int) != 0) = false from rfl))) ?_
      refine st (pkF rfl rfl) ?_
      refine st (mv rfl) ?_
      refine sy rfl rfl (mv rfl) ?_
      refine sy rfl rfl (mv rfl) ?_
      refine sy rfl rfl (geq rfl rfl) ?_
      refine sy rfl rfl ((neqB Tryz.underlying4 rfl rfl).eq (congrArg Value.bool ((bne_self_eq_false _ : (decide (2 ≤ k0) != decide (2 ≤ k0)) = false)))) ?_
      refine st (pkF rfl rfl) ?_
      refine st (mv rfl) ?_
      refine sy rfl rfl (mv rfl) ?_
      refine sy rfl rfl ((neq rfl rfl).eq (congrArg Value.bool (show ((0 : Int) != 0) = false from rfl))) ?_
      refine st (pkF rfl rfl) ?_
      refine en fun a w e' hf => ?_
      replace hT := hT.ext e'
      replace e := Ext.tr e e'
      clear e'
      refine tl_nil ?_
      repeat refine seq ?_
      refine ifc hf rfl (fun h => by cases h) (fun _ => ?_)
      refine wskip ?_
      replace hf := hf.keep [1, 2, 6]
      dsimp only [keep, List.filterMap, look, Nat.beq, Option.map] at hf
      exact ⟨rfl, hf, e, hT⟩
  clear hf e hT
  obtain ⟨hf, e, hT⟩ := hJ
  try simp only [Exit.then]
  clear hcase hWid hAM hPre hRing
  repeat refine seq ?_
  refine regn0 ?_
  refine tl_as hf rfl (by decide) fun a hf => ?_
  refine tl_nil ?_
  repeat refine seq ?_
  refine regn0 ?_
  refine tl_as hf rfl (by decide) fun a hf => ?_
  refine tl_nil ?_
  repeat refine seq ?_
  refine regn0 ?_
  refine tl_as hf rfl (by decide) fun a hf => ?_
  refine tl_nil ?_
  replace hf := hf.keep [1, 2, 6, 15, 16, 17]
  dsimp only [keep, List.filterMap, look, Nat.beq, Option.map] at hf
  repeat refine seq ?_
  refine blk (loopN (fun r0 a w => ∃ (k : Nat) (u1 u2 : Value), r0 = 9 - k ∧ k ≤ 9 ∧ Fr 200 a w [(1, E uf), (2, E (I k0)), (6, E (B false)), (15, E u1), (16, E u2), (17, E (I k))] ∧ Ext W w ∧ Tab w ∧ OwR vtE 55 W.heap.size Go.Mono.G0 w ((ringV 9).take k) u1 ∧ OwR etE 57 W.heap.size Go.Mono.G0 w (gridTo k) u2) 9 ⟨0, .slice none 0 0,  .slice none 0 0, rfl, by omega, hf, e, ⟨hT, OwR.nil vtE _ e.size fun b hb => hb.elim, OwR.nil etE _ e.size fun b hb => hb.elim⟩⟩ ?_)
  clear hf e; try clear hT; try clear H1; try clear H2
  rintro r0 a w ⟨k, u1, u2, rfl, hk, hf, e, hT, H1, H2⟩
  repeat refine seq ?_
  refine regn 2 hf (by decide +kernel) ?_
  refine st (mv rfl) ?_
  refine st (lss rfl rfl) ?_
  refine en fun a w e' hf => ?_
  replace hT := hT.ext e'
  replace H1 := H1.ext e'
  replace H2 := H2.ext e'
  replace e := Ext.tr e e'
  clear e'
  refine tl_nil ?_
  repeat refine seq ?_
  refine ifc hf rfl (fun hc => wskip ?_) (fun hc => wexit ?_)
  rotate_left
  rotate_left
  · have hlt : k < 9 := by have := of_decide_eq_true hc; (try dsimp only at this); omega
    clear hc
    replace hf := hf.keep [1, 2, 6, 15, 16, 17]
    dsimp only [keep, List.filterMap, look, Nat.beq, Option.map] at hf
    repeat refine seq ?_
    refine blk ?_
    have hx : (ringV 9)[k]? = some ((k : Int), (0, 0)) := by simp [ringV, hlt]
    have hlk := List.length_take_le k (ringV 9)
    have hlk1 : (ringV 9).length = 9 := rfl
    have hlk2 := gridTo_len k
    repeat refine seq ?_
    refine regn 4 hf (by decide +kernel) ?_
    refine st (mv rfl) ?_
    refine st (mv rfl) ?_
    refine st (bldV1 _ rfl) ?_
    refine st (bsl1 Tryz.underlying52 I55 rfl (by decide) rfl H1.avs (isVt rfl)) ?_
    refine en fun a w e' hf => ?_
    replace hT := hT.ext e'
    replace H2 := H2.ext e'
    replace H1 := H1.ext e'
    replace e := Ext.tr e e'
    clear e'
    haveI hin : ∀ G0, InR (GB W G0) _ := OwR.inGB (W := W) H1 (Nat.le_refl _)
    refine tl_app Tryz.underlying52 I55 rfl rfl hf (by decide) rfl H1 (isR rfl) (by simp only [List.length_singleton]; omega) (by simp only [List.length_singleton, maxLen]; omega) fun a v w hg hat Hn hf => ?_
    replace e := e.gro hg (H1.row (W := W) (Nat.le_refl _))
    have hrow := H1.row (W := W) (Nat.le_refl _)
    replace hT := hT.gro hg (fun b hb => Nat.lt_of_lt_of_le hT0 (hrow b hb))
    replace H2 := H2.groE hg (fun b hb => H2.neT H1 (by decide) hb)
    replace H1 := Hn
    clear hrow
    replace H1 := Hn; clear Hn hg hat hin
    refine tl_as hf rfl (by decide) fun a hf => ?_
    refine tl_nil ?_
    rw [← take_succ_get hx] at H1
    replace hf := hf.keep [1, 2, 6, 15, 16, 17]
    dsimp only [keep, List.filterMap, look, Nat.beq, Option.map] at hf
    have gT := gridTo_succ k
    by_cases h3 : k % 3 < 2
    · have hR : gridR k = [(((k : Int), (k : Int) + 1), (0, 0))] := if_pos h3
      repeat refine seq ?_
      refine regn 3 hf (by decide +kernel) ?_
      refine st (mv rfl) ?_
      refine st (rem rfl rfl (by omega)) ?_
      refine st ((lss rfl rfl).eq (congrArg Value.bool (decide_eq_true (show ((k : Nat) : Int) % 3 < 2 by omega)))) ?_
      refine en fun a w e' hf => ?_
      replace hT := hT.ext e'
      replace H1 := H1.ext e'
      replace H2 := H2.ext e'
      replace e := Ext.tr e e'
      clear e'
      refine tl_nil ?_
      repeat refine seq ?_
      refine ifc hf rfl (fun _ => ?_) (fun h => by cases h)
      repeat refine seq ?_
      refine regn 6 hf (by decide +kernel) ?_
      refine st (mv rfl) ?_
      refine st (mv rfl) ?_
      refine st (mv rfl) ?_
      refine st (add rfl rfl (by omega)) ?_
      refine st (bldE2 _ _ rfl rfl) ?_
      refine st (bsl1 Tryz.underlying53 I57 rfl (by decide) rfl H2.avs (isEt rfl)) ?_
      refine en fun a w e' hf => ?_
      replace hT := hT.ext e'
      replace H1 := H1.ext e'
      replace H2 := H2.ext e'
      replace e := Ext.tr e e'
      clear e'
      haveI hin : ∀ G0, InR (GB W G0) _ := OwR.inGB (W := W) H2 (Nat.le_refl _)
      refine tl_app Tryz.underlying53 I57 rfl rfl hf (by decide) rfl H2 (isR rfl) (by simp only [List.length_singleton]; omega) (by simp only [List.length_singleton, maxLen]; omega) fun a v w hg hat Hn hf => ?_
      replace e := e.gro hg (H2.row (W := W) (Nat.le_refl _))
      have hrow := H2.row (W := W) (Nat.le_refl _)
      replace hT := hT.gro hg (fun b hb => Nat.lt_of_lt_of_le hT0 (hrow b hb))
      replace H1 := H1.groE hg (fun b hb => H1.neT H2 (by decide) hb)
      replace H2 := Hn
      clear hrow
      replace H2 := Hn; clear Hn hg hat hin
      refine tl_as hf rfl (by decide) fun a hf => ?_
      refine tl_nil ?_
      rw [← hR] at H2
      replace hf := hf.keep [1, 2, 6, 15, 16, 17]
      dsimp only [keep, List.filterMap, look, Nat.beq, Option.map] at hf
      have hl3 : (gridTo k ++ gridR k).length ≤ 2 * k + 1 := by rw [List.length_append, hR]; show _ + 1 ≤ _; omega
      by_cases h6 : k < 6
      · have hD : gridD k = [(((k : Int), (k : Int) + 3), (0, 0))] := if_pos h6
        repeat refine seq ?_
        refine regn 2 hf (by decide +kernel) ?_
        refine st (mv rfl) ?_
        refine st ((lss rfl rfl).eq (congrArg Value.bool (decide_eq_true (show ((k : Nat) : Int) < 6 by omega)))) ?_
        refine en fun a w e' hf => ?_
        replace hT := hT.ext e'
        replace H1 := H1.ext e'
        replace H2 := H2.ext e'
        replace e := Ext.tr e e'
        clear e'
        refine tl_nil ?_
        repeat refine seq ?_
        refine ifc hf rfl (fun _ => ?_) (fun h => by cases h)
        repeat refine seq ?_
        refine regn 6 hf (by decide +kernel) ?_
        refine st (mv rfl) ?_
        refine st (mv rfl) ?_
        refine st (mv rfl) ?_
        refine st (add rfl rfl (by omega)) ?_
        refine st (bldE2 _ _ rfl rfl) ?_
        refine st (bsl1 Tryz.underlying53 I57 rfl (by decide) rfl H2.avs (isEt rfl)) ?_
        refine en fun a w e' hf => ?_
        replace hT := hT.ext e'
        replace H1 := H1.ext e'
        replace H2 := H2.ext e'
        replace e := Ext.tr e e'
        clear e'
        haveI hin : ∀ G0, InR (GB W G0) _ := OwR.inGB (W := W) H2 (Nat.le_refl _)
        refine tl_app Tryz.underlying53 I57 rfl rfl hf (by decide) rfl H2 (isR rfl) (by simp only [List.length_singleton]; omega) (by simp only [List.length_singleton, maxLen]; omega) fun a v w hg hat Hn hf => ?_
        replace e := e.gro hg (H2.row (W := W) (Nat.le_refl _))
        have hrow := H2.row (W := W) (Nat.le_refl _)
        replace hT := hT.gro hg (fun b hb => Nat.lt_of_lt_of_le hT0 (hrow b hb))
        replace H1 := H1.groE hg (fun b hb => H1.neT H2 (by decide) hb)
        replace H2 := Hn
        clear hrow
        replace H2 := Hn; clear Hn hg hat hin
        refine tl_as hf rfl (by decide) fun a hf => ?_
        refine tl_nil ?_
        rw [← hD, ← gT] at H2
        try simp only [Exit.then, Exit.inBlock, ↓reduceIte]
        repeat refine seq ?_
        refine regn 2 hf (by decide +kernel) ?_
        refine st (mv rfl) ?_
        refine st ((add rfl rfl (by omega)).eq (congrArg (Value.int .i64) (show (k : Int) + 1 = ((k + 1 : Nat) : Int) from rfl))) ?_
        refine en fun a w e' hf => ?_
        replace hT := hT.ext e'
        replace H1 := H1.ext e'
        replace H2 := H2.ext e'
        replace e := Ext.tr e e'
        clear e'
        refine tl_as hf rfl (by decide) fun a hf => ?_
        refine tl_nil ?_
        replace hf := hf.keep [1, 2, 6, 15, 16, 17]
        dsimp only [keep, List.filterMap, look, Nat.beq, Option.map] at hf
        refine ⟨_, ?_, k + 1, _, _, rfl, by omega, hf, e, ?_⟩
        · omega
        exact ⟨hT, H1, H2⟩
      · have hD : gridD k = [] := if_neg h6
        repeat refine seq ?_
        refine regn 2 hf (by decide +kernel) ?_
        refine st (mv rfl) ?_
        refine st ((lss rfl rfl).eq (congrArg Value.bool (decide_eq_false (show ¬ ((k : Nat) : Int) < 6 by omega)))) ?_
        refine en fun a w e' hf => ?_
        replace hT := hT.ext e'
        replace H1 := H1.ext e'
        replace H2 := H2.ext e'
        replace e := Ext.tr e e'
        clear e'
        refine tl_nil ?_
        repeat refine seq ?_
        refine ifc hf rfl (fun h => by cases h) (fun _ => ?_)
        refine wskip ?_
        try simp only [Exit.then, Exit.inBlock, ↓reduceIte]
        rw [← List.append_nil (gridTo k ++ gridR k), ← hD, ← gT] at H2
        try simp only [Exit.then, Exit.inBlock, ↓reduceIte]
        repeat refine seq ?_
        refine regn 2 hf (by decide +kernel) ?_
        refine st (mv rfl) ?_
        refine st ((add rfl rfl (by omega)).eq (congrArg (Value.int .i64) (show (k : Int) + 1 = ((k + 1 : Nat) : Int) from rfl))) ?_
        refine en fun a w e' hf => ?_
        replace hT := hT.ext e'
        replace H1 := H1.ext e'
        replace H2 := H2.ext e'
        replace e := Ext.tr e e'
        clear e'
        refine tl_as hf rfl (by decide) fun a hf => ?_
        refine tl_nil ?_
        replace hf := hf.keep [1, 2, 6, 15, 16, 17]
        dsimp only [keep, List.filterMap, look, Nat.beq, Option.map] at hf
        refine ⟨_, ?_, k + 1, _, _, rfl, by omega, hf, e, ?_⟩
        · omega
        exact ⟨hT, H1, H2⟩
    · have hR : gridR k = [] := if_neg h3
      repeat refine seq ?_
      refine regn 3 hf (by decide +kernel) ?_
      refine st (mv rfl) ?_
      refine st (rem rfl rfl (by omega)) ?_
      refine st ((lss rfl rfl).eq (congrArg Value.bool (decide_eq_false (show ¬ ((k : Nat) : Int) % 3 < 2 by omega)))) ?_
      refine en fun a w e' hf => ?_
      replace hT := hT.ext e'
      replace H1 := H1.ext e'
      replace H2 := H2.ext e'
      replace e := Ext.tr e e'
      clear e'
      refine tl_nil ?_
      repeat refine seq ?_
      refine ifc hf rfl (fun h => by cases h) (fun _ => ?_)
      refine wskip ?_
      try simp only [Exit.then, Exit.inBlock, ↓reduceIte]
      rw [← List.append_nil (gridTo k), ← hR] at H2
      replace hf := hf.keep [1, 2, 6, 15, 16, 17]
      dsimp only [keep, List.filterMap, look, Nat.beq, Option.map] at hf
      have hl3 : (gridTo k ++ gridR k).length ≤ 2 * k + 1 := by rw [List.length_append, hR]; show _ + 0 ≤ _; omega
      by_cases h6 : k < 6
      · have hD : gridD k = [(((k : Int), (k : Int) + 3), (0, 0))] := if_pos h6
        repeat refine seq ?_
        refine regn 2 hf (by decide +kernel) ?_
        refine st (mv rfl) ?_
        refine st ((lss rfl rfl).eq (congrArg Value.bool (decide_eq_true (show ((k : Nat) : Int) < 6 by omega)))) ?_
        refine en fun a w e' hf => ?_
        replace hT := hT.ext e'
        replace H1 := H1.ext e'
        replace H2 := H2.ext e'
        replace e := Ext.tr e e'
        clear e'
        refine tl_nil ?_
        repeat refine seq ?_
        refine ifc hf rfl (fun _ => ?_) (fun h => by cases h)
        repeat refine seq ?_
        refine regn 6 hf (by decide +kernel) ?_
        refine st (mv rfl) ?_
        refine st (mv rfl) ?_
        refine st (mv rfl) ?_
        refine st (add rfl rfl (by omega)) ?_
        refine st (bldE2 _ _ rfl rfl) ?_
        refine st (bsl1 Tryz.underlying53 I57 rfl (by decide) rfl H2.avs (isEt rfl)) ?_
        refine en fun a w e' hf => ?_
        replace hT := hT.ext e'
        replace H1 := H1.ext e'
        replace H2 := H2.ext e'
        replace e := Ext.tr e e'
        clear e'
        haveI hin : ∀ G0, InR (GB W G0) _ := OwR.inGB (W := W) H2 (Nat.le_refl _)
        refine tl_app Tryz.underlying53 I57 rfl rfl hf (by decide) rfl H2 (isR rfl) (by simp only [List.length_singleton]; omega) (by simp only [List.length_singleton, maxLen]; omega) fun a v w hg hat Hn hf => ?_
        replace e := e.gro hg (H2.row (W := W) (Nat.le_refl _))
        have hrow := H2.row (W := W) (Nat.le_refl _)
        replace hT := hT.gro hg (fun b hb => Nat.lt_of_lt_of_le hT0 (hrow b hb))
        replace H1 := H1.groE hg (fun b hb => H1.neT H2 (by decide) hb)
        replace H2 := Hn
        clear hrow
        replace H2 := Hn; clear Hn hg hat hin
        refine tl_as hf rfl (by decide) fun a hf => ?_
        refine tl_nil ?_
        rw [← hD, ← gT] at H2
        try simp only [Exit.then, Exit.inBlock, ↓reduceIte]
        repeat refine seq ?_
        refine regn 2 hf (by decide +kernel) ?_
        refine st (mv rfl) ?_
        refine st ((add rfl rfl (by omega)).eq (congrArg (Value.int .i64) (show (k : Int) + 1 = ((k + 1 : Nat) : Int) from rfl))) ?_
        refine en fun a w e' hf => ?_
        replace hT := hT.ext e'
        replace H1 := H1.ext e'
        replace H2 := H2.ext e'
        replace e := Ext.tr e e'
        clear e'
        refine tl_as hf rfl (by decide) fun a hf => ?_
        refine tl_nil ?_
        replace hf := hf.keep [1, 2, 6, 15, 16, 17]
        dsimp only [keep, List.filterMap, look, Nat.beq, Option.map] at hf
        refine ⟨_, ?_, k + 1, _, _, rfl, by omega, hf, e, ?_⟩
        · omega
        exact ⟨hT, H1, H2⟩
      · have hD : gridD k = [] := if_neg h6
        repeat refine seq ?_
        refine regn 2 hf (by decide +kernel) ?_
        refine st (mv rfl) ?_
        refine st ((lss rfl rfl).eq (congrArg Value.bool (decide_eq_false (show ¬ ((k : Nat) : Int) < 6 by omega)))) ?_
        refine en fun a w e' hf => ?_
        replace hT := hT.ext e'
        replace H1 := H1.ext e'
        replace H2 := H2.ext e'
        replace e := Ext.tr e e'
        clear e'
        refine tl_nil ?_
        repeat refine seq ?_
        refine ifc hf rfl (fun h => by cases h) (fun _ => ?_)
        refine wskip ?_
        try simp only [Exit.then, Exit.inBlock, ↓reduceIte]
        rw [← List.append_nil (gridTo k ++ gridR k), ← hD, ← gT] at H2
        try simp only [Exit.then, Exit.inBlock, ↓reduceIte]
        repeat refine seq ?_
        refine regn 2 hf (by decide +kernel) ?_
        refine st (mv rfl) ?_
        refine st ((add rfl rfl (by omega)).eq (congrArg (Value.int .i64) (show (k : Int) + 1 = ((k + 1 : Nat) : Int) from rfl))) ?_
        refine en fun a w e' hf => ?_
        replace hT := hT.ext e'
        replace H1 := H1.ext e'
        replace H2 := H2.ext e'
        replace e := Ext.tr e e'
        clear e'
        refine tl_as hf rfl (by decide) fun a hf => ?_
        refine tl_nil ?_
        replace hf := hf.keep [1, 2, 6, 15, 16, 17]
        dsimp only [keep, List.filterMap, look, Nat.beq, Option.map] at hf
        refine ⟨_, ?_, k + 1, _, _, rfl, by omega, hf, e, ?_⟩
        · omega
        exact ⟨hT, H1, H2⟩
  · obtain rfl : 9 = k := by have := of_decide_eq_false hc; (try dsimp only at this); omega
    clear hc
    simp only [Exit.then, Exit.inBlock, ↓reduceIte]
    rw [List.take_of_length_le (show (ringV 9).length ≤ 9 from Nat.le_refl 9)] at H1
    replace hf := hf.keep [1, 2, 6, 15, 16]
    dsimp only [keep, List.filterMap, look, Nat.beq, Option.map] at hf
    have e1 := e
    repeat refine seq ?_
    refine regn 6 hf (by decide +kernel) ?_
    refine st (mv rfl) ?_
    refine st (mv rfl) ?_
    refine st (call2 (A := Tup [Dv (ptE (grE 2000)) Go.Mono.G0 (some gridG), E (I 0)]) En21 rfl rfl (fun v u w he k1 k2 => by cases k1; cases k2; exact build_post gridG grid_gok _ _ w (VA.st _ _ _ _ he H1.sl) (VA.st _ _ _ _ he H2.sl) (by decide) (by decide) (fun b hb => hb.elim))) ?_
    refine st (mv rfl) ?_
    refine st (ext_ rfl rfl) ?_
    refine st (ext_ rfl rfl) ?_
    refine en fun a w e' hf => ?_
    replace hT := hT.ext e'
    replace e := Ext.tr e e'
    clear e'
    refine tl_as hf rfl (by decide) fun a hf => ?_
    refine tl_as hf rfl (by decide) fun a hf => ?_
    refine tl_nil ?_
    replace hf := hf.keep [1, 2, 6, 18]
    dsimp only [keep, List.filterMap, look, Nat.beq, Option.map] at hf
    clear H1 H2
    have e2 := e
    have hT2 := hT
    repeat refine seq ?_
    refine regn 6 hf (by decide +kernel) ?_
    refine st (mv rfl) ?_
    refine st (call1 (A := Tup [E (I 3), Dv (slE intE) Go.Mono.G0 (natL (widO gridG)), E (I 0)]) En11 rfl (fun v w he k => by have := widthG_spec gridG v w (hT.ext he) k gok.sv gok.se gl1 (by omega) (by omega) gsm gcv (K := Go.Mono.G0) fun b hb => hb.elim; rwa [grid_three] at this)) ?_
    refine st (mv rfl) ?_
    refine st (ext_ rfl rfl) ?_
    refine st (ext_ rfl rfl) ?_
    refine st (ext_ rfl rfl) ?_
    refine en fun a w e' hf => ?_
    replace hT := hT.ext e'
    replace e := Ext.tr e e'
    clear e'
    refine tl_as hf rfl (by decide) fun a hf => ?_
    refine tl_as hf rfl (by decide) fun a hf => ?_
    refine tl_as hf rfl (by decide) fun a hf => ?_
    refine tl_nil ?_
    replace hf := hf.keep [1, 2, 6, 20, 22]
    dsimp only [keep, List.filterMap, look, Nat.beq, Option.map] at hf
    repeat refine seq ?_
    refine regn 5 hf (by decide +kernel) ?_
    refine st (call1 (A := Tup [E (I 0), Dv (slE intE) Go.Mono.G0 [], E (I 1)]) En11 rfl (fun v w he k => by cases k; exact widthE_spec _ 1 (by decide) w fun w' _ => tcheckN_spec w')) ?_
    refine st (mv rfl) ?_
    refine st (ext_ rfl rfl) ?_
    refine st (ext_ rfl rfl) ?_
    refine st (ext_ rfl rfl) ?_
    refine en fun a w e' hf => ?_
    replace hT := hT.ext e'
    replace e := Ext.tr e e'
    clear e'
    refine tl_as hf rfl (by decide) fun a hf => ?_
    refine tl_as hf rfl (by decide) fun a hf => ?_
    refine tl_as hf rfl (by decide) fun a hf => ?_
    refine tl_nil ?_
    replace hf := hf.keep [1, 2, 6, 20, 22, 23, 24, 25]
    dsimp only [keep, List.filterMap, look, Nat.beq, Option.map] at hf
    obtain ⟨r, hr⟩ : ∃ r, r = l.foldl ins 0 := ⟨_, rfl⟩
    have e4 := e
    repeat refine seq ?_
    refine regn 6 hf (by decide +kernel) ?_
    refine st (mv rfl) ?_
    refine st (call1 (A := E (setV r)) En22 rfl (fun v w he k => by cases k; rw [hr]; exact of_spec l _ w (VA.st _ _ _ _ (Ext.tr e4 he) hl0) (by omega))) ?_
    refine st (call2 (A := Tup [E (I 0), E (I 1)]) En20 rfl rfl (fun v u w he k k' => by cases k; cases k'; exact prefixE_spec _ r 1 (by decide) w fun w' _ => tcheckN_spec w')) ?_
    refine st (mv rfl) ?_
    refine st (ext_ rfl rfl) ?_
    refine st (ext_ rfl rfl) ?_
    refine en fun a w e' hf => ?_
    replace hT := hT.ext e'
    replace e := Ext.tr e e'
    clear e'
    refine tl_as hf rfl (by decide) fun a hf => ?_
    refine tl_as hf rfl (by decide) fun a hf => ?_
    refine tl_nil ?_
    replace hf := hf.keep [1, 2, 6, 20, 22, 23, 24, 25, 26, 27]
    dsimp only [keep, List.filterMap, look, Nat.beq, Option.map] at hf
    repeat refine seq ?_
    refine regn 5 hf (by decide +kernel) ?_
    refine st (mv rfl) ?_
    refine st (call2 (A := Tup [E (B false), E (I 1)]) En18 rfl rfl (fun v u w he k k' => by cases k; cases k'; exact atMostE_spec _ k0 1 (by decide) w fun w' _ => tcheckN_spec w')) ?_
    refine st (mv rfl) ?_
    refine st (ext_ rfl rfl) ?_
    refine st (ext_ rfl rfl) ?_
    refine en fun a w e' hf => ?_
    replace hT := hT.ext e'
    replace e := Ext.tr e e'
    clear e'
    refine tl_as hf rfl (by decide) fun a hf => ?_
    refine tl_as hf rfl (by decide) fun a hf => ?_
    refine tl_nil ?_
    replace hf := hf.keep [1, 2, 6, 20, 22, 23, 24, 25, 26, 27, 29]
    dsimp only [keep, List.filterMap, look, Nat.beq, Option.map] at hf
    have e6 := e
    repeat refine seq ?_
    refine regn 41 hf (by decide +kernel) ?_
    refine st (mv rfl) ?_
    refine st ((eql rfl rfl).eq (congrArg Value.bool (show ((3 : Int) == 3) = true from rfl))) ?_
    refine st (mv rfl) ?_
    refine sy rfl rfl (mv rfl) ?_
    refine sy rfl rfl ((eql rfl rfl).eq (congrArg Value.bool (show ((0 : Int) == 0) = true from rfl))) ?_
    refine st (pkT rfl rfl) ?_
    refine st (mv rfl) ?_
    refine sy rfl rfl (mv rfl) ?_
    refine sy rfl rfl ((eql rfl rfl).eq (congrArg Value.bool (show ((0 : Int) == 0) = true from rfl))) ?_
    refine st (pkT rfl rfl) ?_
    refine st (mv rfl) ?_
    refine sy rfl rfl (mv rfl) ?_
    refine sy rfl rfl (lenD Tryz.underlying30 (isR rfl)) ?_
    refine sy rfl rfl ((eql rfl rfl).eq (congrArg Value.bool (show (((([] : List Int).length : Nat) : Int) == 0) = true from rfl))) ?_
    refine st (pkT rfl rfl) ?_
    refine st (mv rfl) ?_
    refine sy rfl rfl (mv rfl) ?_
    refine sy rfl rfl ((eql rfl rfl).eq (congrArg Value.bool (show ((1 : Int) == 1) = true from rfl))) ?_
    refine st (pkT rfl rfl) ?_
    refine st (mv rfl) ?_
    refine sy rfl rfl (mv rfl) ?_
    refine sy rfl rfl ((eql rfl rfl).eq (congrArg Value.bool (show ((0 : Int) == 0) = true from rfl))) ?_
    refine st (pkT rfl rfl) ?_
    refine st (mv rfl) ?_
    refine sy rfl rfl (mv rfl) ?_
    refine sy rfl rfl ((eql rfl rfl).eq (congrArg Value.bool (show ((1 : Int) == 1) = true from rfl))) ?_
    refine st (pkT rfl rfl) ?_
    refine st (mv rfl) ?_
    refine sy rfl rfl (mv rfl) ?_
    refine sy rfl rfl ((eql rfl rfl).eq (congrArg Value.bool (show ((1 : Int) == 1) = true from rfl))) ?_
    refine st (pkT rfl rfl) ?_
    refine st (mv rfl) ?_
    refine sy rfl rfl (mv rfl) ?_
    refine sy rfl rfl (call1 (A := E (setV r)) En22 rfl (fun v w he k => by cases k; rw [hr]; exact of_spec l _ w (VA.st _ _ _ _ (Ext.tr e6 he) hl0) (by omega))) ?_
    refine sy rfl rfl (mv rfl) ?_
    refine sy rfl rfl (call3 (A := E (setV 0)) En23 rfl rfl rfl (fun v u s w he k k' k2 => by cases k; cases k'; cases k2; exact reachableN_spec r k0 w)) ?_
    refine sy rfl rfl (call1 (A := E (B true)) En24 rfl (fun v w he k => by cases k; have := isEmpty_spec 0 w; rwa [show ((0 : BS) == 0) = true from beq_self_eq_true _] at this)) ?_
    refine st (pkT rfl rfl) ?_
    refine st (mv rfl) ?_
    refine sy rfl rfl (call0 (A := E (B true)) En10 (fun w he => known23_spec w (hT.ext he))) ?_
    refine st (pkT rfl rfl) ?_
    refine en fun a w e' hf => ?_
    replace hT := hT.ext e'
    replace e := Ext.tr e e'
    clear e'
    refine tl_as hf rfl (by decide) fun a hf => ?_
    refine tl_nil ?_
    refine wret ?_
    try simp only [Exit.then, Exit.inBlock]
    refine ret1 rfl hf rfl ?_
    rintro _ rfl
    exact ⟨_, rfl, e, rfl⟩
end Go.Mono
