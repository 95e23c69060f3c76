/-
  The program's AddLeaf, walked.
  No condition.
-/
import Derived.Test.YtnhbkdliljcedaaDoorAttach
import Derived.Test.YtnhbkdliljcedaaDoorMonoQ
set_option linter.unusedVariables false
set_option linter.unusedSimpArgs false
set_option linter.unusedVariables false
set_option linter.unusedSimpArgs false
namespace Go.Mono
open Go Go.Proofs Go.RowKit

/-- what AddLeaf refuses by itself -/
def addC (F : Fm) (p : Int) (S : BS) : Int :=
  if inT F.1 p = false then 9 else if 1024 ≤ F.1.length then 2 else if 4 < card S then 14 else if ((S &&& unionTo F.1 F.1.length) &&& ~~~(if inT F.1 p then (bg F.1 p.toNat).2 else 0) == 0) = false then 7 else 0
noncomputable def addN (F : Fm) (p : Int) (S : BS) : Int := if addC F p S = 0 then newR (toT (F.1 ++ [(p, S)])) else addC F p S
noncomputable def AddA (F : Fm) (p : Int) (S : BS) (G : Nat → Prop) : VA := ⟨fun v w => (addC F p S = 0 ∧ (NewA (F.1 ++ [(p, S)]) G).p v w) ∨ (addC F p S ≠ 0 ∧ v = .pointer none), fun v w w' e h => h.imp (fun h => ⟨h.1, (NewA _ G).st _ _ _ e h.2⟩) id⟩

theorem fadd_spec {G : Nat → Prop} (F : Fm) (p : Int) (S : BS) (v : Value) (W : World) (hT : Tab W) (h : (Dv (ptE frE) G (some F)).p v W) (hl : F.1.length ≤ 900) :
    Calls Tryd.prog 63 #[v, I p, setV S] W (Post (Tup [AddA F p S Go.Mono.G0, E (I (addN F p S))]) W) := by
  have bad : ∀ c : Int, addC F p S = c → c ≠ 0 → ∀ w, (Tup [AddA F p S Go.Mono.G0, E (I (addN F p S))]).p (.tuple #[.pointer none, I c]) w := fun c hc h0 w => by
    rw [show addN F p S = c from by rw [addN, hc, if_neg h0]]
    exact Tup.two (.inr ⟨by rw [hc]; exact h0, rfl⟩) rfl
  refine enter (args := [v, I p, setV S]) (As := [Dv (ptE frE) (GB W Go.Mono.G0) (some F), E (I p), E (setV S)]) Tryd.func63 rfl Tryd.ntmps63 (Nat.le_of_ble_eq_true rfl) ?_ (fun a hf => ?_) (Nat.le_of_ble_eq_true rfl)
  rotate_left
  dsimp only [params, Nat.reduceAdd] at hf
  rotate_right
  · exact arg3 (Dv.toB (Dv.weak h fun b _ hb => hb.elim)) rfl rfl
  have e := Ext.rfl' W
  have hT0 := hT.lt
  repeat refine seq ?_
  refine regn0 ?_
  refine tl_box hf rfl (by decide) fun a b5 w v5 hv5 e' hb5 hs5 B5 hf => ?_
  have hle5 := Nat.le_trans e.size (Nat.le_of_eq hb5.symm)
  replace hT := hT.ext e'
  replace e := Ext.tr e e'
  clear e'
  refine tl_as hf rfl (by decide) fun a hf => ?_
  refine tl_as hf rfl (by decide) fun a hf => ?_
  refine tl_nil ?_
  cases hv5
  replace hf := hf.keep [0, 1, 5]
  dsimp only [keep, List.filterMap, look, Nat.beq, Option.map] at hf
  repeat refine seq ?_
  refine blk ?_
  repeat refine seq ?_
  refine regn 2 hf (by decide +kernel) ?_
  refine st (mv rfl) ?_
  refine st (eqlP Tryd.underlying24 (isR rfl)) ?_
  refine en fun a w e' hf => ?_
  replace hT := hT.ext e'
  replace e := Ext.tr e e'
  replace B5 := B5.ext e'
  clear e'
  refine tl_as hf rfl (by decide) fun a hf => ?_
  refine tl_nil ?_
  repeat refine seq ?_
  refine ifc hf rfl (fun h => by cases h) (fun _ => ?_)
  repeat refine seq ?_
  refine regn 4 hf (by decide +kernel) ?_
  refine st (mv rfl) ?_
  refine st (mv rfl) ?_
  refine st (call2 En91 rfl rfl (fun v u w he h h' => by cases h'; exact fis_spec F _ _ w h)) ?_
  refine st (notp rfl) ?_
  refine en fun a w e' hf => ?_
  replace hT := hT.ext e'
  replace e := Ext.tr e e'
  replace B5 := B5.ext e'
  clear e'
  refine tl_as hf rfl (by decide) fun a hf => ?_
  refine tl_nil ?_
  repeat refine seq ?_
  refine ifc hf rfl (fun hb => ?_) (fun hb => ?_)
  · have hb' : inT F.1 p = false := by simpa using hb
    repeat refine seq ?_
    refine regn0 ?_
    refine tl_as hf rfl (by decide) fun a hf => ?_
    refine tl_as hf rfl (by decide) fun a hf => ?_
    refine tl_nil ?_
    refine wret (ret2 rfl hf rfl rfl ?_)
    rintro _ _ rfl rfl
    exact ⟨_, rfl, e, bad 9 (by rw [addC, if_pos hb']) (by decide) _⟩
  have hin : inT F.1 p = true := by simpa using hb
  clear hb
  repeat refine seq ?_
  refine regn 6 hf (by decide +kernel) ?_
  refine st (mv rfl) ?_
  refine st (nilC (isR rfl)) ?_
  refine st (fldD Tryd.underlying102 rfl T23 (by decide) (Fld.fst Fld.refl) (isR rfl)) ?_
  refine st (ldD T23 (isR rfl)) ?_
  refine st (lenD Tryd.underlying23 (isR rfl)) ?_
  refine st ((geq rfl rfl).eq (congrArg Value.bool (decide_eq_false (by omega)))) ?_
  refine en fun a w e' hf => ?_
  replace hT := hT.ext e'
  replace e := Ext.tr e e'
  replace B5 := B5.ext e'
  clear e'
  refine tl_as hf rfl (by decide) fun a hf => ?_
  refine tl_nil ?_
  repeat refine seq ?_
  refine ifc hf rfl (fun h => by cases h) (fun _ => ?_)
  repeat refine seq ?_
  refine regn 3 hf (by decide +kernel) ?_
  refine st (ldW T37 rfl B5 rfl) ?_
  refine st (call1 En76 rfl (fun v w he h => by cases h; exact len_spec _ w)) ?_
  refine st (gtr rfl rfl) ?_
  refine en fun a w e' hf => ?_
  replace hT := hT.ext e'
  replace e := Ext.tr e e'
  replace B5 := B5.ext e'
  clear e'
  refine tl_as hf rfl (by decide) fun a hf => ?_
  refine tl_nil ?_
  repeat refine seq ?_
  refine ifc hf rfl (fun hb => ?_) (fun hb => ?_)
  · have hb' : 4 < card S := by have := of_decide_eq_true hb; omega
    repeat refine seq ?_
    refine regn0 ?_
    refine tl_as hf rfl (by decide) fun a hf => ?_
    refine tl_as hf rfl (by decide) fun a hf => ?_
    refine tl_nil ?_
    refine wret (ret2 rfl hf rfl rfl ?_)
    rintro _ _ rfl rfl
    exact ⟨_, rfl, e, bad 14 (by rw [addC, if_neg (by rw [hin]; decide), if_neg (by omega), if_pos hb']) (by decide) _⟩
  have h4 : ¬ 4 < card S := by have := of_decide_eq_false hb; omega
  clear hb
  have hcc : addC F p S = if ((S &&& unionTo F.1 F.1.length) &&& ~~~(if inT F.1 p then (bg F.1 p.toNat).2 else 0) == 0) = false then 7 else 0 := by rw [addC, if_neg (by rw [hin]; decide), if_neg (by omega), if_neg h4]
  repeat refine seq ?_
  refine reg 9 Mix.mix hf (by decide +kernel) ?_
  refine st (ldW T37 rfl B5 rfl) ?_
  refine st (mv rfl) ?_
  refine st (call1 En37 rfl (fun v w he h => fverts_spec F v w h (by omega))) ?_
  refine st (call2 En78 rfl rfl (fun v u w he h h' => by cases h; cases h'; exact inter_spec _ _ w)) ?_
  refine st (mv rfl) ?_
  refine st (mv rfl) ?_
  refine st (call2 En22 rfl rfl (fun v u w he h h' => by cases h'; exact fbag_spec F _ _ w h)) ?_
  refine st (call2 En73 rfl rfl (fun v u w he h h' => by cases h; cases h'; exact subset_spec _ _ w)) ?_
  refine st (notp rfl) ?_
  refine en fun a w e' hf => ?_
  replace hT := hT.ext e'
  replace e := Ext.tr e e'
  replace B5 := B5.ext e'
  clear e'
  refine tl_as hf rfl (by decide) fun a hf => ?_
  refine tl_nil ?_
  repeat refine seq ?_
  refine ifc hf rfl (fun hb => ?_) (fun hb => ?_)
  · have hb' := hb
    rw [Bool.not_eq_true'] at hb'
    repeat refine seq ?_
    refine regn0 ?_
    refine tl_as hf rfl (by decide) fun a hf => ?_
    refine tl_as hf rfl (by decide) fun a hf => ?_
    refine tl_nil ?_
    refine wret (ret2 rfl hf rfl rfl ?_)
    rintro _ _ rfl rfl
    exact ⟨_, rfl, e, bad 7 (by rw [hcc, if_pos hb']) (by decide) _⟩
  have hb' : ((S &&& unionTo F.1 F.1.length) &&& ~~~(if inT F.1 p then (bg F.1 p.toNat).2 else 0) == 0) = true := by rw [Bool.not_eq_false'] at hb; exact hb
  have hc0 : addC F p S = 0 := by rw [hcc, if_neg (by rw [hb']; decide)]
  clear hb
  refine wskip ?_
  try simp only [Exit.then, Exit.inBlock, ↓reduceIte]
  replace hf := hf.keep [0, 1, 5]
  dsimp only [keep, List.filterMap, look, Nat.beq, Option.map] at hf
  haveI : InS (GB W Go.Mono.G0) (fun b => W.heap.size ≤ b) := ⟨fun b hb => .inr hb⟩
  repeat refine seq ?_
  refine regQ 10 [false, false, false, false, false, false] (fun b => W.heap.size ≤ b) (fun w => Tab w) (fun w w1 k h => h.ext k) Mix.mix hf (by decide +kernel) (by decide +kernel) ?_
  refine qa (mv rfl) ?_
  refine qa (call1 (A := OwA bagE 86 W.heap.size Go.Mono.G0 F.1) En36 rfl (fun v w he h => fbagsO_spec W.heap.size F v w h (by omega) (Nat.le_trans e.size he.size))) ?_
  refine qa (mv rfl) ?_
  refine qa (ldW T37 rfl B5 rfl) ?_
  refine qa (bld2 (e1 := intE) (e2 := setE) (a := p) (b := S) (G := Go.Mono.G0) Tryd.underlying86 rfl rfl rfl S3 S37 I86 rfl (isI rfl) (isS rfl)) ?_
  refine qa (bsl1 (G := Go.Mono.G0) Tryd.underlying23 I86 rfl (by decide) rfl (fun b hb => hb.elim) (isR rfl)) ?_
  refine qx (xappF (G' := Go.Mono.G0) Tryd.underlying23 I86 rfl rfl rfl (isR rfl) (by simp only [List.length_singleton]; omega) (by simp only [List.length_singleton, maxLen]; omega) (fun w w' c h => h.ch c (by omega)) (fun w he => hT.ext he)) ?_
  refine qp (fun w1 h1 HF1 => call1 En32 rfl (fun v w he h => fnew0_spec (F.1 ++ [(p, S)]) v w (HF1.ext he) (OwR.sl h) (by simp only [List.length_append, List.length_singleton]; omega))) ?_
  refine qp (fun w1 h1 HF1 => ext_ rfl rfl) ?_
  refine qp (fun w1 h1 HF1 => ext_ rfl rfl) ?_
  refine qe ?_
  refine fun a w hc HF hf => ?_
  try dsimp only [push] at hf
  replace e := e.ch hc fun b hb => hb
  clear HF hc
  refine tl_as hf rfl (by decide) fun a hf => ?_
  refine tl_as hf rfl (by decide) fun a hf => ?_
  refine tl_nil ?_
  refine wret (ret2 rfl hf rfl rfl ?_)
  rintro u _ hu rfl
  exact ⟨_, rfl, e, Tup.two (.inl ⟨hc0, hu⟩) (by rw [addN, if_pos hc0]; rfl)⟩
end Go.Mono
