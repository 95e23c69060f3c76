/-
  XEqNil.
  No condition.
-/
import Derived.Test.YtnhbkdliljcedaaGreatDoorWE
import Derived.Test.YtnhbkdliljcedaaGreatDoorWD
import Derived.Test.YtnhbkdliljcedaaGreatDoorWC
set_option linter.unusedVariables false
set_option linter.unusedSimpArgs false
set_option linter.unusedVariables false
set_option linter.unusedSimpArgs false
namespace Go.Mono
open Go Go.Proofs Go.RowKit

theorem cmpN_zero {a b : List Int} : ∀ {i k : Nat}, cmpN a b i k = 0 → i = k ∧ ∀ j, j < i → gi a j = gi b j
  | 0, 0, _ => ⟨rfl, fun j hj => by omega⟩
  | 0, _ + 1, h => by simp [cmpN] at h
  | _ + 1, 0, h => by simp [cmpN] at h
  | i + 1, k + 1, h => by
    rw [cmpN] at h
    by_cases h1 : gi b k < gi a i
    · rw [if_pos h1] at h; simp at h
    rw [if_neg h1] at h
    by_cases h2 : gi a i < gi b k
    · rw [if_pos h2] at h; simp at h
    rw [if_neg h2] at h
    obtain ⟨h3, h4⟩ := cmpN_zero h
    subst h3
    refine ⟨rfl, fun j hj => ?_⟩
    by_cases hji : j = i
    · subst hji; omega
    · exact h4 j (by omega)
theorem cmpL_zero {a b : List Int} (h : cmpL a b = 0) : a = b := by
  obtain ⟨h1, h2⟩ := cmpN_zero h
  refine List.ext_getElem? fun j => ?_
  by_cases hj : j < a.length
  · rw [gi_get hj, gi_get (by omega), h2 j hj]
  · rw [List.getElem?_eq_none (by omega), List.getElem?_eq_none (by omega)]
theorem toL_inj {S T : BS} (h : toL S = toL T) : S = T := set_ext fun k hk => by rw [← toL_mem hk, h, toL_mem hk]
theorem same_iff (s t : List (Int × BS)) : ((toT s).length = (toT t).length ∧ ∀ i, i < (toT s).length → up (toT s) i = up (toT t) i ∧ cmpL (hs (toT s) i) (hs (toT t) i) = 0) ↔ s = t := by
  constructor
  · rintro ⟨h1, h2⟩
    rw [toT_len, toT_len] at h1
    refine List.ext_getElem? fun i => ?_
    by_cases hi : i < s.length
    · have := h2 i (by rw [toT_len]; exact hi)
      rw [toT_up hi, toT_up (t := t) (by omega), toT_hs hi, toT_hs (t := t) (by omega)] at this
      rw [bg_get hi, bg_get (t := t) (by omega)]
      exact congrArg some (Prod.ext this.1 (toL_inj (cmpL_zero this.2)))
    · rw [List.getElem?_eq_none (by omega), List.getElem?_eq_none (by omega)]
  · rintro rfl
    exact ⟨rfl, fun i _ => ⟨rfl, cmpL_self _⟩⟩
theorem root_lt {t : List (Int × BS)} (V : Vals (toT t)) : ∃ r : Nat, r < t.length ∧ fstB (fun b => decide (b.1 < 0)) t = (r : Int) := by
  by_cases h : ∃ i, i < t.length ∧ decide ((bg t i).1 < 0) = true
  · obtain ⟨m, hm, hmin⟩ := least (p := fun j => j < t.length ∧ decide ((bg t j).1 < 0) = true) h
    refine ⟨m, hm.1, fstN_hit hm.1 (fun i hi => ?_) hm.2⟩
    have := hmin i hi
    cases hd : decide ((bg t i).1 < 0)
    · exact hd
    · exact absurd ⟨by omega, hd⟩ this
  · exfalso
    have hr := V.root
    cases hs : selN (fun i => decide (up (toT t) i < 0)) (toT t).length with
    | nil => rw [hs] at hr; simp at hr
    | cons x l =>
      obtain ⟨i, h1, h2, _⟩ := mem_selN.1 (show x ∈ selN (fun i => decide (up (toT t) i < 0)) (toT t).length by rw [hs]; simp)
      rw [toT_len] at h1
      rw [toT_up h1] at h2
      exact h ⟨i, h1, h2⟩

theorem fchildrenO_spec {G : Nat → Prop} (Bz : Nat) (F : Fm) (b : Int) (v : Value) (W : World) (h : (Dv (ptE frE) G (some F)).p v W) (hl : F.2.1.length = F.1.length) (hn : (ofF F b).1.length ≤ 4096) (hB : Bz ≤ W.heap.size) :
    Calls Tryz.prog 29 #[v, I b] W (Post (OwA intE 3 Bz Go.Mono.G0 (ofF F b).1) W) := by
  refine enter (args := [v, I b]) (As := [Dv (ptE frE) G (some F), E (I b)]) Tryz.func29 rfl Tryz.ntmps29 (Nat.le_of_ble_eq_true rfl) ?_ (fun a hf => ?_) (Nat.le_of_ble_eq_true rfl)
  rotate_left
  dsimp only [params, Nat.reduceAdd] at hf
  rotate_right
  · exact arg2 h rfl
  have e := Ext.rfl' W
  repeat refine seq ?_
  refine regn0 ?_
  refine tl_as hf rfl (by decide) fun a hf => ?_
  refine tl_nil ?_
  repeat refine seq ?_
  refine regn 5 hf (by decide +kernel) ?_
  refine st (mv rfl) ?_
  refine st (mv rfl) ?_
  refine st (call2 En84 rfl rfl (fun v u w he h h' => by cases h'; exact fof_spec F _ _ w h hl)) ?_
  refine st (fieldD rfl Tryz.underlying134 rfl T59 rfl (Fld.fst Fld.refl) (isR rfl)) ?_
  refine st (call1 (A := OwA intE 3 Bz Go.Mono.G0 (ofF F b).1) En83 rfl (fun v w he h => Calls.mono (cloneO_spec _ _ w h hn) (fun en w' ⟨u, h1, h2, h3⟩ => ⟨u, h1, h2, OwR.lower (B' := Bz) h3 (Nat.le_trans hB (Nat.le_trans e.size he.size)) (fun b hb => hb.elim)⟩))) ?_
  refine en fun a w e' hf => ?_
  replace e := Ext.tr e e'
  clear e'
  refine tl_as hf rfl (by decide) fun a hf => ?_
  refine tl_nil ?_
  refine wret ?_
  try simp only [Exit.then, Exit.inBlock]
  refine ret1 rfl hf rfl ?_
  intro v hv
  exact ⟨_, rfl, e, hv⟩

theorem nverts_spec (W : World) : Calls Tryz.prog 39 #[.pointer none] W (Post (E (setV 0)) W) := by
  refine enter (args := [.pointer none]) (As := [E (.pointer none)]) Tryz.func39 rfl Tryz.ntmps39 (Nat.le_of_ble_eq_true rfl) ?_ (fun a hf => ?_) (Nat.le_of_ble_eq_true rfl)
  rotate_left
  dsimp only [params, Nat.reduceAdd] at hf
  rotate_right
  · exact arg1 rfl
  have e := Ext.rfl' W
  repeat refine seq ?_
  refine regn0 ?_
  refine tl_alloc I67 hf (by decide) fun a b2 w e' hb2 hs2 B2 hf => ?_
  have hle2 := Nat.le_trans e.size (Nat.le_of_eq hb2.symm)
  replace e := Ext.tr e e'
  clear e'
  refine tl_nil ?_
  repeat refine seq ?_
  refine regn0 ?_
  refine tl_alloc I67 hf (by decide) fun a b3 w e' hb3 hs3 B3 hf => ?_
  have hle3 := Nat.le_trans e.size (Nat.le_of_eq hb3.symm)
  have lt3_B2 := B2.lt
  replace e := Ext.tr e e'
  replace B2 := B2.ext e'
  clear e'
  refine tl_nil ?_
  have hne : b2 ≠ b3 := by omega
  simp only [Value.cells, zeroC] at B2 B3
  replace hf := hf.keep [0, 2, 3]
  dsimp only [keep, List.filterMap, look, Nat.beq, Option.map] at hf
  repeat refine seq ?_
  refine regn 4 hf (by decide +kernel) ?_
  refine st (mv rfl) ?_
  refine st (call1 En21 rfl (fun v w he h => by cases h; exact nbags_spec w)) ?_
  refine st (lenE Tryz.underlying23 rfl) ?_
  refine st (mv rfl) ?_
  refine en fun a w e' hf => ?_
  replace e := Ext.tr e e'
  replace B2 := B2.ext e'
  replace B3 := B3.ext e'
  clear e'
  refine tl_nil ?_
  replace hf := hf.keep [2, 3, 8, 9]
  dsimp only [keep, List.filterMap, look, Nat.beq, Option.map] at hf
  repeat refine seq ?_
  refine blk (loopN (fun r0 a w => Fr 19 a w [(2, E (.pointer (some ⟨b2, 0, none⟩))), (3, E (.pointer (some ⟨b3, 0, none⟩))), (8, E (I 0)), (9, E (I 0))] ∧ Ext W w ∧ Blk w b2 (setC 0) 67 ∧ Blk w b3 (setC 0) 67) 0 ⟨hf, e, B2, B3⟩ ?_)
  clear hf e B2 B3
  rintro r0 a w ⟨hf, e, B2, B3⟩
  repeat refine seq ?_
  refine regn 1 hf (by decide +kernel) ?_
  refine st (lss rfl rfl) ?_
  refine en fun a w e' hf => ?_
  replace e := Ext.tr e e'
  replace B2 := B2.ext e'
  replace B3 := B3.ext e'
  clear e'
  refine tl_nil ?_
  repeat refine seq ?_
  refine ifc hf rfl (fun hc => by simp at hc) (fun hc => wexit ?_)
  simp only [Exit.then, Exit.inBlock, ↓reduceIte]
  have l2 := B2.lt
  replace hf := hf.keep [2, 3]
  dsimp only [keep, List.filterMap, look, Nat.beq, Option.map] at hf
  repeat refine seq ?_
  refine regn 1 hf (by decide +kernel) ?_
  refine st (ldW T67 rfl (by assumption) rfl) ?_
  refine en fun a w e' hf => ?_
  replace e := Ext.tr e e'
  replace B2 := B2.ext e'
  replace B3 := B3.ext e'
  clear e'
  haveI hinr : ∀ G0, InR (GB W G0) (some b2) := fun G0 => InR.gb (by omega)
  refine tl_stW T67 hf rfl rfl (wordsC_one _) B2 rfl (rfl) fun w hg hsz B2 hf => ?_
  replace e := e.gr hg (by omega)
  replace B3 := B3.gr hg (by omega)
  clear hg
  refine tl_nil ?_
  refine wret (retS rfl T67 hf rfl B2 e rfl)

theorem nallow_spec (u : Value) (cs : Array Value) (W : World) : Calls Tryz.prog 13 #[.pointer none, u, .agg cs] W (Post (E (I 1)) W) := by
  refine enter (args := [.pointer none, u, .agg cs]) (As := [E (.pointer none), Any, E (.agg cs)]) Tryz.func13 rfl Tryz.ntmps13 (Nat.le_of_ble_eq_true rfl) ?_ (fun a hf => ?_) (Nat.le_of_ble_eq_true rfl)
  rotate_left
  dsimp only [params, Nat.reduceAdd] at hf
  rotate_right
  · exact arg3 rfl trivial rfl
  have e := Ext.rfl' W
  repeat refine seq ?_
  refine regn0 ?_
  refine tl_box hf rfl (by decide) fun a b5 w v5 hv5 e' hb5 hs5 B5 hf => ?_
  have hle5 := Nat.le_trans e.size (Nat.le_of_eq hb5.symm)
  replace e := Ext.tr e e'
  clear e'
  refine tl_as hf rfl (by decide) fun a hf => ?_
  refine tl_nil ?_
  replace hf := hf.keep [0, 1]
  dsimp only [keep, List.filterMap, look, Nat.beq, Option.map] at hf
  repeat refine seq ?_
  refine regn 3 hf (by decide +kernel) ?_
  refine st (mv rfl) ?_
  refine st (mv rfl) ?_
  refine st (call2 En11 rfl rfl (fun v u w he h h' => by cases h; exact nfits_spec u w)) ?_
  refine en fun a w e' hf => ?_
  replace e := Ext.tr e e'
  clear e'
  refine tl_as hf rfl (by decide) fun a hf => ?_
  refine tl_nil ?_
  replace hf := hf.keep [7]
  dsimp only [keep, List.filterMap, look, Nat.beq, Option.map] at hf
  repeat refine seq ?_
  refine regn 2 hf (by decide +kernel) ?_
  refine st (mv rfl) ?_
  refine st (neq rfl rfl) ?_
  refine en fun a w e' hf => ?_
  replace e := Ext.tr e e'
  clear e'
  refine tl_nil ?_
  repeat refine seq ?_
  refine ifc hf rfl (fun _ => ?_) (fun h => by cases h)
  repeat refine seq ?_
  refine regn 1 hf (by decide +kernel) ?_
  refine st (mv rfl) ?_
  refine en fun a w e' hf => ?_
  replace e := Ext.tr e e'
  clear e'
  refine tl_as hf rfl (by decide) fun a hf => ?_
  refine tl_nil ?_
  refine wret ?_
  try simp only [Exit.then, Exit.inBlock]
  refine ret1 rfl hf rfl ?_
  rintro _ rfl
  exact ⟨_, rfl, e, rfl⟩
end Go.Mono
